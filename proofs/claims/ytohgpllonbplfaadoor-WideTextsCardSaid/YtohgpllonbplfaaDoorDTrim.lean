/- Contracts of strings.trimLeftByte and strings.TrimLeft at a cutset of one byte. -/
import Derived.Test.YtohgpllonbplfaaDoorMem
import Derived.Test.YtohgpllonbplfaaDoorProg
import Derived.Lib.Strings
import Derived.Lib.Walk
import Derived.Laws.Strings3
import Derived.KernelRfl
namespace Go.Proofs.YtohgpllonbplfaaDoor
open Go Go.RowKit
set_option linter.unusedVariables false

def strSz : Value → Nat
  | .string s => s.size
  | _ => 0
set_option maxHeartbeats 2000000 in
set_option maxRecDepth 1000000 in
theorem trimByte_any (l : List UInt8) (c : UInt8) (w : World) :
    Calls Tryd.prog 25 #[.string ⟨l.toArray⟩, .int .u8 c.toNat] w fun e w' => e = .returned (.string ⟨(l.dropWhile (· == c)).toArray⟩) ∧ w' = w := by
  go_enter Tryd.func25, Tryd.ntmps25
  go_wp2
  go_loop [0] (fun v => ∃ R : List UInt8, v = .string ⟨R.toArray⟩ ∧ R.dropWhile (· == c) = l.dropWhile (· == c)) (fun v => strSz v)
  case atStart => exact ⟨l, rfl, rfl⟩
  case round =>
    obtain ⟨R, rfl, hR⟩ := hrel
    have HK := Lib.hid hR; clear hR
    cases R with
    | nil =>
      go_wp2
      go_ret
      exact ⟨by have := HK.out; rw [← this]; rfl, rfl⟩
    | cons x r =>
      have hts : (⟨(x :: r).toArray⟩ : ByteArray).size = r.length + 1 := by rfl
      have hb0 : ∀ h, (⟨(x :: r).toArray⟩ : ByteArray)[0]'h = x := fun h => rfl
      have hx1 : (⟨(x :: r).toArray⟩ : ByteArray).extract 1 (r.length + 1) = ⟨r.toArray⟩ := by
        apply ByteArray.ext
        simp
      generalize ht : (⟨(x :: r).toArray⟩ : ByteArray) = t at hts hb0 hx1 ⊢
      have hK3 := Lib.hid ht
      clear ht
      have h0 : 0 < t.size := by omega
      by_cases e : x = c
      · have heq : ((x.toNat : Int) == (c.toNat : Int)) = true := by rw [e]; simp
        go_wp2
        refine ⟨⟨r, rfl, by have := HK.out; rw [List.dropWhile_cons, if_pos (by simpa using e)] at this; exact this⟩, ?_⟩
        show r.length < t.size
        omega
      · have hne' : ¬ (x.toNat : Int) = (c.toNat : Int) := by
          intro h; exact e (UInt8.toNat_inj.1 (by exact_mod_cast h))
        have hbeq : ((x.toNat : Int) == (c.toNat : Int)) = false := by simpa using hne'
        go_wp2
        go_ret
        refine ⟨?_, rfl⟩
        have := HK.out
        rw [List.dropWhile_cons, if_neg (by simpa using e)] at this
        rw [← this]
        exact congrArg (fun b => Ending.returned (Value.string b)) hK3.out.symm
set_option maxHeartbeats 2000000 in
set_option maxRecDepth 1000000 in
theorem trimLeft_any (s : ByteArray) (l : List UInt8) (w : World) (hs : s = ⟨l.toArray⟩) (hl : 0 < l.length) :
    Calls Tryd.prog 15 #[.string s, .string ⟨#[48]⟩] w fun e w' => e = .returned (.string ⟨(l.dropWhile (· == 48)).toArray⟩) ∧ w' = w := by
  have hz : s.size = l.length := by rw [hs]; rfl
  have HT := Lib.hid (trimByte_any l 48)
  rw [← hs] at HT
  have he : s.toList.isEmpty = false := by
    rw [Lib.toList_data, hs]
    cases l with
    | nil => simp at hl
    | cons x r => rfl
  have h48 : decide ((((⟨#[48]⟩ : ByteArray)[0]'Nat.zero_lt_one).toNat : Int) < 128) = true := rfl
  clear hs
  go_enter Tryd.func15, Tryd.ntmps15
  go_wp2_with fail
  refine (HT.out w).mono ?_
  rintro e w' ⟨rfl, rfl⟩
  go_wp2
  go_ret
  exact ⟨rfl, rfl⟩
end Go.Proofs.YtohgpllonbplfaaDoor

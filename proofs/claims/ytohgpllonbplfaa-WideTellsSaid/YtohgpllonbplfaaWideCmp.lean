/- Contracts of wide.Cmp and (wide.Sum).Int. -/
import Derived.Test.YtohgpllonbplfaaWideFns
namespace Go.Proofs.Ytohgpllonbplfaa
open Go.RowKit
set_option linter.unusedVariables false

/-- the order of two numbers -/
def cmpI (a b : Int) : Int := if a = b then 0 else if a < b then -1 else 1
theorem lt_parts (a b : Int) (ha : fits a) (hb : fits b) : a < b ↔ hiW a < hiW b ∨ hiW a = hiW b ∧ loW a < loW b := by unfold fits at *; unfold hiW loW; omega
set_option maxRecDepth 100000 in
theorem cmp_any (a b : Int) (w : World) (ha : fits a) (hb : fits b) :
    Calls Try.prog 11 #[.agg #[.int .i64 (hiW a), .int .u64 (loW a)], .agg #[.int .i64 (hiW b), .int .u64 (loW b)]] w fun e w' => e = .returned (.int .i64 (cmpI a b)) ∧ Below w.heap.size w w' := by
  have hlt := lt_parts a b ha hb
  by_cases h0 : a = b
  · subst h0
    have hc := Lib.hid (show cmpI a a = 0 from if_pos rfl)
    clear hlt
    go_enter Try.func11, Try.ntmps11
    go_wp2
    go_ret
    exact ⟨ret_int hc.out.symm, ((Below.refl _ _).alloc (Nat.le_refl _) _).alloc (by simp) _⟩
  · have HLT := Lib.hid hlt; clear hlt
    have H1 := Lib.hid (show ¬ (hiW a = hiW b ∧ loW a = loW b) from fun h => h0 (parts_inj a b ha hb h.1 h.2))
    have H0 := Lib.hid h0; clear h0
    go_enter Try.func11, Try.ntmps11
    go_wp2
    all_goals
      go_ret
      refine ⟨ret_int ?_, ((Below.refl _ _).alloc (Nat.le_refl _) _).alloc (by simp) _⟩
      have h1 := HLT.out
      have h2 := H0.out
      have h3 := H1.out
      unfold cmpI
      rw [if_neg h2]
      split <;> first | omega | (simp_all; done) | (simp_all; omega)
def isInt (v : Int) : Prop := -9223372036854775808 ≤ v ∧ v ≤ 9223372036854775807
instance (v : Int) : Decidable (isInt v) := by unfold isInt; exact inferInstance
theorem int_yes (v : Int) (w : World) (hv : isInt v) :
    Calls Try.prog 9 #[.agg #[.int .i64 (hiW v), .int .u64 (loW v)]] w fun e w' => e = .returned (.tuple #[.int .i64 v, .bool true]) ∧ Below w.heap.size w w' := by
  obtain ⟨h0, h1⟩ := hv
  have e0 : IntKind.i64.wrap (loW v) = v := by rw [IntKind.wrap_i64]; unfold loW; omega
  have e1 : wrap64 (loW v) = v := by unfold wrap64 loW; omega
  obtain ⟨W, hW⟩ : ∃ W, W = w.alloc (.cells #[.int .i64 (hiW v), .int .u64 (loW v)] 25) := ⟨_, rfl⟩
  have c1 : W.cell? ⟨w.heap.size, 0, none⟩ = some (.int .i64 (hiW v)) := by rw [hW]; exact cell_new0 rfl
  have c2 : W.cell? ⟨w.heap.size, 1, none⟩ = some (.int .u64 (loW v)) := by rw [hW]; exact cell_new1 rfl
  have hB : Below w.heap.size w W := by rw [hW]; exact (Below.refl _ _).alloc (Nat.le_refl _) _
  have HW := Lib.hid hW; clear hW
  go_enter Try.func9, Try.ntmps9
  go_wp2_with fail
  rw [← HW.out]
  clear HW
  go_region_held3 (fun w' => w'.cell? ⟨w.heap.size, 0, none⟩ = some (.int .i64 (hiW v)) ∧ w'.cell? ⟨w.heap.size, 1, none⟩ = some (.int .u64 (loW v)))
    ((refine ⟨?_, ?_⟩ <;> (repeat (first | (with_reducible refine cell_dr ?_) | (with_reducible refine cell_be hb ?_))) <;> (with_reducible first | exact c1 | exact c2)))
    ((go_at_call 8; refine (of_any v _ h0 h1).mono ?_; rintro e w1 ⟨rfl, hb⟩))
  go_wp2
  go_ret2
  exact ⟨rfl, bel_step hB.drew (Nat.le_refl _) hb⟩
theorem int_no (v : Int) (w : World) (hv : fits v) (hn : ¬ isInt v) :
    Calls Try.prog 9 #[.agg #[.int .i64 (hiW v), .int .u64 (loW v)]] w fun e w' => e = .returned (.tuple #[.int .i64 0, .bool false]) ∧ Below w.heap.size w w' := by
  obtain ⟨u, hu⟩ : ∃ u, u = wrap64 (loW v) := ⟨_, rfl⟩
  have h0 : -9223372036854775808 ≤ u ∧ u ≤ 9223372036854775807 := by rw [hu]; unfold wrap64; omega
  have hne : ¬ hiW v = hiW u := by
    intro h
    have hl : loW v = loW u := by rw [hu]; unfold wrap64 loW; omega
    have := parts_inj v u hv (by unfold fits; omega) h hl
    rw [this] at hn
    exact hn h0
  have e0 : IntKind.i64.wrap (loW v) = u := by rw [hu, IntKind.wrap_i64]; unfold wrap64; rfl
  have hne2 : (hiW v == hiW u) = false := by simpa using hne
  clear hn hv hu
  obtain ⟨W, hW⟩ : ∃ W, W = w.alloc (.cells #[.int .i64 (hiW v), .int .u64 (loW v)] 25) := ⟨_, rfl⟩
  have c1 : W.cell? ⟨w.heap.size, 0, none⟩ = some (.int .i64 (hiW v)) := by rw [hW]; exact cell_new0 rfl
  have c2 : W.cell? ⟨w.heap.size, 1, none⟩ = some (.int .u64 (loW v)) := by rw [hW]; exact cell_new1 rfl
  have hB : Below w.heap.size w W := by rw [hW]; exact (Below.refl _ _).alloc (Nat.le_refl _) _
  have HW := Lib.hid hW; clear hW
  go_enter Try.func9, Try.ntmps9
  go_wp2_with fail
  rw [← HW.out]
  clear HW
  go_region_held3 (fun w' => w'.cell? ⟨w.heap.size, 0, none⟩ = some (.int .i64 (hiW v)) ∧ w'.cell? ⟨w.heap.size, 1, none⟩ = some (.int .u64 (loW v)))
    ((refine ⟨?_, ?_⟩ <;> (repeat (first | (with_reducible refine cell_dr ?_) | (with_reducible refine cell_be hb ?_))) <;> (with_reducible first | exact c1 | exact c2)))
    ((go_at_call 8; refine (of_any u _ h0.1 h0.2).mono ?_; rintro e w1 ⟨rfl, hb⟩))
  go_wp2
  go_ret2
  exact ⟨rfl, bel_step hB.drew (Nat.le_refl _) hb⟩
end Go.Proofs.Ytohgpllonbplfaa

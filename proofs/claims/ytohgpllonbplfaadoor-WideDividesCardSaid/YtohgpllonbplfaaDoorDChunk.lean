/- The contract of wide.chunk: the digits of a number, at least so many, as a string. -/
import Derived.Test.YtohgpllonbplfaaDoorMem
import Derived.Test.YtohgpllonbplfaaDoorDecMath
import Derived.Test.YtohgpllonbplfaaDoorWordMath
import Derived.Test.YtohgpllonbplfaaDoorProg
import Derived.Laws.IdiomStrings
import Derived.KernelRfl
import Derived.RegionTactic
import Derived.BigRegion
import Derived.Deep.QuietTactic
import Derived.BigQuiet
namespace Go.Proofs.YtohgpllonbplfaaDoor
open Go Go.RowKit
set_option linter.unusedVariables false

/-- bytes as cells -/
def byteCells (L : List UInt8) : List Value := L.map fun x => .int .u8 x.toNat
theorem byteCells_append (L M : List UInt8) : byteCells (L ++ M) = byteCells L ++ byteCells M := by simp [byteCells]
theorem byteCells_length (L : List UInt8) : (byteCells L).length = L.length := by simp [byteCells]
theorem byteElem : Elem Tryd.prog 66 5 (.int .u8 0) 1 1 := Elem.mk' Tryd.underlying66 (by kernel_rfl) rfl (by decide)
/-- the digits so far, and what is left of the number -/
def ChRel (w : World) (L : List UInt8) (least : Nat) (v0 v5 : Value) (wr : World) : Prop :=
  ∃ (u : Nat) (M : List UInt8) (A : Option Addr) (c : Nat), v0 = .int .u64 u ∧ v5 = .slice A M.length c ∧ u < 18446744073709551616 ∧ M ++ lowD u (least - M.length) = L ∧
    wr.ownsRow w.heap.size 5 1 (.slice A M.length c) M.length (byteCells M) ∧ Below w.heap.size w wr
/-- a row whose ends were exchanged so far -/
def swapped (L : List UInt8) (i j : Nat) : UInt8 := if j < i ∨ L.length - 1 - i < j then L.getD (L.length - 1 - j) 0 else L.getD j 0
def swapCells (L : List UInt8) (i : Nat) : List Value := (List.range L.length).map fun j => .int .u8 (swapped L i j).toNat
theorem swap_zero (L : List UInt8) : swapCells L 0 = byteCells L := by
  unfold swapCells byteCells
  apply List.ext_getElem
  · simp
  · intro j h1 h2
    simp only [List.getElem_map, List.getElem_range, swapped]
    simp only [List.length_map, List.length_range] at h1
    rw [if_neg (by omega), List.getD_eq_getElem?_getD, List.getElem?_eq_getElem (by omega), Option.getD_some]
theorem swap_at (L : List UInt8) (i j : Nat) (hj : j < L.length) : (swapCells L i)[j]? = some (.int .u8 (swapped L i j).toNat) := by
  unfold swapCells
  rw [List.getElem?_map, List.getElem?_range hj]; rfl
theorem swap_step (L : List UInt8) (i : Nat) (h : i < L.length - 1 - i) : ((swapCells L i).set i (.int .u8 (L.getD (L.length - 1 - i) 0).toNat)).set (L.length - 1 - i) (.int .u8 (L.getD i 0).toNat) = swapCells L (i + 1) := by
  apply List.ext_getElem?
  intro j
  by_cases hj : j < L.length
  · rw [swap_at L (i + 1) j hj, List.getElem?_set, List.getElem?_set, swap_at L i j hj]
    simp only [List.length_set, show (swapCells L i).length = L.length by simp [swapCells]]
    by_cases e1 : L.length - 1 - i = j
    · rw [if_pos e1, if_pos (by omega)]
      unfold swapped
      rw [if_pos (by omega), show L.length - 1 - j = i by omega]
    · rw [if_neg e1]
      by_cases e2 : i = j
      · rw [if_pos e2, if_pos (by omega)]
        unfold swapped
        rw [if_pos (by omega), ← e2]
      · rw [if_neg e2]
        unfold swapped
        by_cases e3 : j < i ∨ L.length - 1 - i < j
        · rw [if_pos e3, if_pos (by omega)]
        · rw [if_neg e3, if_neg (by omega)]
  · rw [List.getElem?_eq_none (by simp [swapCells]; omega), List.getElem?_eq_none (by simp [swapCells]; omega)]
theorem swap_end (L : List UInt8) (i : Nat) (h : ¬ i < L.length - 1 - i) (h1 : i ≤ L.length) : swapCells L i = byteCells L.reverse := by
  apply List.ext_getElem?
  intro j
  by_cases hj : j < L.length
  · rw [swap_at L i j hj]
    unfold byteCells
    rw [List.getElem?_map, List.getElem?_reverse hj, List.getElem?_eq_getElem (by omega)]
    have e : swapped L i j = L[L.length - 1 - j]'(by omega) := by
      unfold swapped
      by_cases e3 : j < i ∨ L.length - 1 - i < j
      · rw [if_pos e3, List.getD_eq_getElem?_getD, List.getElem?_eq_getElem (by omega), Option.getD_some]
      · have e4 : L.length - 1 - j = j := by omega
        rw [if_neg e3, List.getD_eq_getElem?_getD, List.getElem?_eq_getElem (by omega), Option.getD_some]
        simp only [e4]
    rw [e]; rfl
  · rw [List.getElem?_eq_none (by simp [swapCells]; omega), List.getElem?_eq_none (by simp [byteCells]; omega)]
def lenV : Value → Nat
  | .slice _ n _ => n
  | _ => 0
def SwRel (w : World) (L : List UInt8) (g c : Nat) (v6 v7 : Value) (wr : World) : Prop :=
  ∃ i p : Nat, i + p + 1 = L.length ∧ i ≤ p + 1 ∧ v6 = .int .i64 i ∧ v7 = .int .i64 p ∧
    wr.ownsRow w.heap.size 5 1 (.slice (some ⟨g, 0, none⟩) L.length c) L.length (swapCells L i) ∧ Below w.heap.size w wr
theorem swap_mid (L : List UInt8) (i p : Nat) (h : i + p + 1 = L.length) (hi : i ≤ p) : (swapCells L i)[i]? = some (.int .u8 (L.getD i 0).toNat) ∧ (swapCells L i)[p]? = some (.int .u8 (L.getD p 0).toNat) := by
  rw [swap_at L i i (by omega), swap_at L i p (by omega)]
  unfold swapped
  rw [if_neg (by omega), if_neg (by omega)]
  exact ⟨rfl, rfl⟩
/-- the row, told as a string -/
theorem string_back (w : World) (g c : Nat) (L : List UInt8) (base : Nat) (h : w.ownsRow base 5 1 (.slice (some ⟨g, 0, none⟩) L.length c) L.length (byteCells L)) :
    (convert 66 9 (.slice (some ⟨g, 0, none⟩) L.length c)).run Tryd.prog w = .ok (.string ⟨L.toArray⟩) w := by
  refine run_convert_bytes_back w _ _ 5 ⟨g, 0, none⟩ c L Tryd.underlying66 Tryd.underlying5 Tryd.underlying9 ?_
  intro j hj
  rw [Addr.add_lit]
  have := World.ownsRow.cellAt h j (by omega)
  rw [Nat.zero_add, this]
  unfold byteCells
  rw [List.getElem?_map, List.getElem?_eq_getElem hj]; rfl
theorem bel_grown {B : Nat} {w0 w w1 : World} {g : Nat} (h : Below B w0 w) (hg : w.grownBy w1 (some g)) (hB : B ≤ w.heap.size) (hb : B ≤ g) : Below B w0 w1 :=
  h.grown hg hB (fun k hk => by cases hk; exact hb)
set_option maxRecDepth 100000 in
set_option maxHeartbeats 2000000 in
theorem chunk_any (u least : Nat) (w : World) (hu : u < 18446744073709551616) (h1 : 1 ≤ least) (h2 : least ≤ 19) :
    Calls Tryd.prog 16 #[.int .u64 u, .int .i64 least] w fun e w' => e = .returned (.string ⟨(lowD u least).reverse.toArray⟩) ∧ Below w.heap.size w w' := by
  obtain ⟨L, hL⟩ : ∃ L, L = lowD u least := ⟨_, rfl⟩
  have hlen : L.length ≤ 20 := by rw [hL]; exact lowD_length2 20 u least (by omega) (by omega)
  have hpos : 0 < L.length := by rw [hL, lowD_cons (by omega)]; simp
  rw [← hL]
  have HL := Lib.hid hL; clear hL
  go_enter Tryd.func16, Tryd.ntmps16
  go_wp2_with fail
  go_loopw [0, 5] (ChRel w L least) (fun v b _ => (intOf v).toNat + (least - lenV b))
  case atStart => exact ⟨u, [], none, 0, rfl, rfl, hu, by rw [HL.out]; rfl, World.ownsRow_nil _ _ _ _, Below.refl _ _⟩
  case round =>
    obtain ⟨u1, M, A, c, rfl, rfl, hu1, hM, hown, hbel⟩ := hrel
    have hl : M.length + (lowD u1 (least - M.length)).length = L.length := by rw [← hM]; simp
    by_cases h0 : 0 < u1 ∨ M.length < least
    · have hne : ¬ (u1 = 0 ∧ least - M.length = 0) := by omega
      rw [lowD_cons hne] at hM hl
      simp only [List.length_cons] at hl
      have em : (u1 : Int).tmod 10 = ((u1 % 10 : Nat) : Int) := by rw [Int.tmod_eq_emod_of_nonneg (by omega)]; omega
      have ed : (u1 : Int).tdiv 10 = ((u1 / 10 : Nat) : Int) := by rw [Int.tdiv_eq_ediv_of_nonneg (by omega)]; omega
      have ew : IntKind.u64.wrap ((u1 / 10 : Nat) : Int) = ((u1 / 10 : Nat) : Int) := by rw [IntKind.wrap_u64]; omega
      have ex : IntKind.u64.wrap (48 + ((u1 % 10 : Nat) : Int)) = 48 + ((u1 % 10 : Nat) : Int) := by rw [IntKind.wrap_u64]; omega
      have ey : (48 + ((u1 % 10 : Nat) : Int)) % 256 = ((dig u1).toNat : Int) := by rw [dig_nat]; omega
      have hsz := hbel.size
      have HM := Lib.hid hM
      have hne' := Lib.hid hne
      clear hM hne
      obtain ⟨d, hd⟩ : ∃ d, d = u1 % 10 := ⟨_, rfl⟩
      obtain ⟨q, hq⟩ : ∃ q, q = u1 / 10 := ⟨_, rfl⟩
      rw [← hd] at em ex ey
      rw [← hq] at ed ew
      have HQ := Lib.hid hq; clear hq hd
      by_cases h3 : 0 < u1
      · go_wp2_with (at_builtin; refine wpList_append_new byteElem hown hbel (Nat.le_refl _) (by omega) rfl _ _ rfl [.int .u8 (dig u1).toNat] rfl rfl rfl (by simp [Value.oneCell']) (by unfold maxLen; omega) (by omega) ?_; intro A1 c1 w3 ho3 hb3 _)
        have e1 : (M ++ [dig u1]).length = M.length + 1 := by simp
        refine ⟨⟨q, M ++ [dig u1], A1, c1, rfl, by rw [e1], by have := HQ.out; omega, ?_, ?_, hb3⟩, ?_⟩
        · have := HM.out
          rw [HQ.out, e1, List.append_assoc, show least - (M.length + 1) = least - M.length - 1 by omega]
          exact this
        · rw [e1, byteCells_append]; exact ho3
        · have := HQ.out
          have := hne'.out
          simp [intOf, lenV]; omega
      · have h4 : M.length < least := by omega
        go_wp2_with (at_builtin; refine wpList_append_new byteElem hown hbel (Nat.le_refl _) (by omega) rfl _ _ rfl [.int .u8 (dig u1).toNat] rfl rfl rfl (by simp [Value.oneCell']) (by unfold maxLen; omega) (by omega) ?_; intro A1 c1 w3 ho3 hb3 _)
        have e1 : (M ++ [dig u1]).length = M.length + 1 := by simp
        refine ⟨⟨q, M ++ [dig u1], A1, c1, rfl, by rw [e1], by have := HQ.out; omega, ?_, ?_, hb3⟩, ?_⟩
        · have := HM.out
          rw [HQ.out, e1, List.append_assoc, show least - (M.length + 1) = least - M.length - 1 by omega]
          exact this
        · rw [e1, byteCells_append]; exact ho3
        · have := HQ.out
          have := hne'.out
          simp [intOf, lenV]; omega
    · obtain rfl : u1 = 0 := by omega
      have h4 : ¬ M.length < least := by omega
      have e0 : least - M.length = 0 := by omega
      rw [e0, lowD_nil, List.append_nil] at hM
      subst hM
      have hM1 : IntKind.i64.wrap ((M.length : Int) - 1) = (M.length : Int) - 1 := IntWalk.i64_in _ (by omega)
      obtain ⟨g, rfl⟩ : ∃ g, A = some ⟨g, 0, none⟩ := by
        rcases hown.2 with ⟨h, _⟩ | ⟨g, cap, cur, h, _⟩
        · injection h with h5 h6; omega
        · injection h with h5 h6; exact ⟨g, h5⟩
      have HP := Lib.hid hpos
      rw [← swap_zero] at hown
      clear hpos h0 e0 hl
      go_wp2_with fail
      go_loopw [6, 7] (SwRel w M g c) (fun i k _ => M.length - (intOf i).toNat)
      case atStart => exact ⟨0, M.length - 1, by omega, by omega, rfl, by have := HP.out; congr 1; omega, hown, hbel⟩
      case round =>
        clear hown hbel
        obtain ⟨i, p, hip, hpi, rfl, rfl, hown, hbel⟩ := hrel
        have hgb := hown.lt g rfl
        by_cases h5 : i < p
        · obtain ⟨m1, m2⟩ := swap_mid M i p hip (by omega)
          have z1 := hown.cellAt i (by omega)
          rw [m1] at z1
          have z2 := hown.cellAt p (by omega)
          rw [m2] at z2
          have f1 := hown.frozenAt i
          have f2 := hown.frozenAt p
          have HS := Lib.hid (swap_step M i (by omega))
          rw [show M.length - 1 - i = p by omega] at HS
          obtain ⟨x, hx⟩ : ∃ x, x = (M.getD i 0) := ⟨_, rfl⟩
          obtain ⟨y, hy⟩ : ∃ y, y = (M.getD p 0) := ⟨_, rfl⟩
          rw [← hx] at z1 HS
          rw [← hy] at z2 HS
          have HO := Lib.hid hown
          have i0 : (i : Int) < (M.length : Int) := by omega
          have i1 : (p : Int) < (M.length : Int) := by omega
          have hpw : IntKind.i64.wrap ((p : Int) - 1) = ((p - 1 : Nat) : Int) := by rw [IntWalk.i64_in _ (by omega)]; omega
          have hiw : IntKind.i64.wrap ((i : Int) + 1) = ((i + 1 : Nat) : Int) := by rw [IntWalk.i64_in _ (by omega)]; omega
          clear m1 m2 hx hy hown
          go_wp2_with fail
          go_region
          go_wp2
          obtain ⟨o1, b1⟩ := HO.out.stored i (.int .u8 y.toNat)
          obtain ⟨o2, b2⟩ := o1.stored p (.int .u8 x.toNat)
          rw [HS.out] at o2
          have q1 := bel_grown hbel b1 hbel.size hgb.1
          have q2 := bel_grown q1 b2 q1.size hgb.1
          exact ⟨⟨i + 1, p - 1, by omega, by omega, by go_num, rfl, o2, q2.drew⟩, by simp [intOf]; omega⟩
        · have he := swap_end M i (by omega) (by omega)
          rw [he] at hown
          have hlr : M.reverse.length = M.length := by simp
          rw [← hlr] at hown
          have hback := string_back wr g c M.reverse _ hown
          rw [hlr] at hback
          clear he hown
          go_wp2
          go_ret
          exact ⟨rfl, hbel⟩
theorem chunk_1 (u : Nat) (w : World) (hu : u < 18446744073709551616) :
    Calls Tryd.prog 16 #[.int .u64 u, .int .i64 1] w fun e w' => e = .returned (.string ⟨(lowD u 1).reverse.toArray⟩) ∧ Below w.heap.size w w' := chunk_any u 1 w hu (by omega) (by omega)
theorem chunk_19 (u : Nat) (w : World) (hu : u < 18446744073709551616) :
    Calls Tryd.prog 16 #[.int .u64 u, .int .i64 19] w fun e w' => e = .returned (.string ⟨(lowD u 19).reverse.toArray⟩) ∧ Below w.heap.size w w' := chunk_any u 19 w hu (by omega) (by omega)
end Go.Proofs.YtohgpllonbplfaaDoor

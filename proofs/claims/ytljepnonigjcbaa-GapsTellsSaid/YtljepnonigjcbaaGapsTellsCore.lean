/- The walk of GapsTells, over what the two fillings tell. -/
import Derived.Test.YtljepnonigjcbaaRowsArg
import Derived.Test.YtljepnonigjcbaaWideFns
import Derived.Deep.DeepCutAuto
import Derived.Deep.RegionHeld3
import Derived.Lib.Hide
import Derived.Test.YtljepnonigjcbaaGRows
namespace Go.Proofs.Ytljepnonigjcbaa
open Go Go.RowKit
set_option linter.unusedVariables false

/-- what a filling tells, as the law reads it -/
def TellOut (w : World) (O : List Rw) (k : Int) (e : Ending) (w' : World) : Prop :=
  ∃ A c, e = .returned (.tuple #[.slice A O.length c, .int .i64 k]) ∧ RowsAt w' A O ∧ Below w.heap.size w w'
theorem RowsAt.take {w : World} {A : Option Addr} {R : List Rw} (h : RowsAt w A R) (n : Nat) : RowsAt w A (R.take n) := by
  intro h0
  have hl : (R.take n).length ≤ R.length := by simp; omega
  obtain ⟨b, off, e, hb, hc⟩ := h (by omega)
  refine ⟨b, off, e, hb, fun j hj => ?_⟩
  rw [hc j (by omega)]
  have : (R.take n).getD (j / 5) rw0 = R.getD (j / 5) rw0 := by
    rw [List.getD_eq_getElem?_getD, List.getD_eq_getElem?_getD, List.getElem?_take_of_lt (by simp at hj; omega)]
  unfold rwCell
  rw [this]
/-- at most 300 rows -/
structure Cut (w : World) (A : Option Addr) (R : List Rw) (c : Nat) : Prop where
  at_ : RowsAt w A R
  n : R.length ≤ 300
  le : R.length ≤ c
  max : c ≤ 9223372036854775807
  nil : A = none → c = 0
  ok : ∀ r ∈ R, rwOk r
def CutR (w W0 : World) (A : Option Addr) (t : Value) (wx : World) : Prop := ∃ R c, t = .slice A R.length c ∧ Cut w A R c ∧ W0 = wx
def ManyR (W0 : World) (t : Value) (wx : World) : Prop := ∃ (b : Bool), t = .bool b ∧ W0 = wx
set_option maxRecDepth 100000 in
set_option maxHeartbeats 8000000 in
theorem gapsTells_core (w : World) (A : Option Addr) (n0 c0 : Nat) (R0 : List Rw) (hA : RowsArg w A n0 c0 R0) (W S O f t how : Int)
    (hff : ∀ R c, Cut w A R c → ∃ X k, X.length ≤ 65536 ∧ (∀ w1, RowsAt w1 A R → Calls Try.prog 6 #[.slice A R.length c, .agg #[.int .i64 W, .int .i64 S, .int .i64 O], .agg #[.int .i64 f, .int .i64 t], .int .i64 how] w1 (TellOut w1 X k)) ∧
      (∀ w1, RowsAt w1 A R → Calls Try.prog 7 #[.slice A R.length c, .int .i64 W, .int .i64 S, .int .i64 O, .int .i64 f, .int .i64 t, .int .i64 how] w1 (TellOut w1 X k)))
    (hone : ∀ w1, Calls Try.prog 6 #[.slice none 0 0, .agg #[.int .i64 5, .int .i64 5, .int .i64 0], .agg #[.int .i64 0, .int .i64 10], .int .i64 1] w1 (TellOut w1 [nullRow 0 5, nullRow 5 10] 0))
    (hsame : ∀ (A B : Option Addr) (X : List Rw) (c d : Nat) (w1 : World), RowsAt w1 A X → RowsAt w1 B X → X.length ≤ 65536 → Calls Try.prog 8 #[.slice A X.length c, .slice B X.length d] w1 fun e w' => e = .returned (.bool true) ∧ Below w1.heap.size w1 w') :
    Calls Try.prog 3 #[.slice A n0 c0, .agg #[.int .i64 W, .int .i64 S, .int .i64 O], .agg #[.int .i64 f, .int .i64 t, .int .i64 how]] w fun e w' => e = .returned (.bool true) ∧ Below w.heap.size w w' := by
  have QA := Lib.hid hA
  have HFF := Lib.hid hff; have HONE := Lib.hid hone; have HSAME := Lib.hid hsame
  have lA := hA.le
  have mA := hA.max
  clear hA hff hone hsame
  go_enter Try.func3, Try.ntmps3
  go_upto_if 15 with fail
  obtain ⟨W0, hW0⟩ : ∃ W0, W0 = (w.alloc (.cells #[.int .i64 W, .int .i64 S, .int .i64 O] 24)).alloc (.cells #[.int .i64 f, .int .i64 t, .int .i64 how] 28) := ⟨_, rfl⟩
  rw [← hW0]
  have d0 : W0.cell? ⟨w.heap.size, 0, none⟩ = some (.int .i64 W) := by rw [hW0]; simp
  have d1 : W0.cell? ⟨w.heap.size, 1, none⟩ = some (.int .i64 S) := by rw [hW0]; simp
  have d2 : W0.cell? ⟨w.heap.size, 2, none⟩ = some (.int .i64 O) := by rw [hW0]; simp
  have d3 : W0.cell? ⟨w.heap.size + 1, 0, none⟩ = some (.int .i64 f) := by rw [hW0]; simp
  have d4 : W0.cell? ⟨w.heap.size + 1, 1, none⟩ = some (.int .i64 t) := by rw [hW0]; simp
  have d5 : W0.cell? ⟨w.heap.size + 1, 2, none⟩ = some (.int .i64 how) := by rw [hW0]; simp
  have hB : Below w.heap.size w W0 := by rw [hW0]; exact ((Below.refl _ _).alloc (Nat.le_refl _) _).alloc (by simp) _
  clear hW0
  go_cut [0] (CutR w W0 A)
  case first =>
    rcases Nat.lt_or_ge 300 n0 with h | h
    · have e0 : decide (300 < (n0 : Int)) = true := by simp; omega
      have e1 : (300 : Int) ≤ (c0 : Int) := by omega
      have e2 : 300 ≤ c0 := by omega
      go_wp2_with fail
      go_meet
      have hl : (R0.take 300).length = 300 := by simp; have := QA.out.len; omega
      exact ⟨R0.take 300, c0, by rw [hl], ⟨QA.out.at_.take 300, by omega, by omega, mA, QA.out.nil, fun r hr => QA.out.ok r (List.mem_of_mem_take hr)⟩, rfl⟩
    · have e0 : decide (300 < (n0 : Int)) = false := by simp; omega
      go_wp2_with fail
      go_meet
      have hl := QA.out.len
      exact ⟨R0, c0, by rw [hl], ⟨QA.out.at_, by omega, by omega, mA, QA.out.nil, QA.out.ok⟩, rfl⟩
  case rest =>
  obtain ⟨R, c, rfl, hcut', rfl⟩ := hcut
  obtain ⟨X, k, hX, c1, c2⟩ := HFF.out R c hcut'
  have HRA := Lib.hid (hcut'.at_.below hB)
  have C1 := Lib.hid c1; have C2 := Lib.hid c2
  clear hcut' c1 c2 HFF QA lA mA
  go_upto_region 3 with fail
  go_cut [42] (ManyR W0)
  case first =>
    go_wp2_with fail
    all_goals (go_meet; exact ⟨_, rfl, rfl⟩)
  case rest =>
  obtain ⟨b, rfl, rfl⟩ := hcut
  cases b with
  | true =>
    go_wp2
    go_ret
    exact ⟨rfl, hB⟩
  | false =>
    go_wp2_with fail
    with_reducible refine (C1.out _ HRA.out).mono ?_
    rintro e w1 ⟨A1, c1, rfl, hr1, hb1⟩
    replace hB := bel_step hB (Nat.le_refl _) hb1
    replace HRA := Lib.hid (HRA.out.below hb1)
    replace d0 := cell_be hb1 d0; replace d1 := cell_be hb1 d1; replace d2 := cell_be hb1 d2; replace d3 := cell_be hb1 d3; replace d4 := cell_be hb1 d4; replace d5 := cell_be hb1 d5
    clear hb1 C1
    go_wp2_with fail
    with_reducible refine (C2.out _ HRA.out).mono ?_
    rintro e w2 ⟨A2, c2, rfl, hr2, hb2⟩
    replace hB := bel_step hB (Nat.le_refl _) hb2
    replace hr1 := hr1.below hb2
    clear hb2 C2 HRA d0 d1 d2 d3 d4 d5
    go_wp2_with fail
    with_reducible refine (HONE.out _).mono ?_
    rintro e w3 ⟨A3, c3, rfl, hr3, hb3⟩
    replace hB := bel_step hB (Nat.le_refl _) hb3
    replace hr1 := hr1.below hb3
    replace hr2 := hr2.below hb3
    clear hb3 HONE
    obtain ⟨b3, f3, rfl, hb3, hc3⟩ := hr3 (by decide)
    obtain ⟨_, _, z, _, _⟩ := RowsAt.at_ hc3 (i := 0) (by decide)
    replace z : w3.cell? ⟨b3, f3 + 2, none⟩ = some (.bool true) := z
    simp only [List.length_cons, List.length_nil, Nat.zero_add]
    clear hc3 hb3
    go_wp2_with fail
    with_reducible refine (HSAME.out _ _ _ _ _ _ hr1 hr2 hX).mono ?_
    rintro e w4 ⟨rfl, hb4⟩
    replace hB := bel_step hB (Nat.le_refl _) hb4
    replace z := cell_be hb4 z
    have ek : (k == k) = true := by simp
    go_wp2
    go_ret
    exact ⟨rfl, hB⟩
end Go.Proofs.Ytljepnonigjcbaa

/- Contracts of wide.Sum's Int; of tidemillref07.Text for any number. -/
import Derived.Test.YtohgpllonbplfaaDoorDWide
import Derived.Test.YtohgpllonbplfaaDoorDRefText
import Derived.Deep.RegionHeld3
namespace Go.Proofs.YtohgpllonbplfaaDoor
open Go Go.RowKit
set_option linter.unusedVariables false

theorem rtext_any (a : Int) (w : World) (ha : fits a) :
    Calls Tryd.prog 9 #[.agg #[.int .i64 (lb a 0), .int .i64 (lb a 1), .int .i64 (lb a 2), .int .i64 (lb a 3), .int .i64 (lb a 4), .int .i64 (lb a 5), .int .i64 (lb a 6), .int .i64 (lb a 7)]] w fun e w' => e = .returned (.string ⟨(textL a).toArray⟩) ∧ Below w.heap.size w w' := by
  rcases (show a = 0 ∨ a < 0 ∨ 0 < a by omega) with rfl | h | h
  · have : textL 0 = [48] := by unfold textL; rw [if_pos rfl]
    rw [this]
    exact rtext_zero w
  · exact rtext_neg a w ha h
  · exact rtext_pos a w ha h
set_option maxRecDepth 100000 in
theorem int_yes (a : Int) (w : World) (h0 : -9223372036854775808 ≤ a) (h1 : a ≤ 9223372036854775807) :
    Calls Tryd.prog 8 #[.agg #[.int .i64 (hiW a), .int .u64 (loW a)]] w fun e w' => e = .returned (.tuple #[.int .i64 a, .bool true]) ∧ Below w.heap.size w w' := by
  have HO := Lib.hid (fun w => of_any a w h0 h1)
  have e1 : IntKind.i64.wrap (loW a) = a := by rw [IntWalk.i64_left]; unfold wrap64 loW; omega
  have e2 : wrap64 (loW a) = a := by unfold wrap64 loW; omega
  clear h0 h1
  go_enter Tryd.func8, Tryd.ntmps8
  go_wp2_with fail
  obtain ⟨W0, hW0⟩ : ∃ W0, W0 = w.alloc (.cells #[.int .i64 (hiW a), .int .u64 (loW a)] 24) := ⟨_, rfl⟩
  rw [← hW0]
  have a0 : W0.cell? ⟨w.heap.size, 0, none⟩ = some (.int .i64 (hiW a)) := by rw [hW0]; exact cell_new0 rfl
  have a1 : W0.cell? ⟨w.heap.size, 1, none⟩ = some (.int .u64 (loW a)) := by rw [hW0]; exact cell_new1 rfl
  have hB : Below w.heap.size w W0 := by rw [hW0]; exact (Below.refl _ _).alloc (Nat.le_refl _) _
  clear hW0
  go_region_held3 (fun w' => w'.cell? ⟨w.heap.size, 0, none⟩ = some (.int .i64 (hiW a)) ∧ w'.cell? ⟨w.heap.size, 1, none⟩ = some (.int .u64 (loW a))) ((refine ⟨?_, ?_⟩ <;> (repeat (first | (with_reducible refine cell_dr ?_) | (with_reducible refine cell_be hbo ?_))) <;> (with_reducible first | exact a0 | exact a1))) (first | (go_at_call 6; with_reducible refine (HO.out _).mono ?_; rintro e wo ⟨rfl, hbo⟩))
  replace a0 := cell_be hbo (cell_dr a0)
  replace a1 := cell_be hbo (cell_dr a1)
  go_wp2
  go_ret2
  exact ⟨rfl, bel_step hB.drew (Nat.le_refl _) hbo⟩
set_option maxRecDepth 100000 in
theorem int_no (a : Int) (w : World) (ha : fits a) (h : ¬ (-9223372036854775808 ≤ a ∧ a ≤ 9223372036854775807)) :
    Calls Tryd.prog 8 #[.agg #[.int .i64 (hiW a), .int .u64 (loW a)]] w fun e w' => e = .returned (.tuple #[.int .i64 0, .bool false]) ∧ Below w.heap.size w w' := by
  obtain ⟨x, hx⟩ : ∃ x, x = wrap64 (loW a) := ⟨_, rfl⟩
  have hb : -9223372036854775808 ≤ x ∧ x ≤ 9223372036854775807 := by rw [hx]; unfold wrap64 loW; omega
  have hne : (hiW a == hiW x) = false := by
    rw [beq_eq_false_iff_ne]
    have := val_of a ha
    have hy := hiW_int x hb.1 hb.2
    intro e
    rw [e, hy] at this
    have hxa : x = loW a ∨ x = loW a - 18446744073709551616 := by rw [hx]; unfold wrap64 loW; omega
    have := loW_bd a
    split at hy <;> omega
  have HO := Lib.hid (fun w => of_any x w hb.1 hb.2)
  have e1 : IntKind.i64.wrap (loW a) = x := by rw [IntWalk.i64_left]; exact hx.symm
  clear hx hb
  go_enter Tryd.func8, Tryd.ntmps8
  go_wp2_with fail
  obtain ⟨W0, hW0⟩ : ∃ W0, W0 = w.alloc (.cells #[.int .i64 (hiW a), .int .u64 (loW a)] 24) := ⟨_, rfl⟩
  rw [← hW0]
  have a0 : W0.cell? ⟨w.heap.size, 0, none⟩ = some (.int .i64 (hiW a)) := by rw [hW0]; exact cell_new0 rfl
  have a1 : W0.cell? ⟨w.heap.size, 1, none⟩ = some (.int .u64 (loW a)) := by rw [hW0]; exact cell_new1 rfl
  have hB : Below w.heap.size w W0 := by rw [hW0]; exact (Below.refl _ _).alloc (Nat.le_refl _) _
  clear hW0
  go_region_held3 (fun w' => w'.cell? ⟨w.heap.size, 0, none⟩ = some (.int .i64 (hiW a)) ∧ w'.cell? ⟨w.heap.size, 1, none⟩ = some (.int .u64 (loW a))) ((refine ⟨?_, ?_⟩ <;> (repeat (first | (with_reducible refine cell_dr ?_) | (with_reducible refine cell_be hbo ?_))) <;> (with_reducible first | exact a0 | exact a1))) (first | (go_at_call 6; with_reducible refine (HO.out _).mono ?_; rintro e wo ⟨rfl, hbo⟩))
  replace a0 := cell_be hbo (cell_dr a0)
  replace a1 := cell_be hbo (cell_dr a1)
  go_wp2
  go_ret2
  exact ⟨rfl, bel_step hB.drew (Nat.le_refl _) hbo⟩
end Go.Proofs.YtohgpllonbplfaaDoor

/- Two arrays of eight ints are compared. -/
import Derived.Test.YtohgpllonbplfaaDoorProg
import Derived.WalkKit
import Derived.KernelRfl
namespace Go.Proofs.YtohgpllonbplfaaDoor
open Go Go.RowKit
set_option linter.unusedVariables false

def arr8 (x : Nat → Int) : Array Value := #[.int .i64 (x 0), .int .i64 (x 1), .int .i64 (x 2), .int .i64 (x 3), .int .i64 (x 4), .int .i64 (x 5), .int .i64 (x 6), .int .i64 (x 7)]
theorem part8 (x : Nat → Int) (j : Nat) (hj : j < 8) (w : World) : (part 3 (arr8 x) (j * 1)).run Tryd.prog w = .ok (.int .i64 (x j)) w := by
  rcases (show j = 0 ∨ j = 1 ∨ j = 2 ∨ j = 3 ∨ j = 4 ∨ j = 5 ∨ j = 6 ∨ j = 7 by omega) with rfl | rfl | rfl | rfl | rfl | rfl | rfl | rfl <;> kernel_rfl
theorem loopF {P : Program} {F : Nat → (Option Bool × Unit) → Sem (ForInStep (Option Bool × Unit))} (b : Nat → Bool) (hF : ∀ i, i < 8 → ∀ s w, (F i s).run P w = .ok (if b i = true then .yield (none, ()) else .done (some false, ())) w) :
    ∀ is : List Nat, (∀ i ∈ is, i < 8) → ∀ w, (forIn is ((none : Option Bool), ()) F).run P w = .ok (if is.all b = true then (none, ()) else (some false, ())) w
  | [], _, w => by simp
  | i :: is, h, w => by
    simp only [List.forIn_cons, Sem.run_bind, hF i (h i (by simp)), Result.andThen_ok, List.all_cons]
    by_cases hb : b i = true
    · simp only [hb, if_true, Bool.true_and]
      exact loopF b hF is (fun j hj => h j (by simp [hj])) w
    · have hb2 : b i = false := by simpa using hb
      simp [hb2]
theorem eq8 (x y : Nat → Int) (w : World) : (Op.equalIn 10000 28 (.agg (arr8 x)) (.agg (arr8 y))).run Tryd.prog w = .ok ([0, 1, 2, 3, 4, 5, 6, 7].all (fun i => x i == y i)) w := by
  show (Op.equalIn (9999 + 1) 28 (.agg (arr8 x)) (.agg (arr8 y))).run Tryd.prog w = _
  rw [Op.equalIn]
  simp only [Sem.run_bind, run_underlying Tryd.underlying28, Result.andThen_ok]
  have hs : (sizeOf 3).run Tryd.prog w = .ok 1 w := by kernel_rfl
  simp only [hs, Result.andThen_ok]
  rw [Std.Legacy.Range.forIn_eq_forIn_range']
  show ((Sem.run Tryd.prog (forIn [0, 1, 2, 3, 4, 5, 6, 7] (none, ()) _) w).andThen _) = _
  rw [loopF (fun i => x i == y i) ?_ _ (by decide)]
  · simp only [Result.andThen_ok]
    cases h : [0, 1, 2, 3, 4, 5, 6, 7].all (fun i => x i == y i) <;> simp
  · intro i hi s w
    have st : (Op.equalIn 9999 3 (.int .i64 (x i)) (.int .i64 (y i))).run Tryd.prog w = .ok (x i == y i) w := run_equalIn_int w 9998 _ _ _ _ _ Tryd.underlying3
    simp only [Sem.run_bind, part8 x i hi, part8 y i hi, Result.andThen_ok, st, Sem.run_ite, Sem.run_pure]
    cases h : (x i == y i) <;> simp
theorem eq8_same (x : Nat → Int) (w : World) : (Op.equalIn 10000 28 (.agg #[.int .i64 (x 0), .int .i64 (x 1), .int .i64 (x 2), .int .i64 (x 3), .int .i64 (x 4), .int .i64 (x 5), .int .i64 (x 6), .int .i64 (x 7)]) (.agg #[.int .i64 (x 0), .int .i64 (x 1), .int .i64 (x 2), .int .i64 (x 3), .int .i64 (x 4), .int .i64 (x 5), .int .i64 (x 6), .int .i64 (x 7)])).run Tryd.prog w = .ok true w := by
  have h := eq8 x x w
  simp only [beq_self_eq_true, List.all_cons, List.all_nil, Bool.and_self] at h
  exact h
end Go.Proofs.YtohgpllonbplfaaDoor

/- The walk of WordSums: it returns true for every input. -/
import Derived.Test.YthlbmlicnijjiaaWordWalk
namespace Go.Proofs.Ythlbmlicnijjiaa
open Go.RowKit Go.ChangeShapes WordMath
set_option linter.unusedVariables false

theorem wordSums_walk (a : Int) (ha : -9223372036854775808 ≤ a ∧ a ≤ 9223372036854775807) (b : Int) (hb : -9223372036854775808 ≤ b ∧ b ≤ 9223372036854775807) (w : World) :
    Calls Try.prog 4 #[.int .i64 a, .int .i64 b] w fun e w' => e = .returned (.bool true) ∧ Below w.heap.size w w' := by
  have c1 : (wrap64 (wrap64 (a - b) + b) == a) = true := by rw [beq_iff_eq]; unfold wrap64; omega
  have c2 : (wrap64 (wrap64 (a + b) - b) == a) = true := by rw [beq_iff_eq]; unfold wrap64; omega
  have c3 : (wrap64 (a + b) == wrap64 (b + a)) = true := by rw [beq_iff_eq, Int.add_comm]
  have c4 : wrap64 0 = 0 := by unfold wrap64; omega
  have c5 : wrap64 a = a := by unfold wrap64; omega
  have c6 : wrap64 3 = 3 := by unfold wrap64; omega
  go_enter Try.func4, Try.ntmps4
  go_wp2_with (first | (go_at_call 11; refine (add_any _ _ _).mono ?_; rintro e w' ⟨rfl, rfl⟩) | (go_at_call 12; refine (sub_any _ _ _).mono ?_; rintro e w' ⟨rfl, rfl⟩))
  go_ret
  exact ⟨rfl, Below.refl _ _⟩
end Go.Proofs.Ythlbmlicnijjiaa

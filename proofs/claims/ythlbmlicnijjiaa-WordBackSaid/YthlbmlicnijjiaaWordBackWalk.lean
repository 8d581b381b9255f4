/- The walk of WordBack: it returns true for every number. -/
import Derived.Test.YthlbmlicnijjiaaWordWalk
namespace Go.Proofs.Ythlbmlicnijjiaa
open Go.RowKit Go.ChangeShapes WordMath
set_option linter.unusedVariables false

theorem wordBack_walk (n : Int) (hn : -9223372036854775808 ≤ n ∧ n ≤ 9223372036854775807) (u : Int) (hu : 0 ≤ u ∧ u ≤ 18446744073709551615) (w : World) :
    Calls Try.prog 3 #[.int .i64 n, .int .u64 u] w fun e w' => e = .returned (.bool true) ∧ Below w.heap.size w w' := by
  have c1 : (zag (zig n) == n) = true := by rw [zag_zig]; simp
  have c2 : (zig (zag u) == u) = true := by rw [zig_zag u hu.1]; simp
  have hz := zig_bd n hn.1 hn.2
  have hg := zag_bd u hu.1 (by omega)
  go_enter Try.func3, Try.ntmps3
  go_wp2_with (first | (go_at_call 10; refine (zig_any _ _ (by omega) (by omega)).mono ?_; rintro e w' ⟨rfl, rfl⟩) | (go_at_call 9; refine (zag_any _ _ (by omega) (by omega)).mono ?_; rintro e w' ⟨rfl, rfl⟩))
  go_ret
  exact ⟨rfl, Below.refl _ _⟩
end Go.Proofs.Ythlbmlicnijjiaa

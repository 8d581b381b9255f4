/- The walk of WordRests: it returns true for every input. -/
import Derived.Test.YthlbmlicnijjiaaWordWalk
namespace Go.Proofs.Ythlbmlicnijjiaa
open Go.RowKit Go.ChangeShapes WordMath
set_option linter.unusedVariables false

theorem wordRests_zero (a : Int) (ha : -9223372036854775808 ≤ a ∧ a ≤ 9223372036854775807) (b : Int) (hb : b % 1073741824 = 0) (w : World) :
    Calls Try.prog 5 #[.int .i64 a, .int .i64 b] w fun e w' => e = .returned (.bool true) ∧ Below w.heap.size w w' := by
  have hm : bits BinOp.and IntKind.i64 b 1073741823 = 0 := by rw [and_mask_i64 b 1073741823 30 (by decide) rfl]; exact hb
  clear hb
  go_enter Try.func5, Try.ntmps5
  go_wp2_with (first | (go_at_call 13; refine (div_bad _ _ _ (by omega)).mono ?_; rintro e w' ⟨rfl, rfl⟩) | (go_at_call 14; refine (mod_bad _ _ _ (by omega)).mono ?_; rintro e w' ⟨rfl, rfl⟩) | (go_at_call 14; refine (mod_ok _ _ _ (by omega) (by omega) (by omega) (by omega)).mono ?_; rintro e w' ⟨rfl, rfl⟩))
  go_ret
  exact ⟨rfl, Below.refl _ _⟩
theorem wordRests_more (a : Int) (ha : -9223372036854775808 ≤ a ∧ a ≤ 9223372036854775807) (b c : Int) (hc : bits BinOp.and IntKind.i64 b 1073741823 = c) (hc0 : 0 < c) (hc1 : c < 1073741824) (w : World) :
    Calls Try.prog 5 #[.int .i64 a, .int .i64 b] w fun e w' => e = .returned (.bool true) ∧ Below w.heap.size w w' := by
  have h1 := Int.mul_ediv_add_emod (a / 4) c
  rw [Int.mul_comm] at h1
  have h2 := Int.emod_nonneg (a / 4) (show c ≠ 0 by omega)
  have h3 := Int.emod_lt_of_pos (a / 4) hc0
  have hz : (c == 0) = false := by simp; omega
  have c1 : (wrap64 (wrap64 (a / 4 / c * c) + a / 4 % c) == a / 4) = true := by rw [beq_iff_eq]; unfold wrap64; omega
  have c1' : (a / 4 / c * c + a / 4 % c == a / 4) = true := by rw [beq_iff_eq]; omega
  clear h1
  go_enter Try.func5, Try.ntmps5
  go_wp2_with (first | (go_at_call 13; refine (div_ok _ _ _ (by omega) (by omega) (by omega) (by omega)).mono ?_; rintro e w' ⟨rfl, rfl⟩) | (go_at_call 14; refine (mod_ok _ _ _ (by omega) (by omega) (by omega) (by omega)).mono ?_; rintro e w' ⟨rfl, rfl⟩))
  go_ret
  exact ⟨rfl, Below.refl _ _⟩
theorem wordRests_walk (a : Int) (ha : -9223372036854775808 ≤ a ∧ a ≤ 9223372036854775807) (b : Int) (hb : -9223372036854775808 ≤ b ∧ b ≤ 9223372036854775807) (w : World) :
    Calls Try.prog 5 #[.int .i64 a, .int .i64 b] w fun e w' => e = .returned (.bool true) ∧ Below w.heap.size w w' := by
  by_cases h : b % 1073741824 = 0
  · exact wordRests_zero a ha b h w
  · exact wordRests_more a ha b (b % 1073741824) (and_mask_i64 b 1073741823 30 (by decide) rfl) (by omega) (by omega) w
end Go.Proofs.Ythlbmlicnijjiaa

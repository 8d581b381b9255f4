/- The walk of WordTells: it returns true for every input. -/
import Derived.Test.YthlbmlicnijjiaaWordRef
namespace Go.Proofs.Ythlbmlicnijjiaa
open Go.RowKit WordMath
set_option linter.unusedVariables false

set_option maxHeartbeats 1000000 in
theorem wordTells_bad (a : Int) (ha : -9223372036854775808 ≤ a ∧ a ≤ 9223372036854775807) (b : Int) (hb : b ≤ 0) (u : Nat) (hu : u < 2 ^ 64) (w : World) :
    Calls Try.prog 8 #[.int .i64 a, .int .i64 b, .int .u64 u] w fun e w' => e = .returned (.bool true) ∧ Below w.heap.size w w' := by
  go_enter Try.func8, Try.ntmps8
  go_wp2_with (first
    | (go_at_call 13; refine (div_bad _ _ _ hb).mono ?_; rintro e w' ⟨rfl, rfl⟩)
    | (go_at_call 19; refine (refDiv_bad _ _ _ hb).mono ?_; rintro e w' ⟨rfl, rfl⟩)
    | (go_at_call 14; refine (mod_bad _ _ _ hb).mono ?_; rintro e w' ⟨rfl, rfl⟩)
    | (go_at_call 20; refine (refMod_bad _ _ _ hb).mono ?_; rintro e w' ⟨rfl, rfl⟩)
    | (go_at_call 10; refine (zig_any _ _ ha.1 ha.2).mono ?_; rintro e w' ⟨rfl, rfl⟩)
    | (go_at_call 21; refine (refZig_any _ _ ha.1 ha.2).mono ?_; rintro e w' ⟨rfl, rfl⟩)
    | (go_at_call 9; refine (zag_any _ _ (by omega) (by omega)).mono ?_; rintro e w' ⟨rfl, rfl⟩)
    | (go_at_call 22; refine (refZag_any _ _ (by omega) (by omega)).mono ?_; rintro e w' ⟨rfl, rfl⟩)
    | (go_at_call 15; refine (lead_any _ _ hu).mono ?_; rintro e w1 ⟨rfl, hb1⟩)
    | (go_at_call 23; refine (refLead_any _ _ hu).mono ?_; rintro e w' ⟨rfl, rfl⟩)
    | (go_at_call 17; refine (trail_any _ _ hu).mono ?_; rintro e w2 ⟨rfl, hb2⟩)
    | (go_at_call 24; refine (refTrail_any _ _ hu).mono ?_; rintro e w' ⟨rfl, rfl⟩)
    | (go_at_call 18; refine (ones_any _ _ hu).mono ?_; rintro e w' ⟨rfl, rfl⟩)
    | (go_at_call 25; refine (refOnes_any _ _ hu).mono ?_; rintro e w' ⟨rfl, rfl⟩)
    | (go_at_call 16; refine (fits_any _ _ _ ha.1 ha.2).mono ?_; rintro e w' ⟨rfl, rfl⟩)
    | (go_at_call 26; refine (refFits_any _ _ _ ha.1 ha.2).mono ?_; rintro e w' ⟨rfl, rfl⟩))
  go_ret
  exact ⟨by simp, hb1.trans (hb2.mono hb1.size)⟩
set_option maxHeartbeats 1000000 in
theorem wordTells_ok (a : Int) (ha : -9223372036854775808 ≤ a ∧ a ≤ 9223372036854775807) (b : Int) (hb : 0 < b) (hbb : b ≤ 9223372036854775807) (u : Nat) (hu : u < 2 ^ 64) (w : World) :
    Calls Try.prog 8 #[.int .i64 a, .int .i64 b, .int .u64 u] w fun e w' => e = .returned (.bool true) ∧ Below w.heap.size w w' := by
  go_enter Try.func8, Try.ntmps8
  go_wp2_with (first
    | (go_at_call 13; refine (div_ok _ _ _ ha.1 ha.2 hb hbb).mono ?_; rintro e w' ⟨rfl, rfl⟩)
    | (go_at_call 19; refine (refDiv_ok _ _ _ ha.1 ha.2 hb hbb).mono ?_; rintro e w' ⟨rfl, rfl⟩)
    | (go_at_call 14; refine (mod_ok _ _ _ ha.1 ha.2 hb hbb).mono ?_; rintro e w' ⟨rfl, rfl⟩)
    | (go_at_call 20; refine (refMod_ok _ _ _ ha.1 ha.2 hb hbb).mono ?_; rintro e w' ⟨rfl, rfl⟩)
    | (go_at_call 10; refine (zig_any _ _ ha.1 ha.2).mono ?_; rintro e w' ⟨rfl, rfl⟩)
    | (go_at_call 21; refine (refZig_any _ _ ha.1 ha.2).mono ?_; rintro e w' ⟨rfl, rfl⟩)
    | (go_at_call 9; refine (zag_any _ _ (by omega) (by omega)).mono ?_; rintro e w' ⟨rfl, rfl⟩)
    | (go_at_call 22; refine (refZag_any _ _ (by omega) (by omega)).mono ?_; rintro e w' ⟨rfl, rfl⟩)
    | (go_at_call 15; refine (lead_any _ _ hu).mono ?_; rintro e w1 ⟨rfl, hb1⟩)
    | (go_at_call 23; refine (refLead_any _ _ hu).mono ?_; rintro e w' ⟨rfl, rfl⟩)
    | (go_at_call 17; refine (trail_any _ _ hu).mono ?_; rintro e w2 ⟨rfl, hb2⟩)
    | (go_at_call 24; refine (refTrail_any _ _ hu).mono ?_; rintro e w' ⟨rfl, rfl⟩)
    | (go_at_call 18; refine (ones_any _ _ hu).mono ?_; rintro e w' ⟨rfl, rfl⟩)
    | (go_at_call 25; refine (refOnes_any _ _ hu).mono ?_; rintro e w' ⟨rfl, rfl⟩)
    | (go_at_call 16; refine (fits_any _ _ _ ha.1 ha.2).mono ?_; rintro e w' ⟨rfl, rfl⟩)
    | (go_at_call 26; refine (refFits_any _ _ _ ha.1 ha.2).mono ?_; rintro e w' ⟨rfl, rfl⟩))
  go_ret
  exact ⟨by simp, hb1.trans (hb2.mono hb1.size)⟩
theorem wordTells_walk (a : Int) (ha : -9223372036854775808 ≤ a ∧ a ≤ 9223372036854775807) (b : Int) (hb : -9223372036854775808 ≤ b ∧ b ≤ 9223372036854775807) (u : Int) (hu : 0 ≤ u ∧ u ≤ 18446744073709551615) (w : World) :
    Calls Try.prog 8 #[.int .i64 a, .int .i64 b, .int .u64 u] w fun e w' => e = .returned (.bool true) ∧ Below w.heap.size w w' := by
  obtain ⟨U, rfl⟩ := Int.eq_ofNat_of_zero_le hu.1
  by_cases h : b ≤ 0
  · exact wordTells_bad a ha b h U (by omega) w
  · exact wordTells_ok a ha b (by omega) hb.2 U (by omega) w
end Go.Proofs.Ythlbmlicnijjiaa

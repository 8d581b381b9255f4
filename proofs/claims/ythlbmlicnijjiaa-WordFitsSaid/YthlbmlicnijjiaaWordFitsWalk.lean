/- The walk of WordFits: it returns true for every input. -/
import Derived.Test.YthlbmlicnijjiaaWordWalk
namespace Go.Proofs.Ythlbmlicnijjiaa
open Go.RowKit Go.ChangeShapes WordMath
set_option linter.unusedVariables false

theorem wordFits_at (n : Int) (hn : -9223372036854775808 ≤ n ∧ n ≤ 9223372036854775807) (b c : Int) (hc : bits BinOp.and IntKind.i64 b 127 = c) (hc0 : 0 ≤ c) (hc1 : c < 128) (w : World) :
    Calls Try.prog 6 #[.int .i64 n, .int .i64 b] w fun e w' => e = .returned (.bool true) ∧ Below w.heap.size w w' := by
  have hz := zig_bd n hn.1 hn.2
  have f0 : fitsB 0 0 = true := by decide
  have f1 : fitsB n (-1) = false := by simp [fitsB]
  have hle := lead_le (zig n).toNat
  have HW : Hid (∀ x : Nat, x ≤ 64 → wrap64 (64 - (x : Int)) = 64 - x) := fun x hx => by unfold wrap64; omega
  by_cases hf : fitsB n c = true
  · have hup := fits_up n c hc0 hn.1 hn.2 hf
    have hd : decide ((64 : Int) - (lead (zig n).toNat : Nat) ≤ c) = true := by rw [← fits_lead n c hn.1 hn.2 hc0]; exact hf
    go_enter Try.func6, Try.ntmps6
    go_wp2_with (first | (go_at_call 10; refine (zig_any _ _ (by omega) (by omega)).mono ?_; rintro e w' ⟨rfl, rfl⟩) | (go_at_call 15; refine (lead_int _ _ (by omega) (by omega)).mono ?_; rintro e w' ⟨rfl, hbel⟩) | (go_at_call 16; refine (fits_any _ _ _ (by omega) (by omega)).mono ?_; rintro e w' ⟨rfl, rfl⟩))
    go_ret
    exact ⟨rfl, hbel⟩
  · have hf' : fitsB n c = false := by simpa using hf
    have hd : decide ((64 : Int) - (lead (zig n).toNat : Nat) ≤ c) = false := by rw [← fits_lead n c hn.1 hn.2 hc0]; exact hf'
    go_enter Try.func6, Try.ntmps6
    go_wp2_with (first | (go_at_call 10; refine (zig_any _ _ (by omega) (by omega)).mono ?_; rintro e w' ⟨rfl, rfl⟩) | (go_at_call 15; refine (lead_int _ _ (by omega) (by omega)).mono ?_; rintro e w' ⟨rfl, hbel⟩) | (go_at_call 16; refine (fits_any _ _ _ (by omega) (by omega)).mono ?_; rintro e w' ⟨rfl, rfl⟩))
    go_ret
    exact ⟨rfl, hbel⟩
theorem wordFits_walk (n : Int) (hn : -9223372036854775808 ≤ n ∧ n ≤ 9223372036854775807) (b : Int) (hb : -9223372036854775808 ≤ b ∧ b ≤ 9223372036854775807) (w : World) :
    Calls Try.prog 6 #[.int .i64 n, .int .i64 b] w fun e w' => e = .returned (.bool true) ∧ Below w.heap.size w w' :=
  wordFits_at n hn b (b % 128) (and_mask_i64 b 127 7 (by decide) rfl) (by omega) (by omega) w
end Go.Proofs.Ythlbmlicnijjiaa

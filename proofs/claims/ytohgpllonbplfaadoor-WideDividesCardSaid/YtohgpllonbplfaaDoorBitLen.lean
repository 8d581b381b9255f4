/- Contracts of math/bits.LeadingZeros64, and what the count of leading zeros is. -/
import Derived.Test.YtohgpllonbplfaaDoorLen64
import Derived.WalkKit
import Derived.Lib.BitFns
namespace Go.Proofs.YtohgpllonbplfaaDoor
open Go.RowKit
set_option linter.unusedVariables false

theorem bitLen_bd (n : Nat) : ∀ x : Nat, x ≤ n → x ≠ 0 → x < 2 ^ 64 → 1 ≤ Lib.bitLen x ∧ 2 ^ (Lib.bitLen x - 1) ≤ x ∧ x < 2 ^ Lib.bitLen x := by
  induction n with
  | zero => intro x hx h0; omega
  | succ n ih =>
    intro x hx h0 h
    have e := Lib.bitLen_half x h0 h
    by_cases h1 : x / 2 = 0
    · have : x = 1 := by omega
      subst this
      decide
    · obtain ⟨a, b, c⟩ := ih (x / 2) (by omega) h1 (by omega)
      rw [e]
      obtain ⟨k, hk⟩ : ∃ k, Lib.bitLen (x / 2) = k + 1 := ⟨Lib.bitLen (x / 2) - 1, by omega⟩
      rw [hk] at a b c ⊢
      rw [show k + 1 - 1 = k by omega] at b
      rw [show 1 + (k + 1) - 1 = k + 1 by omega, show 1 + (k + 1) = k + 2 by omega]
      rw [Nat.pow_succ] at c ⊢
      rw [Nat.pow_succ, Nat.pow_succ]
      exact ⟨by omega, by omega, by omega⟩
/-- so many zeros stand ahead -/
def leadZ (y : Int) : Nat := 64 - Lib.bitLen y.toNat
theorem leadZ_bd (y : Int) (h0 : 0 < y) (h1 : y ≤ 18446744073709551615) : leadZ y ≤ 63 ∧ 9223372036854775808 ≤ y * 2 ^ leadZ y ∧ y * 2 ^ leadZ y ≤ 18446744073709551615 := by
  obtain ⟨Y, rfl⟩ := Int.eq_ofNat_of_zero_le (show 0 ≤ y by omega)
  have hY : Y ≠ 0 := by omega
  obtain ⟨a, b, c⟩ := bitLen_bd Y Y (Nat.le_refl _) hY (by omega)
  have hle := Lib.bitLen_le Y 64 (by omega) (by omega)
  unfold leadZ
  rw [Int.toNat_natCast]
  generalize Lib.bitLen Y = L at *
  have p1 : 2 ^ 63 = 2 ^ (L - 1) * 2 ^ (64 - L) := by rw [← Nat.pow_add]; congr 1; omega
  have p2 : 2 ^ 64 = 2 ^ L * 2 ^ (64 - L) := by rw [← Nat.pow_add]; congr 1; omega
  have q0 : 0 < 2 ^ (64 - L) := Nat.two_pow_pos _
  have q1 : 2 ^ 63 ≤ Y * 2 ^ (64 - L) := by rw [p1]; exact Nat.mul_le_mul_right _ b
  have q2 : Y * 2 ^ (64 - L) < 2 ^ 64 := by rw [p2]; exact Nat.mul_lt_mul_of_pos_right c q0
  have e : (Y : Int) * 2 ^ (64 - L) = ((Y * 2 ^ (64 - L) : Nat) : Int) := by simp
  rw [e]
  refine ⟨by omega, by omega, by omega⟩
theorem lead64_any (x : Int) (w : World) (h0 : 0 < x) (h1 : x ≤ 18446744073709551615) :
    Calls Tryd.prog 30 #[.int .u64 x] w fun e w' => e = .returned (.int .i64 (leadZ x)) ∧ w = w' := by
  have l := Lib.bitLen_le x.toNat 64 (by omega) (by omega)
  have e8 : 64 - (Lib.bitLen x.toNat : Int) = (leadZ x : Int) := by unfold leadZ; omega
  go_enter Tryd.func30, Tryd.ntmps30
  go_wp2_with (go_at_call 34; refine (len64_any x _ (by omega) h1).mono ?_; rintro e w' ⟨rfl, hw⟩; rw [hw])
  go_ret
  exact ⟨rfl, rfl⟩
end Go.Proofs.YtohgpllonbplfaaDoor

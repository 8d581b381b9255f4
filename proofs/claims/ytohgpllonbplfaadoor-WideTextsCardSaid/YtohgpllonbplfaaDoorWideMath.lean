/- Numbers of 128 bits as plain integers: their two parts. No program in sight. -/
import Derived.WalkKit
namespace Go.Proofs.YtohgpllonbplfaaDoor
open Go
set_option linter.unusedVariables false

/-- the two parts of a number modulo 2^128 -/
def hiW (v : Int) : Int := (v / 18446744073709551616 + 9223372036854775808) % 18446744073709551616 - 9223372036854775808
def loW (v : Int) : Int := v % 18446744073709551616
theorem hiW_bd (v : Int) : -9223372036854775808 ≤ hiW v ∧ hiW v ≤ 9223372036854775807 := by unfold hiW; omega
theorem loW_bd (v : Int) : 0 ≤ loW v ∧ loW v ≤ 18446744073709551615 := by unfold loW; omega
/-- a number of 128 bits -/
def fits (v : Int) : Prop := -170141183460469231731687303715884105728 ≤ v ∧ v ≤ 170141183460469231731687303715884105727
instance (v : Int) : Decidable (fits v) := by unfold fits; exact inferInstance
theorem parts_of (h l : Int) (h0 : -9223372036854775808 ≤ h) (h1 : h ≤ 9223372036854775807) (l0 : 0 ≤ l) (l1 : l ≤ 18446744073709551615) :
    hiW (h * 18446744073709551616 + l) = h ∧ loW (h * 18446744073709551616 + l) = l ∧ fits (h * 18446744073709551616 + l) := by unfold hiW loW fits; omega
theorem val_of (v : Int) (h : fits v) : hiW v * 18446744073709551616 + loW v = v := by unfold fits at h; unfold hiW loW; omega
theorem hiW_neg (v : Int) (h : fits v) : hiW v < 0 ↔ v < 0 := by unfold fits at h; unfold hiW; omega
theorem parts_inj (a b : Int) (ha : fits a) (hb : fits b) (h : hiW a = hiW b) (l : loW a = loW b) : a = b := by
  have := val_of a ha; have := val_of b hb; rw [h, l] at *; omega
theorem hiW_zero : hiW 0 = 0 := by decide
theorem loW_zero : loW 0 = 0 := by decide
theorem hiW_int (n : Int) (h0 : -9223372036854775808 ≤ n) (h1 : n ≤ 9223372036854775807) : hiW n = if n < 0 then -1 else 0 := by unfold hiW; split <;> omega
theorem hiW_shift (n : Int) (h0 : -9223372036854775808 ≤ n) (h1 : n ≤ 9223372036854775807) : n / 9223372036854775808 = hiW n := by unfold hiW; omega
theorem hiW_congr (a b : Int) (h : a % 340282366920938463463374607431768211456 = b % 340282366920938463463374607431768211456) : hiW a = hiW b ∧ loW a = loW b := by unfold hiW loW; omega

/-- a number, or none -/
def sumOf (v : Int) : Int := if fits v then v else 0
theorem sumOf_yes {v : Int} (h : fits v) : sumOf v = v := if_pos h
theorem sumOf_no {v : Int} (h : ¬ fits v) : sumOf v = 0 := if_neg h
/-- what the two additions come to -/
theorem plus_lo (a b : Int) : (loW a + loW b) % 18446744073709551616 = loW (a + b) := by unfold loW; omega
theorem plus_hi (a b : Int) : ((hiW a % 18446744073709551616 + hiW b % 18446744073709551616 + (loW a + loW b) / 18446744073709551616) % 18446744073709551616 + 9223372036854775808) % 18446744073709551616 - 9223372036854775808 = hiW (a + b) := by unfold hiW loW; omega
theorem not_parts (a : Int) : hiW (-1 - a) = -1 - hiW a ∧ loW (-1 - a) = 18446744073709551615 - loW a := by unfold hiW loW; omega
theorem minus_eq (a : Int) : -1 - a + 1 = -a := by omega
theorem wrap_fits (a b : Int) (ha : fits a) (hb : fits b) : fits (a + b) ↔ ¬ ((hiW a < 0 ↔ hiW b < 0) ∧ ¬ (hiW (a + b) < 0 ↔ hiW a < 0)) := by
  unfold fits at *; unfold hiW; omega
theorem wrap_fits_sub (a b : Int) (ha : fits a) (hb : fits b) : fits (a - b) ↔ ¬ (¬ (hiW a < 0 ↔ hiW b < 0) ∧ ¬ (hiW (a + -b) < 0 ↔ hiW a < 0)) := by
  unfold fits at *; unfold hiW; omega

/-! ## the carry of an addition, by bits -/
theorem carry_nat (x y c s : Nat) (hx : x < 2 ^ 64) (hy : y < 2 ^ 64) (hc : c ≤ 1) (hs : s = (x + y + c) % 2 ^ 64) :
    ((x &&& y) ||| ((x ||| y) &&& (2 ^ 64 - 1 - s))) / 2 ^ 63 = (x + y + c) / 2 ^ 64 := by
  have e : ∀ u v : Nat, u / 2 ^ 63 = u >>> 63 := fun u _ => (Nat.shiftRight_eq_div_pow u 63).symm
  rw [e _ 0, Nat.shiftRight_or_distrib, Nat.shiftRight_and_distrib, Nat.shiftRight_and_distrib, Nat.shiftRight_or_distrib]
  simp only [Nat.shiftRight_eq_div_pow]
  have hx' : x / 2 ^ 63 = 0 ∨ x / 2 ^ 63 = 1 := by omega
  have hy' : y / 2 ^ 63 = 0 ∨ y / 2 ^ 63 = 1 := by omega
  have hs' : (2 ^ 64 - 1 - s) / 2 ^ 63 = 0 ∨ (2 ^ 64 - 1 - s) / 2 ^ 63 = 1 := by omega
  rcases hx' with h1 | h1 <;> rcases hy' with h2 | h2 <;> rcases hs' with h3 | h3 <;> rw [h1, h2, h3]
  all_goals (simp; omega)
end Go.Proofs.YtohgpllonbplfaaDoor

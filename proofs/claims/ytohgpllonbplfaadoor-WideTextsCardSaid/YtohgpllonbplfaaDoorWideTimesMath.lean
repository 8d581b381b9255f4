/- Products of 128 bits, by parts: plain arithmetic. No program in sight. -/
import Derived.Test.YtohgpllonbplfaaDoorWideMath
namespace Go.Proofs.YtohgpllonbplfaaDoor
open Go
set_option linter.unusedVariables false

/-- the upper part, without a sign -/
def upW (v : Int) : Int := v / 18446744073709551616 % 18446744073709551616
theorem upW_bd (v : Int) : 0 ≤ upW v ∧ upW v ≤ 18446744073709551615 := by unfold upW; omega
theorem upW_hi (v : Int) : hiW v % 18446744073709551616 = upW v := by unfold hiW upW; omega
theorem hiW_up (v : Int) : (upW v + 9223372036854775808) % 18446744073709551616 - 9223372036854775808 = hiW v := by unfold hiW upW; omega
/-- without its sign -/
def absI (v : Int) : Int := if v < 0 then -v else v
theorem absI_neg (v : Int) (h : v < 0) : absI v = -v := if_pos h
theorem absI_pos (v : Int) (h : ¬ v < 0) : absI v = v := if_neg h
theorem absI_bd (v : Int) (h : fits v) : 0 ≤ absI v ∧ absI v ≤ 170141183460469231731687303715884105728 := by unfold fits at h; unfold absI; split <;> omega
theorem up_lo (v : Int) (h0 : 0 ≤ v) (h1 : v < 340282366920938463463374607431768211456) : upW v * 18446744073709551616 + loW v = v := by unfold upW loW; omega
theorem small_parts (n : Int) (h0 : 0 ≤ n) (h1 : n ≤ 9223372036854775808) : upW n = 0 ∧ loW n = n := by unfold upW loW; omega
/-- the parts of a product -/
theorem times_parts (x y : Int) (hx0 : 0 ≤ x) (hx1 : x < 340282366920938463463374607431768211456) (hy0 : 0 ≤ y) (hy1 : y < 18446744073709551616) :
    let o := upW x * y / 18446744073709551616
    let h := upW x * y % 18446744073709551616
    let k := loW x * y / 18446744073709551616
    (o + (h + k) / 18446744073709551616 = 0 ↔ x * y < 340282366920938463463374607431768211456) ∧ 0 ≤ o ∧ o + (h + k) / 18446744073709551616 ≤ 18446744073709551615 ∧ 0 ≤ (h + k) / 18446744073709551616 ∧ (h + k) / 18446744073709551616 ≤ 1 ∧
    loW x * y % 18446744073709551616 = loW (x * y) ∧ (x * y < 340282366920938463463374607431768211456 → (h + k) % 18446744073709551616 = upW (x * y)) := by
  have e : x * y = upW x * y * 18446744073709551616 + loW x * y := by
    have := up_lo x hx0 hx1
    rw [Int.mul_right_comm, ← Int.add_mul, this]
  obtain ⟨u0, u1⟩ := upW_bd x
  obtain ⟨l0, l1⟩ := loW_bd x
  have b1 : 0 ≤ upW x * y := Int.mul_nonneg u0 hy0
  have b2 : upW x * y ≤ 18446744073709551615 * 18446744073709551615 := Int.mul_le_mul u1 (by omega) hy0 (by omega)
  have b3 : 0 ≤ loW x * y := Int.mul_nonneg l0 hy0
  have b4 : loW x * y ≤ 18446744073709551615 * 18446744073709551615 := Int.mul_le_mul l1 (by omega) hy0 (by omega)
  rw [e]
  generalize upW x * y = A at *
  generalize loW x * y = B at *
  unfold loW upW
  refine ⟨?_, ?_, ?_, ?_, ?_, ?_, ?_⟩ <;> omega
/-- a number of two parts and a sign -/
def withSign (p : Int) (neg : Bool) : Int := if neg then -p else p
theorem sign_no (p : Int) (h0 : 0 ≤ p) (h1 : p < 340282366920938463463374607431768211456) : (fits p ↔ ¬ hiW p < 0) := by unfold fits hiW; omega
theorem sign_yes (p : Int) (h0 : 0 < p) (h1 : p < 340282366920938463463374607431768211456) : (fits (-p) ↔ hiW (-p) < 0) := by unfold fits hiW; omega
theorem sign_zero (p : Int) (h0 : 0 ≤ p) (h1 : p < 340282366920938463463374607431768211456) (h : hiW p = 0 ∧ loW p = 0) : p = 0 := by unfold hiW loW at h; omega
theorem sign_nz (p : Int) (h0 : 0 < p) (h1 : p < 340282366920938463463374607431768211456) : ¬ (hiW (-p) = 0 ∧ loW (-p) = 0) := by unfold hiW loW; omega
/-- the product's sign -/
theorem times_sign (a n : Int) : a * n = withSign (absI a * absI n) (decide ((a < 0) ≠ (n < 0))) := by
  unfold withSign absI
  by_cases h1 : a < 0 <;> by_cases h2 : n < 0 <;> simp [h1, h2, Int.neg_mul, Int.mul_neg]
theorem times_far (a n : Int) (h : 340282366920938463463374607431768211456 ≤ absI a * absI n) : ¬ fits (a * n) := by
  rw [times_sign]
  unfold withSign fits
  generalize absI a * absI n = P at *
  split <;> omega
end Go.Proofs.YtohgpllonbplfaaDoor

/- Division of two parts by one, digit by digit of 32 bits: plain arithmetic. No program in sight. -/
import Derived.WalkKit
namespace Go.Proofs.YtohgpllonbplfaaDoor
open Go
set_option linter.unusedVariables false

/-- what holds of a digit's guess -/
structure DigInv (y1 y0 u u1 q r : Int) : Prop where
  q0 : 0 ≤ q
  q1 : q ≤ 4294967297
  r0 : 0 ≤ r
  r1 : r < 4294967296
  eq : u = q * y1 + r
  up : u * 4294967296 + u1 < (q + 1) * (y1 * 4294967296 + y0)
/-- the divisor, and what is divided -/
structure DigOk (y1 y0 u u1 : Int) : Prop where
  y10 : 2147483648 ≤ y1
  y11 : y1 < 4294967296
  y00 : 0 ≤ y0
  y01 : y0 < 4294967296
  u0 : 0 ≤ u
  lt : u < y1 * 4294967296 + y0
  u10 : 0 ≤ u1
  u11 : u1 < 4294967296
theorem dig_top {y1 y0 u u1 : Int} (k : DigOk y1 y0 u u1) : u * 4294967296 + u1 < 4294967296 * (y1 * 4294967296 + y0) := by
  obtain ⟨_, _, _, _, _, _, _, _⟩ := k; omega
theorem dig_mul (y1 y0 q : Int) : q * (y1 * 4294967296 + y0) = (q * y1) * 4294967296 + q * y0 := by rw [Int.mul_add, Int.mul_assoc]
theorem dig_start {y1 y0 u u1 : Int} (k : DigOk y1 y0 u u1) : DigInv y1 y0 u u1 (u / y1) (u % y1) := by
  obtain ⟨h1, h2, h3, h4, h5, h6, h7, h8⟩ := k
  have hd := Int.mul_ediv_add_emod u y1
  have hr0 := Int.emod_nonneg u (show y1 ≠ 0 by omega)
  have hr1 := Int.emod_lt_of_pos u (show 0 < y1 by omega)
  have hq0 : 0 ≤ u / y1 := Int.ediv_nonneg h5 (by omega)
  have hq1 : u / y1 < 4294967298 := by
    apply Int.ediv_lt_of_lt_mul (by omega)
    omega
  generalize u / y1 = q at *
  generalize u % y1 = r at *
  rw [Int.mul_comm] at hd
  refine ⟨hq0, by omega, hr0, by omega, hd.symm, ?_⟩
  have e1 : (q + 1) * y1 = q * y1 + y1 := by rw [Int.add_mul, Int.one_mul]
  have e2 : (q + 1) * y0 = q * y0 + y0 := by rw [Int.add_mul, Int.one_mul]
  rw [dig_mul, e1, e2]
  have : 0 ≤ q * y0 := Int.mul_nonneg hq0 h3
  omega
/-- the test says: too great -/
theorem dig_over {y1 y0 u u1 q r : Int} (k : DigOk y1 y0 u u1) (h : DigInv y1 y0 u u1 q r) (ht : 4294967296 ≤ q ∨ 4294967296 * r + u1 < q * y0) : u * 4294967296 + u1 < q * (y1 * 4294967296 + y0) ∧ 1 ≤ q := by
  have htop := dig_top k
  have hmul := dig_mul y1 y0 q
  obtain ⟨h1, h2, h3, h4, h5, h6, h7, h8⟩ := k
  obtain ⟨g1, g2, g3, g4, g5, g6⟩ := h
  have key : u * 4294967296 + u1 < q * (y1 * 4294967296 + y0) := by
    rcases ht with ht | ht
    · have : 4294967296 * (y1 * 4294967296 + y0) ≤ q * (y1 * 4294967296 + y0) := Int.mul_le_mul_of_nonneg_right ht (by omega)
      omega
    · rw [hmul]; omega
  refine ⟨key, ?_⟩
  rcases Int.lt_or_le 0 q with h | h
  · omega
  · obtain rfl : q = 0 := by omega
    rw [Int.zero_mul] at key
    omega
theorem dig_next {y1 y0 u u1 q r : Int} (k : DigOk y1 y0 u u1) (h : DigInv y1 y0 u u1 q r) (ht : 4294967296 ≤ q ∨ 4294967296 * r + u1 < q * y0) (hr : r + y1 < 4294967296) : DigInv y1 y0 u u1 (q - 1) (r + y1) := by
  obtain ⟨h1, h2⟩ := dig_over k h ht
  obtain ⟨g1, g2, g3, g4, g5, g6⟩ := h
  have := k.y10
  refine ⟨by omega, by omega, by omega, hr, ?_, by rw [show q - 1 + 1 = q by omega]; exact h1⟩
  rw [Int.sub_mul, Int.one_mul]; omega
theorem dig_val {y N q : Int} (hy : 0 < y) (h1 : q * y ≤ N) (h2 : N < (q + 1) * y) : q = N / y := by
  have a : q ≤ N / y := (Int.le_ediv_iff_mul_le hy).2 h1
  have b : N / y < q + 1 := Int.ediv_lt_of_lt_mul hy h2
  omega
/-- the test says: it is right -/
theorem dig_done {y1 y0 u u1 q r : Int} (k : DigOk y1 y0 u u1) (h : DigInv y1 y0 u u1 q r) (h1 : q < 4294967296) (h2 : q * y0 ≤ 4294967296 * r + u1) : q = (u * 4294967296 + u1) / (y1 * 4294967296 + y0) := by
  have hmul := dig_mul y1 y0 q
  obtain ⟨a1, a2, a3, a4, a5, a6, a7, a8⟩ := k
  obtain ⟨g1, g2, g3, g4, g5, g6⟩ := h
  refine dig_val (by omega) ?_ g6
  rw [hmul]; omega
/-- it is right behind the last step -/
theorem dig_last {y1 y0 u u1 q r : Int} (k : DigOk y1 y0 u u1) (h : DigInv y1 y0 u u1 q r) (ht : 4294967296 ≤ q ∨ 4294967296 * r + u1 < q * y0) (hr : 4294967296 ≤ r + y1) : q - 1 = (u * 4294967296 + u1) / (y1 * 4294967296 + y0) := by
  obtain ⟨h1, h2⟩ := dig_over k h ht
  have hmul := dig_mul y1 y0 (q - 1)
  obtain ⟨a1, a2, a3, a4, a5, a6, a7, a8⟩ := k
  obtain ⟨g1, g2, g3, g4, g5, g6⟩ := h
  refine dig_val (by omega) ?_ (by rw [show q - 1 + 1 = q by omega]; exact h1)
  rw [hmul]
  have : (q - 1) * y0 ≤ 4294967296 * y0 := Int.mul_le_mul_of_nonneg_right (by omega) a3
  have e : (q - 1) * y1 = q * y1 - y1 := by rw [Int.sub_mul, Int.one_mul]
  rw [e]; omega
/-- a digit, and what is left -/
theorem dig_bd {y1 y0 u u1 : Int} (k : DigOk y1 y0 u u1) : 0 ≤ (u * 4294967296 + u1) / (y1 * 4294967296 + y0) ∧ (u * 4294967296 + u1) / (y1 * 4294967296 + y0) < 4294967296 := by
  have htop := dig_top k
  obtain ⟨a1, a2, a3, a4, a5, a6, a7, a8⟩ := k
  exact ⟨Int.ediv_nonneg (by omega) (by omega), Int.ediv_lt_of_lt_mul (by omega) htop⟩
theorem dig_rest (N y : Int) (hy : 0 < y) (hM : y ≤ 18446744073709551616) : (N - N / y * y) % 18446744073709551616 = N % y := by
  have h1 := Int.mul_ediv_add_emod N y
  have h2 := Int.emod_nonneg N (show y ≠ 0 by omega)
  have h3 := Int.emod_lt_of_pos N hy
  rw [Int.mul_comm] at h1
  omega
/-- two digits are the quotient -/
theorem two_digs (U a c y : Int) (hy : 0 < y) (hU : U = a * 4294967296 + c) (h0 : 0 ≤ c) (h1 : c < 4294967296) :
    U / y = a / y * 4294967296 + (a % y * 4294967296 + c) / y ∧ U % y = (a % y * 4294967296 + c) % y := by
  have e : U = (a % y * 4294967296 + c) + y * (a / y * 4294967296) := by
    have := Int.mul_ediv_add_emod a y
    have e2 : y * (a / y * 4294967296) = (y * (a / y)) * 4294967296 := by rw [Int.mul_assoc]
    rw [e2]; omega
  constructor
  · rw [e, Int.add_mul_ediv_left _ _ (by omega)]; omega
  · rw [e, Int.add_mul_emod_self_left]
/-- a power of two, taken off again -/
theorem scale_div (V y p : Int) (hp : 0 < p) : (V * p) / (y * p) = V / y := Int.mul_ediv_mul_of_pos_left _ _ hp
theorem scale_mod (V y p : Int) (hp : 0 < p) : (V * p) % (y * p) / p = V % y := by
  rw [Int.mul_comm V p, Int.mul_comm y p, Int.mul_emod_mul_of_pos _ _ hp, Int.mul_ediv_cancel_left _ (by omega)]
end Go.Proofs.YtohgpllonbplfaaDoor

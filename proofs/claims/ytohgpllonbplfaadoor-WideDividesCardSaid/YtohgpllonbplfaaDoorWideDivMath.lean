/- Quotients of 128 bits, by parts: plain arithmetic. No program in sight. -/
import Derived.Test.YtohgpllonbplfaaDoorWideTimesMath
namespace Go.Proofs.YtohgpllonbplfaaDoor
open Go
set_option linter.unusedVariables false

theorem wediv_of {y N q : Int} (hy : 0 < y) (h1 : q * y ≤ N) (h2 : N < (q + 1) * y) : N / y = q := by
  have a : q ≤ N / y := (Int.le_ediv_iff_mul_le hy).2 h1
  have b : N / y < q + 1 := Int.ediv_lt_of_lt_mul hy h2
  omega
theorem parts_div (v n : Int) (h0 : 0 ≤ v) (h1 : v < 340282366920938463463374607431768211456) (hn : 0 < n) (hn1 : n ≤ 18446744073709551615) :
    upW v / n = upW (v / n) ∧ (upW v % n * 18446744073709551616 + loW v) / n = loW (v / n) ∧ (upW v % n * 18446744073709551616 + loW v) % n = v % n ∧ 0 ≤ upW v % n ∧ upW v % n < n := by
  have e := up_lo v h0 h1
  obtain ⟨u0, u1⟩ := upW_bd v
  obtain ⟨l0, l1⟩ := loW_bd v
  have hd := Int.mul_ediv_add_emod (upW v) n
  have r0 := Int.emod_nonneg (upW v) (show n ≠ 0 by omega)
  have r1 := Int.emod_lt_of_pos (upW v) hn
  have q0 : 0 ≤ upW v / n := Int.ediv_nonneg u0 (by omega)
  have q1 : upW v / n ≤ upW v := Int.ediv_le_self _ u0
  generalize upW v / n = Q at *
  generalize upW v % n = R at *
  have ev : v = (R * 18446744073709551616 + loW v) + n * (Q * 18446744073709551616) := by
    have e2 : n * (Q * 18446744073709551616) = (n * Q) * 18446744073709551616 := by rw [Int.mul_assoc]
    rw [e2]; omega
  have s0 : 0 ≤ (R * 18446744073709551616 + loW v) / n := Int.ediv_nonneg (by omega) (by omega)
  have s1 : (R * 18446744073709551616 + loW v) / n < 18446744073709551616 := by
    apply Int.ediv_lt_of_lt_mul hn
    omega
  have dv : v / n = (R * 18446744073709551616 + loW v) / n + Q * 18446744073709551616 := by
    rw [ev, Int.add_mul_ediv_left _ _ (by omega)]
    congr 2
    have : (R * 18446744073709551616 + loW v + n * (Q * 18446744073709551616)) = v := ev.symm
    rw [this]
  have mv : v % n = (R * 18446744073709551616 + loW v) % n := by
    have : v % n = ((R * 18446744073709551616 + loW v) + n * (Q * 18446744073709551616)) % n := by rw [← ev]
    rw [this, Int.add_mul_emod_self_left]
  rw [dv, mv]
  generalize (R * 18446744073709551616 + loW v) / n = S at *
  unfold upW loW
  refine ⟨by omega, by omega, rfl, r0, r1⟩
/-- below 0: the quotient is one less where something is left -/
theorem div_neg_zero (p n : Int) (hn : 0 < n) (hr : p % n = 0) : (-p) / n = -(p / n) ∧ (-p) % n = 0 := by
  have h := Int.mul_ediv_add_emod p n
  rw [hr] at h
  have e : (-p) / n = -(p / n) := by
    apply wediv_of hn
    · rw [Int.neg_mul, Int.mul_comm]; omega
    · rw [Int.add_mul, Int.neg_mul, Int.mul_comm]; omega
  refine ⟨e, ?_⟩
  have h2 := Int.mul_ediv_add_emod (-p) n
  rw [e, Int.mul_neg] at h2
  omega
theorem div_neg_more (p n : Int) (hn : 0 < n) (hr : p % n ≠ 0) : (-p) / n = -(p / n + 1) ∧ (-p) % n = n - p % n := by
  have h := Int.mul_ediv_add_emod p n
  have h0 := Int.emod_nonneg p (show n ≠ 0 by omega)
  have h1 := Int.emod_lt_of_pos p hn
  have em : n * (p / n) = p / n * n := Int.mul_comm _ _
  have e : (-p) / n = -(p / n + 1) := by
    apply wediv_of hn
    · rw [Int.neg_mul, Int.add_mul]; omega
    · rw [Int.add_mul, Int.neg_mul, Int.add_mul]; omega
  refine ⟨e, ?_⟩
  have h2 := Int.mul_ediv_add_emod (-p) n
  rw [e, Int.mul_neg, Int.mul_add] at h2
  omega
theorem div_bd (p n : Int) (hp : 0 ≤ p) (hn : 0 < n) : 0 ≤ p / n ∧ p / n ≤ p ∧ 0 ≤ p % n ∧ p % n < n :=
  ⟨Int.ediv_nonneg hp (by omega), Int.ediv_le_self _ hp, Int.emod_nonneg _ (by omega), Int.emod_lt_of_pos _ hn⟩
end Go.Proofs.YtohgpllonbplfaaDoor

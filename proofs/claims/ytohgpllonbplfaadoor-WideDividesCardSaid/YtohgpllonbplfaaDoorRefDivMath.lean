/- A division bit by bit, on parts of 16 bits. No program in sight. -/
import Derived.Test.YtohgpllonbplfaaDoorLimbMath
namespace Go.Proofs.YtohgpllonbplfaaDoor
set_option linter.unusedVariables false

theorem qt_shift (v : Int) (k : Nat) : qt v (k + 1) = qt (v / 65536) k := by
  induction k with
  | zero => rfl
  | succ k ih => rw [show qt v (k + 1 + 1) = qt v (k + 1) / 65536 from rfl, ih]; rfl
theorem lb_shift (v : Int) (k : Nat) : lb v (k + 1) = lb (v / 65536) k := by unfold lb; rw [qt_shift]
theorem qt_pow (v : Int) (k : Nat) : qt v k = v / 2 ^ (16 * k) := by
  induction k with
  | zero => simp [qt]
  | succ k ih =>
    rw [show qt v (k + 1) = qt v k / 65536 from rfl, ih, Int.ediv_ediv_of_nonneg (Int.le_of_lt (Int.pow_pos (by decide))), show 16 * (k + 1) = 16 * k + 16 by omega, Int.pow_add]
    rfl
/-- the bit at 16 k + s -/
theorem lb_bit (m : Int) (k s : Nat) (hs : s < 16) : lb m k / 2 ^ s % 2 = m / 2 ^ (16 * k + s) % 2 := by
  have e : m / 2 ^ (16 * k + s) = qt m k / 2 ^ s := by rw [qt_pow, Int.ediv_ediv_of_nonneg (Int.le_of_lt (Int.pow_pos (by decide))), Int.pow_add]
  rw [e]
  unfold lb
  generalize qt m k = q
  rcases (show s = 0 ∨ s = 1 ∨ s = 2 ∨ s = 3 ∨ s = 4 ∨ s = 5 ∨ s = 6 ∨ s = 7 ∨ s = 8 ∨ s = 9 ∨ s = 10 ∨ s = 11 ∨ s = 12 ∨ s = 13 ∨ s = 14 ∨ s = 15 by omega) with
    rfl | rfl | rfl | rfl | rfl | rfl | rfl | rfl | rfl | rfl | rfl | rfl | rfl | rfl | rfl | rfl <;> simp only [Int.reducePow] <;> omega
/-- a new bit, with no carry -/
theorem lb_new0 (c : Int) (s : Nat) (hs : s < 16) (j : Nat) : lb (c * 2 ^ (s + 1) + 2 ^ s) j = lb (c * 2 ^ (s + 1)) j + if j = 0 then 2 ^ s else 0 := by
  have key : (c * 2 ^ (s + 1) + 2 ^ s) % 65536 = c * 2 ^ (s + 1) % 65536 + 2 ^ s ∧ (c * 2 ^ (s + 1) + 2 ^ s) / 65536 = c * 2 ^ (s + 1) / 65536 := by
    rcases (show s = 0 ∨ s = 1 ∨ s = 2 ∨ s = 3 ∨ s = 4 ∨ s = 5 ∨ s = 6 ∨ s = 7 ∨ s = 8 ∨ s = 9 ∨ s = 10 ∨ s = 11 ∨ s = 12 ∨ s = 13 ∨ s = 14 ∨ s = 15 by omega) with
      rfl | rfl | rfl | rfl | rfl | rfl | rfl | rfl | rfl | rfl | rfl | rfl | rfl | rfl | rfl | rfl <;> simp only [Nat.reduceAdd, Int.reducePow] <;> omega
  cases j with
  | zero => simp only [lb, qt, if_true]; exact key.1
  | succ j => rw [lb_shift, lb_shift, key.2]; simp
theorem lb_new (c : Int) (J s : Nat) (hs : s < 16) (j : Nat) : lb ((c * 2 ^ (s + 1) + 2 ^ s) * 65536 ^ J) j = lb (c * 2 ^ (s + 1) * 65536 ^ J) j + if j = J then 2 ^ s else 0 := by
  induction J generalizing j with
  | zero => simp only [Int.pow_zero, Int.mul_one]; exact lb_new0 c s hs j
  | succ J ih =>
    have m1 : ∀ x : Int, x * 65536 ^ (J + 1) = x * 65536 ^ J * 65536 := fun x => by rw [Int.pow_succ, Int.mul_assoc]
    rw [m1, m1]
    cases j with
    | zero => simp [lb, qt]
    | succ j =>
      rw [lb_shift, lb_shift, Int.mul_ediv_cancel _ (by decide), Int.mul_ediv_cancel _ (by decide), ih j]
      simp
/-- the quotient's part that is known when k bits are still to come -/
def qAt (m n : Int) (k : Nat) : Int := m / 2 ^ k / n * 2 ^ k
def rAt (m n : Int) (k : Nat) : Int := m / 2 ^ k % n
def bitAt (m : Int) (k : Nat) : Int := m / 2 ^ k % 2
theorem two_step (m : Int) (k : Nat) : m / 2 ^ k = 2 * (m / 2 ^ (k + 1)) + bitAt m k := by
  unfold bitAt
  rw [Int.pow_succ, ← Int.ediv_ediv_of_nonneg (Int.le_of_lt (Int.pow_pos (by decide)))]
  omega
theorem step_div (M b n : Int) (hn : 0 < n) (hb : 0 ≤ b ∧ b ≤ 1) :
    ((2 * (M % n) + b < n) → (2 * M + b) % n = 2 * (M % n) + b ∧ (2 * M + b) / n = 2 * (M / n)) ∧
    (n ≤ 2 * (M % n) + b → (2 * M + b) % n = 2 * (M % n) + b - n ∧ (2 * M + b) / n = 2 * (M / n) + 1) := by
  have h0 := Int.emod_nonneg M (show n ≠ 0 by omega)
  have h1 := Int.emod_lt_of_pos M hn
  have hM := Int.emod_add_mul_ediv M n
  have un : ∀ q r : Int, 2 * M + b = n * q + r → 0 ≤ r → r < n → (2 * M + b) % n = r ∧ (2 * M + b) / n = q := fun q r e h2 h3 => by
    rw [e, Int.add_comm]
    exact ⟨by rw [Int.add_mul_emod_self_left, Int.emod_eq_of_lt h2 h3], by rw [Int.add_mul_ediv_left _ _ (by omega), Int.ediv_eq_zero_of_lt h2 h3]; omega⟩
  have e0 : n * (2 * (M / n)) = 2 * (n * (M / n)) := Int.mul_left_comm _ _ _
  constructor
  · intro h
    refine un _ _ ?_ (by omega) h
    rw [e0]
    generalize n * (M / n) = t at *
    omega
  · intro h
    refine un _ _ ?_ (by omega) (by omega)
    rw [Int.mul_add, e0, Int.mul_one]
    generalize n * (M / n) = t at *
    omega
theorem bitAt_bd (m : Int) (k : Nat) : 0 ≤ bitAt m k ∧ bitAt m k ≤ 1 := by unfold bitAt; omega
theorem rAt_bd (m n : Int) (k : Nat) (hn : 0 < n) : 0 ≤ rAt m n k ∧ rAt m n k < n := ⟨Int.emod_nonneg _ (by omega), Int.emod_lt_of_pos _ hn⟩
theorem at_low (m n : Int) (k : Nat) (hn : 0 < n) (h : 2 * rAt m n (k + 1) + bitAt m k < n) : rAt m n k = 2 * rAt m n (k + 1) + bitAt m k ∧ qAt m n k = qAt m n (k + 1) := by
  obtain ⟨h1, h2⟩ := (step_div (m / 2 ^ (k + 1)) (bitAt m k) n hn (bitAt_bd m k)).1 h
  unfold rAt qAt
  rw [two_step m k]
  refine ⟨h1, ?_⟩
  rw [h2, Int.pow_succ, Int.mul_comm 2 (m / (2 ^ k * 2) / n), Int.mul_assoc, Int.mul_comm 2 (2 ^ k)]
theorem at_high (m n : Int) (k : Nat) (hn : 0 < n) (h : n ≤ 2 * rAt m n (k + 1) + bitAt m k) : rAt m n k = 2 * rAt m n (k + 1) + bitAt m k - n ∧ qAt m n k = qAt m n (k + 1) + 2 ^ k := by
  obtain ⟨h1, h2⟩ := (step_div (m / 2 ^ (k + 1)) (bitAt m k) n hn (bitAt_bd m k)).2 h
  unfold rAt qAt
  rw [two_step m k]
  refine ⟨h1, ?_⟩
  rw [h2, Int.pow_succ, Int.add_mul, Int.one_mul, Int.mul_comm 2 (m / (2 ^ k * 2) / n), Int.mul_assoc, Int.mul_comm 2 (2 ^ k)]
/-- the parts, when a bit is set -/
theorem lb_set (m n : Int) (k j : Nat) : lb (qAt m n (k + 1) + 2 ^ k) j = lb (qAt m n (k + 1)) j + if j = k / 16 then 2 ^ (k % 16) else 0 := by
  have hk : k = 16 * (k / 16) + k % 16 := by omega
  have hs : k % 16 < 16 := by omega
  have p : ∀ s : Nat, (2 : Int) ^ (16 * (k / 16) + s) = 2 ^ s * 65536 ^ (k / 16) := fun s => by
    rw [Int.pow_add, Int.pow_mul, Int.mul_comm]; rfl
  have e1 : qAt m n (k + 1) = m / 2 ^ (k + 1) / n * 2 ^ (k % 16 + 1) * 65536 ^ (k / 16) := by
    unfold qAt
    generalize m / 2 ^ (k + 1) / n = c
    rw [Int.mul_assoc, ← p, show 16 * (k / 16) + (k % 16 + 1) = k + 1 by omega]
  have e2 : (2 : Int) ^ k = 2 ^ (k % 16) * 65536 ^ (k / 16) := by rw [← p, show 16 * (k / 16) + k % 16 = k by omega]
  rw [e1, e2, ← Int.add_mul, lb_new _ _ _ hs]
theorem lb_get (m : Int) (k : Nat) : lb m (k / 16) / 2 ^ (k % 16) % 2 = bitAt m k := by
  rw [lb_bit m (k / 16) (k % 16) (by omega), show 16 * (k / 16) + k % 16 = k by omega]; rfl
theorem at_top (m n : Int) (hm : 0 ≤ m) (hm1 : m < 340282366920938463463374607431768211456) (hn : 0 < n) : rAt m n 128 = 0 ∧ qAt m n 128 = 0 := by
  have e : m / 2 ^ 128 = 0 := Int.ediv_eq_zero_of_lt hm hm1
  unfold rAt qAt
  rw [e]; simp
theorem at_end (m n : Int) : rAt m n 0 = m % n ∧ qAt m n 0 = m / n := by unfold rAt qAt; simp
end Go.Proofs.YtohgpllonbplfaaDoor

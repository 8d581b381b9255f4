/- Plain facts on integers and bits for the package word: no program in sight. -/
import Derived.WalkKit
namespace Go.Proofs.YtohgpllonbplfaaDoor.WordMath
open Go Go.RowKit
set_option linter.unusedVariables false

theorem toNat_ofInt64 (a : Int) : ((BitVec.ofInt 64 a).toNat : Int) = a % 18446744073709551616 := by
  rw [BitVec.toNat_ofInt]
  have : (0:Int) ≤ a % 18446744073709551616 := Int.emod_nonneg _ (by decide)
  simp only [Nat.reducePow, Int.cast_ofNat_Int] 
  omega

/-- a mask of the lowest k bits -/
theorem and_mask_nat (x k : Nat) : x &&& (2 ^ k - 1) = x % 2 ^ k := Nat.and_two_pow_sub_one_eq_mod x k

theorem and_mask_i64 (a m : Int) (k : Nat) (hk : k ≤ 63) (hm : m = 2 ^ k - 1) : bits .and .i64 a m = a % (m + 1) := by
  subst hm
  have hp : (1 : Int) ≤ 2 ^ k := Int.pow_pos (by decide)
  have hle : (2 : Int) ^ k ≤ 2 ^ 63 := by
    have : 2 ^ k ≤ 2 ^ 63 := Nat.pow_le_pow_right (by decide) hk
    exact_mod_cast this
  show IntKind.i64.wrap (((BitVec.ofInt 64 a &&& BitVec.ofInt 64 (2 ^ k - 1)).toNat : Nat) : Int) = _
  have h2 : (BitVec.ofInt 64 ((2:Int) ^ k - 1)).toNat = 2 ^ k - 1 := by
    have h := toNat_ofInt64 ((2:Int) ^ k - 1)
    rw [Int.emod_eq_of_lt (by omega) (by omega)] at h
    have e : (((2 ^ k - 1 : Nat) : Int)) = (2:Int) ^ k - 1 := by
      have : 1 ≤ 2 ^ k := Nat.pos_of_ne_zero (by simp)
      rw [Int.natCast_sub this]; simp
    rw [← e] at h ⊢; exact Int.ofNat.inj h
  rw [BitVec.toNat_and, h2, and_mask_nat]
  have h1 := toNat_ofInt64 a
  have e2 : (((BitVec.ofInt 64 a).toNat % 2 ^ k : Nat) : Int) = a % 2 ^ k := by
    rw [Int.natCast_emod, h1]
    have : ((2 ^ k : Nat) : Int) = (2:Int) ^ k := by simp
    rw [this]
    apply Int.emod_emod_of_dvd
    have : (18446744073709551616 : Int) = 2 ^ k * 2 ^ (64 - k) := by rw [← Int.pow_add, show k + (64 - k) = 64 by omega]; rfl
    rw [this]; exact Int.dvd_mul_right _ _
  rw [e2]
  have hb : 0 ≤ a % 2 ^ k := Int.emod_nonneg _ (by omega)
  have hb2 : a % 2 ^ k < 2 ^ k := Int.emod_lt_of_pos _ (by omega)
  rw [IntWalk.i64_in _ (by omega)]
  congr 1; omega

theorem xor_zero_u64 (a : Int) (h0 : 0 ≤ a) (h1 : a < 18446744073709551616) : bits .xor .u64 a 0 = a := by
  rw [u64_xor a 0 h0 h1 (by decide) (by decide)]; simp; omega

theorem nat_xor_ones (a k : Nat) (h : a < 2 ^ k) : a ^^^ (2 ^ k - 1) = 2 ^ k - 1 - a := by
  apply Nat.eq_of_testBit_eq
  intro i
  rw [Nat.testBit_xor, Nat.testBit_two_pow_sub_one]
  have h2 : 2 ^ k - 1 - a = 2 ^ k - (a + 1) := by omega
  rw [h2, Nat.testBit_two_pow_sub_succ h]
  by_cases hi : i < k
  · simp [hi]
  · have : a.testBit i = false := Nat.testBit_lt_two_pow (Nat.lt_of_lt_of_le h (Nat.pow_le_pow_right (by decide) (by omega)))
    simp [hi, this]

theorem xor_ones_u64 (a : Int) (h0 : 0 ≤ a) (h1 : a < 18446744073709551616) : bits .xor .u64 a 18446744073709551615 = 18446744073709551615 - a := by
  rw [u64_xor a _ h0 h1 (by decide) (by decide)]
  obtain ⟨A, rfl⟩ := Int.eq_ofNat_of_zero_le h0
  have := nat_xor_ones A 64 (by omega)
  simp only [Int.toNat_natCast] at *
  rw [show Int.toNat 18446744073709551615 = 2 ^ 64 - 1 from rfl, this]
  omega

theorem xor_i64_nat (a b : Int) : bits .xor .i64 a b = IntKind.i64.wrap ((((a % 18446744073709551616).toNat ^^^ (b % 18446744073709551616).toNat : Nat)) : Int) := by
  show IntKind.i64.wrap (((BitVec.ofInt 64 a ^^^ BitVec.ofInt 64 b).toNat : Nat) : Int) = _
  rw [BitVec.toNat_xor]
  have ha := toNat_ofInt64 a
  have hb := toNat_ofInt64 b
  rw [← ha, ← hb, Int.toNat_natCast, Int.toNat_natCast]

theorem xor_zero_i64 (a : Int) (h0 : -9223372036854775808 ≤ a) (h1 : a ≤ 9223372036854775807) : bits .xor .i64 a 0 = a := by
  rw [xor_i64_nat]
  simp only [Int.zero_emod, Int.toNat_zero, Nat.xor_zero]
  rw [IntKind.wrap_i64]; omega

theorem xor_neg_i64 (a : Int) (h0 : -9223372036854775808 ≤ a) (h1 : a ≤ 9223372036854775807) : bits .xor .i64 a (-1) = -1 - a := by
  rw [xor_i64_nat]
  have hlt : (a % 18446744073709551616).toNat < 2 ^ 64 := by omega
  have := nat_xor_ones _ 64 hlt
  rw [show (Int.toNat (-1 % 18446744073709551616)) = 2 ^ 64 - 1 from rfl, this]
  rw [IntKind.wrap_i64]; omega


/-! zigzag -/
def zig (n : Int) : Int := if 0 ≤ n then 2 * n else -2 * n - 1
def zag (u : Int) : Int := if u % 2 = 0 then u / 2 else -(u / 2) - 1
theorem zig_zag (u : Int) : 0 ≤ u → zig (zag u) = u := by intro h; unfold zig zag; split <;> split <;> omega
theorem zag_zig (n : Int) : zag (zig n) = n := by unfold zig zag; split <;> split <;> omega
theorem zig_bd (n : Int) (h0 : -9223372036854775808 ≤ n) (h1 : n ≤ 9223372036854775807) : 0 ≤ zig n ∧ zig n < 18446744073709551616 := by unfold zig; split <;> omega
theorem zag_bd (u : Int) (h0 : 0 ≤ u) (h1 : u < 18446744073709551616) : -9223372036854775808 ≤ zag u ∧ zag u ≤ 9223372036854775807 := by unfold zag; split <;> omega

/-! leading zeros -/
def lead (u : Nat) : Nat := if u = 0 then 64 else 63 - u.log2
theorem lead_zero : lead 0 = 64 := rfl
theorem lead_of (u n : Nat) (hn : n ≤ 63) (h0 : 2 ^ 63 ≤ u * 2 ^ n) (h1 : u * 2 ^ n < 2 ^ 64) : lead u = n := by
  have hu : u ≠ 0 := by rintro rfl; simp at h0
  unfold lead
  rw [if_neg hu]
  have hp : 0 < 2 ^ n := Nat.two_pow_pos n
  have a : 2 ^ (63 - n) ≤ u := by
    have e : 2 ^ 63 = 2 ^ (63 - n) * 2 ^ n := by rw [← Nat.pow_add]; congr 1; omega
    rw [e] at h0; exact Nat.le_of_mul_le_mul_right h0 hp
  have b : u < 2 ^ (63 - n + 1) := by
    have e : 2 ^ 64 = 2 ^ (63 - n + 1) * 2 ^ n := by rw [← Nat.pow_add]; congr 1; omega
    rw [e] at h1; exact Nat.lt_of_mul_lt_mul_right h1
  have c : u.log2 = 63 - n := (Nat.log2_eq_iff hu).2 ⟨a, b⟩
  omega
theorem lead_spec (u : Nat) (hu : u ≠ 0) (h : u < 2 ^ 64) : lead u ≤ 63 ∧ 2 ^ 63 ≤ u * 2 ^ lead u ∧ u * 2 ^ lead u < 2 ^ 64 := by
  have hl : u.log2 < 64 := (Nat.log2_lt hu).2 h
  have h1 := Nat.log2_self_le hu
  have h2 := @Nat.lt_log2_self u
  unfold lead
  rw [if_neg hu]
  refine ⟨by omega, ?_, ?_⟩
  · have e : 2 ^ 63 = 2 ^ u.log2 * 2 ^ (63 - u.log2) := by rw [← Nat.pow_add]; congr 1; omega
    rw [e]; exact Nat.mul_le_mul_right _ h1
  · have e : 2 ^ 64 = 2 ^ (u.log2 + 1) * 2 ^ (63 - u.log2) := by rw [← Nat.pow_add]; congr 1; omega
    rw [e]; exact Nat.mul_lt_mul_of_pos_right h2 (Nat.two_pow_pos _)
theorem lead_le (u : Nat) : lead u ≤ 64 := by unfold lead; split <;> omega

theorem lead_lt (z c : Nat) (h : z < 2 ^ 64) (hc : c < 64) : z < 2 ^ c ↔ 64 - lead z ≤ c := by
  by_cases hz : z = 0
  · subst hz; simp [lead_zero]; exact Nat.two_pow_pos c
  · obtain ⟨h1, h2, h3⟩ := lead_spec z hz h
    generalize lead z = l at *
    have hp : 0 < 2 ^ l := Nat.two_pow_pos l
    constructor
    · intro hlt
      rcases Nat.lt_or_ge c (64 - l) with h4 | h4
      · exfalso
        have e : 2 ^ c * 2 ^ l ≤ 2 ^ 63 := by rw [← Nat.pow_add]; exact Nat.pow_le_pow_right (by decide) (by omega)
        have := Nat.mul_lt_mul_of_pos_right hlt hp
        omega
      · exact h4
    · intro hle
      have e : 2 ^ 64 ≤ 2 ^ c * 2 ^ l := by rw [← Nat.pow_add]; exact Nat.pow_le_pow_right (by decide) (by omega)
      exact Nat.lt_of_mul_lt_mul_right (Nat.lt_of_lt_of_le h3 e)

theorem lead_top (u : Nat) (hu : u ≠ 0) (h : u < 2 ^ 64) : u / 2 ^ (63 - lead u) = 1 := by
  obtain ⟨h1, h2, h3⟩ := lead_spec u hu h
  generalize lead u = l at *
  have hp : 0 < 2 ^ l := Nat.two_pow_pos l
  have e1 : 2 ^ 63 = 2 ^ (63 - l) * 2 ^ l := by rw [← Nat.pow_add]; congr 1; omega
  have e2 : 2 ^ 64 = 2 * 2 ^ (63 - l) * 2 ^ l := by rw [← Nat.pow_succ', ← Nat.pow_add]; congr 1; omega
  rw [e1] at h2
  rw [e2] at h3
  have a := Nat.le_of_mul_le_mul_right h2 hp
  have b := Nat.lt_of_mul_lt_mul_right h3
  have hq : 0 < 2 ^ (63 - l) := Nat.two_pow_pos _
  exact Nat.div_eq_of_lt_le (by omega) (by omega)

/-! trailing zeros -/
def low (u : Nat) : Nat := u &&& (2 ^ 64 - u)
def trail (u : Nat) : Nat := if u = 0 then 64 else 63 - lead (low u)
theorem odd_part (u : Nat) (hu : u ≠ 0) : ∃ t m, u = 2 ^ t * (2 * m + 1) := by
  induction u using Nat.strongRecOn with
  | _ u ih =>
    by_cases h : u % 2 = 1
    · exact ⟨0, u / 2, by omega⟩
    · obtain ⟨t, m, e⟩ := ih (u / 2) (by omega) (by omega)
      refine ⟨t + 1, m, ?_⟩
      rw [Nat.pow_succ]
      have : u = 2 * (u / 2) := by omega
      rw [this, e]; rw [Nat.mul_comm (2 ^ t) 2, Nat.mul_assoc]
theorem low_of (t m : Nat) (h : 2 ^ t * (2 * m + 1) < 2 ^ 64) : low (2 ^ t * (2 * m + 1)) = 2 ^ t := by
  have hp : 0 < 2 ^ t := Nat.two_pow_pos t
  have ht : t ≤ 63 := by
    rcases Nat.lt_or_ge t 64 with h' | h'
    · omega
    · exfalso
      have : 2 ^ 64 ≤ 2 ^ t := Nat.pow_le_pow_right (by decide) h'
      have : 2 ^ t * 1 ≤ 2 ^ t * (2 * m + 1) := Nat.mul_le_mul_left _ (by omega)
      omega
  have e64 : 2 ^ 64 = 2 ^ t * (2 * 2 ^ (63 - t)) := by
    rw [← Nat.pow_succ', ← Nat.pow_add]; congr 1; omega
  have hm : m < 2 ^ (63 - t) := by
    rw [e64] at h
    have := Nat.lt_of_mul_lt_mul_left h
    omega
  unfold low
  have e : 2 ^ 64 - 2 ^ t * (2 * m + 1) = 2 ^ t * (2 * (2 ^ (63 - t) - 1 - m) + 1) := by
    rw [e64, ← Nat.mul_sub]; congr 1; omega
  rw [e, Nat.mul_comm, Nat.mul_comm (2 ^ t), ← Nat.shiftLeft_eq, ← Nat.shiftLeft_eq, ← Nat.shiftLeft_and_distrib]
  have z : (2 * m + 1) &&& (2 * (2 ^ (63 - t) - 1 - m) + 1) = 1 := by
    apply Nat.eq_of_testBit_eq
    intro i
    rw [Nat.testBit_and]
    cases i with
    | zero => simp [Nat.testBit_zero]
    | succ i =>
      rw [Nat.testBit_succ, Nat.testBit_succ, Nat.testBit_succ]
      have a : (2 * m + 1) / 2 = m := by omega
      have b : (2 * (2 ^ (63 - t) - 1 - m) + 1) / 2 = 2 ^ (63 - t) - (m + 1) := by omega
      rw [a, b, Nat.testBit_two_pow_sub_succ hm]
      cases m.testBit i <;> simp
  rw [z, Nat.shiftLeft_eq, Nat.one_mul]
theorem lead_pow (t : Nat) (ht : t ≤ 63) : lead (2 ^ t) = 63 - t := by
  have e : 2 ^ t * 2 ^ (63 - t) = 2 ^ 63 := by rw [← Nat.pow_add]; congr 1; omega
  exact lead_of _ _ (by omega) (by rw [e]; exact Nat.le_refl _) (by rw [e]; decide)
theorem trail_of (t m : Nat) (h : 2 ^ t * (2 * m + 1) < 2 ^ 64) : trail (2 ^ t * (2 * m + 1)) = t ∧ t ≤ 63 := by
  have hp : 0 < 2 ^ t := Nat.two_pow_pos t
  have ht : t ≤ 63 := by
    rcases Nat.lt_or_ge t 64 with h' | h'
    · omega
    · exfalso
      have : 2 ^ 64 ≤ 2 ^ t := Nat.pow_le_pow_right (by decide) h'
      have : 2 ^ t * 1 ≤ 2 ^ t * (2 * m + 1) := Nat.mul_le_mul_left _ (by omega)
      omega
  refine ⟨?_, ht⟩
  unfold trail
  rw [if_neg (by have := Nat.mul_pos hp (show 0 < 2 * m + 1 by omega); omega), low_of t m h, lead_pow t ht]
  omega
theorem low_bd (u : Nat) (h : u < 2 ^ 64) : low u < 2 ^ 64 := by
  unfold low
  exact Nat.lt_of_le_of_lt Nat.and_le_left h
theorem low_ne (u : Nat) (hu : u ≠ 0) (h : u < 2 ^ 64) : low u ≠ 0 := by
  obtain ⟨t, m, rfl⟩ := odd_part u hu
  rw [low_of t m h]; have := Nat.two_pow_pos t; omega

theorem trail_bits (u : Nat) (hu : u ≠ 0) (h : u < 2 ^ 64) : trail u ≤ 63 ∧ u / 2 ^ trail u % 2 = 1 ∧ u * 2 ^ (63 - trail u) % 2 ^ 64 = 2 ^ 63 := by
  obtain ⟨t, m, rfl⟩ := odd_part u hu
  obtain ⟨e, ht⟩ := trail_of t m h
  rw [e]
  refine ⟨ht, ?_, ?_⟩
  · rw [Nat.mul_div_cancel_left _ (Nat.two_pow_pos t)]; omega
  · have e2 : 2 ^ t * (2 * m + 1) * 2 ^ (63 - t) = 2 ^ 63 * (2 * m + 1) := by
      rw [Nat.mul_right_comm, ← Nat.pow_add]; congr 2; omega
    rw [e2]; omega

/-! ones -/
def bit (u i : Nat) : Nat := u / 2 ^ i % 2
def onesTo (u : Nat) : Nat → Nat
  | 0 => 0
  | k + 1 => onesTo u k + bit u k
theorem onesTo_le (u k : Nat) : onesTo u k ≤ k := by
  induction k with
  | zero => exact Nat.le_refl _
  | succ k ih => simp only [onesTo, bit]; omega
theorem bit_flip (u a i : Nat) : bit (u ^^^ 2 ^ a) i = if i = a then 1 - bit u i else bit u i := by
  have h : ∀ x j, bit x j = (x.testBit j).toNat := by
    intro x j; rw [Nat.toNat_testBit]; rfl
  rw [h, h, Nat.testBit_xor, Nat.testBit_two_pow]
  by_cases e : i = a
  · subst e; cases u.testBit i <;> simp
  · have : ¬ a = i := fun h => e h.symm
    simp [e, this]
theorem ones_flip (u a k : Nat) : (onesTo (u ^^^ 2 ^ a) k : Int) = onesTo u k + if a < k then 1 - 2 * (bit u a : Int) else 0 := by
  induction k with
  | zero => simp [onesTo]
  | succ k ih =>
    have hb : ∀ j, bit u j ≤ 1 := fun j => by unfold bit; omega
    simp only [onesTo, Int.natCast_add, ih, bit_flip]
    have := hb k
    by_cases h : k = a
    · subst h; simp; omega
    · by_cases h2 : a < k
      · simp [h, h2, show a < k + 1 by omega]; omega
      · simp [h, h2, show ¬ a < k + 1 by omega]

/-! the references' loops -/
theorem ref_lead_more (u k : Nat) (h : u < 2 ^ (64 - k)) (hk : k < 64) (hb : bit u (63 - k) = 0) : u < 2 ^ (64 - (k + 1)) := by
  have e : 64 - (k + 1) = 63 - k := by omega
  have e2 : 64 - k = (63 - k) + 1 := by omega
  rw [e]
  rw [e2, Nat.pow_succ] at h
  unfold bit at hb
  have hp := Nat.two_pow_pos (63 - k)
  have hd : u / 2 ^ (63 - k) < 2 := Nat.div_lt_of_lt_mul h
  have h0 : u / 2 ^ (63 - k) = 0 := by generalize u / 2 ^ (63 - k) = q at *; omega
  rcases Nat.div_eq_zero_iff.1 h0 with h1 | h1 <;> omega
theorem ref_lead_end (u k : Nat) (h : u < 2 ^ (64 - k)) (hk : k < 64) (hb : bit u (63 - k) = 1) : lead u = k := by
  have hp := Nat.two_pow_pos k
  refine lead_of u k (by omega) ?_ ?_
  · have hge : 2 ^ (63 - k) ≤ u := by
      rcases Nat.lt_or_ge u (2 ^ (63 - k)) with h1 | h1
      · unfold bit at hb; rw [Nat.div_eq_of_lt h1] at hb; omega
      · exact h1
    have e : 2 ^ 63 = 2 ^ (63 - k) * 2 ^ k := by rw [← Nat.pow_add]; congr 1; omega
    rw [e]; exact Nat.mul_le_mul_right _ hge
  · have e : 2 ^ 64 = 2 ^ (64 - k) * 2 ^ k := by rw [← Nat.pow_add]; congr 1; omega
    rw [e]; exact Nat.mul_lt_mul_of_pos_right h hp
theorem ref_trail_more (u k : Nat) (h : u % 2 ^ k = 0) (hb : bit u k = 0) : u % 2 ^ (k + 1) = 0 := by
  unfold bit at hb
  rw [Nat.pow_succ, Nat.mod_mul, h, hb]; simp
theorem ref_trail_end (u k : Nat) (hu : u < 2 ^ 64) (h : u % 2 ^ k = 0) (hb : bit u k = 1) : trail u = k := by
  unfold bit at hb
  have e1 := Nat.div_add_mod u (2 ^ k)
  have e : u = 2 ^ k * (2 * (u / 2 ^ k / 2) + 1) := by
    have : 2 * (u / 2 ^ k / 2) + 1 = u / 2 ^ k := by omega
    rw [this]; omega
  have := trail_of k (u / 2 ^ k / 2) (by rw [← e]; exact hu)
  rw [← e] at this
  exact this.1

/-! division -/
theorem tdiv_facts (a b : Int) (ha : a < 0) (hb : 0 < b) : ∃ r, a = a.tdiv b * b - r ∧ 0 ≤ r ∧ r < b := by
  refine ⟨(-a) % b, ?_, Int.emod_nonneg _ (by omega), Int.emod_lt_of_pos _ hb⟩
  have e : a.tdiv b = -((-a) / b) := by
    have h1 : (-a).tdiv b = (-a) / b := Int.tdiv_eq_ediv_of_nonneg (by omega)
    rw [← h1, Int.neg_tdiv, Int.neg_neg]
  rw [e]
  have h := Int.mul_ediv_add_emod (-a) b
  rw [Int.mul_comm] at h
  have : -(-a / b) * b = -(-a / b * b) := Int.neg_mul _ _
  omega
theorem ediv_of (a b q r : Int) (h : a = q * b + r) (h0 : 0 ≤ r) (h1 : r < b) : a / b = q ∧ a % b = r := by
  have hb : 0 < b := by omega
  refine (Int.ediv_emod_unique hb).2 ⟨?_, h0, h1⟩
  rw [Int.mul_comm]; omega
theorem div_down (a b : Int) (ha : a < 0) (hb : 0 < b) (hne : a.tdiv b * b ≠ a) : a.tdiv b - 1 = a / b := by
  obtain ⟨r, h, h0, h1⟩ := tdiv_facts a b ha hb
  have := ediv_of a b (a.tdiv b - 1) (b - r) (by rw [Int.sub_mul]; omega) (by omega) (by omega)
  exact this.1.symm
theorem div_even (a b : Int) (ha : a < 0) (hb : 0 < b) (he : a.tdiv b * b = a) : a.tdiv b = a / b := by
  have := ediv_of a b (a.tdiv b) 0 (by omega) (by omega) (by omega)
  exact this.1.symm
theorem tdiv_mul_in (a b : Int) (ha : a < 0) (hb : 0 < b) : a.tdiv b * b ≤ 0 ∧ a ≤ a.tdiv b * b := by
  obtain ⟨r, h, h0, h1⟩ := tdiv_facts a b ha hb
  refine ⟨?_, by omega⟩
  have : a.tdiv b ≤ 0 := by
    have h1 : (-a).tdiv b = (-a) / b := Int.tdiv_eq_ediv_of_nonneg (by omega)
    have h2 : a.tdiv b = -((-a) / b) := by rw [← h1, Int.neg_tdiv, Int.neg_neg]
    have := Int.ediv_nonneg (a := -a) (b := b) (by omega) (by omega)
    omega
  exact Int.mul_nonpos_of_nonpos_of_nonneg this (by omega)
theorem ediv_bd (a b : Int) (ha0 : -9223372036854775808 ≤ a) (ha1 : a ≤ 9223372036854775807) (hb : 0 < b) : -9223372036854775808 ≤ a / b ∧ a / b ≤ 9223372036854775807 := by
  have h := Int.mul_ediv_add_emod a b
  have h0 := Int.emod_nonneg a (show b ≠ 0 by omega)
  have h1 := Int.emod_lt_of_pos a hb
  refine ⟨?_, ?_⟩
  · refine Int.le_ediv_of_mul_le hb ?_
    have : (-9223372036854775808 : Int) * b ≤ -9223372036854775808 * 1 := Int.mul_le_mul_of_nonpos_left (by decide) (by omega)
    omega
  · rcases Int.lt_or_le a 0 with h | h
    · have := Int.ediv_neg_of_neg_of_pos h hb; omega
    · have := Int.ediv_le_self b h; omega
theorem tmod_facts (a b : Int) (ha : a < 0) (hb : 0 < b) : a.tmod b = a - a.tdiv b * b := by
  have h := Int.mul_tdiv_add_tmod a b
  rw [Int.mul_comm] at h
  omega
theorem ref_mod_neg (a b : Int) (ha : a < 0) (hb : 0 < b) (h : a.tmod b < 0) : a.tmod b + b = a % b ∧ a.tdiv b - 1 = a / b ∧ -b < a.tmod b := by
  obtain ⟨r, h1, h2, h3⟩ := tdiv_facts a b ha hb
  have h4 := tmod_facts a b ha hb
  have := ediv_of a b (a.tdiv b - 1) (b - r) (by rw [Int.sub_mul]; omega) (by omega) (by omega)
  omega
theorem ref_mod_pos (a b : Int) (ha : a < 0) (hb : 0 < b) (h : ¬ a.tmod b < 0) : a.tmod b = a % b ∧ a.tdiv b = a / b := by
  obtain ⟨r, h1, h2, h3⟩ := tdiv_facts a b ha hb
  have h4 := tmod_facts a b ha hb
  have := ediv_of a b (a.tdiv b) 0 (by omega) (by omega) (by omega)
  omega
theorem mod_form (a b : Int) (hb : 0 < b) (hb1 : b ≤ 9223372036854775807) : wrap64 (a - wrap64 (a / b * b)) = a % b := by
  have h := Int.mul_ediv_add_emod a b
  have h0 := Int.emod_nonneg a (show b ≠ 0 by omega)
  have h1 := Int.emod_lt_of_pos a hb
  rw [Int.mul_comm] at h
  unfold wrap64
  omega

/-! Lead, by halves: what a round does -/
def LeadRel (u : Nat) (k : Nat) (U n : Nat) : Prop := U = u * 2 ^ n ∧ U < 2 ^ 64 ∧ 2 ^ (64 - 2 ^ (6 - k)) ≤ U ∧ n ≤ 64 - 2 ^ (6 - k)
theorem leadRel_yes {u k U n : Nat} (s : Nat) (hs : s = 2 ^ (5 - k)) (hk : k ≤ 5) (h : LeadRel u k U n) (D M : Int) (hD : D = 2 ^ (64 - s)) (hM : M = 2 ^ s) (ht : ((U : Int) / D == 0) = true) :
    IntKind.u64.wrap ((U : Int) * M) = ((U * 2 ^ s : Nat) : Int) ∧ wrap64 ((n : Int) + s) = ((n + s : Nat) : Int) ∧ LeadRel u (k + 1) (U * 2 ^ s) (n + s) := by
  obtain ⟨h1, h2, h3, h4⟩ := h
  have e : 2 ^ (6 - k) = 2 * s := by rw [hs, ← Nat.pow_succ']; congr 1; omega
  have s32 : s ≤ 32 := by rw [hs]; exact Nat.pow_le_pow_right (by decide) (show 5 - k ≤ 5 by omega)
  have s1 : 1 ≤ s := by rw [hs]; exact Nat.two_pow_pos _
  rw [e] at h3 h4
  have hlt : U < 2 ^ (64 - s) := by
    have := eq_of_beq ht
    have e2 : D = ((2 ^ (64 - s) : Nat) : Int) := by rw [hD]; simp
    rw [e2] at this
    have h5 : U / 2 ^ (64 - s) = 0 := by exact_mod_cast this
    have hp := Nat.two_pow_pos (64 - s)
    rcases Nat.div_eq_zero_iff.1 h5 with h | h <;> omega
  have e64 : 2 ^ 64 = 2 ^ (64 - s) * 2 ^ s := by rw [← Nat.pow_add]; congr 1; omega
  have hm : U * 2 ^ s < 2 ^ 64 := by rw [e64]; exact Nat.mul_lt_mul_of_pos_right hlt (Nat.two_pow_pos _)
  refine ⟨?_, ?_, ?_, hm, ?_, ?_⟩
  · have e3 : (U : Int) * M = ((U * 2 ^ s : Nat) : Int) := by rw [hM]; simp
    rw [e3, IntKind.wrap_u64]; omega
  · unfold wrap64; omega
  · rw [h1, Nat.pow_add, Nat.mul_assoc]
  · have e4 : 2 ^ (6 - (k + 1)) = s := by rw [hs]; congr 1; omega
    rw [e4]
    have e5 : 2 ^ (64 - s) = 2 ^ (64 - 2 * s) * 2 ^ s := by rw [← Nat.pow_add]; congr 1; omega
    rw [e5]; exact Nat.mul_le_mul_right _ h3
  · have e4 : 2 ^ (6 - (k + 1)) = s := by rw [hs]; congr 1; omega
    rw [e4]; omega
theorem leadRel_no {u k U n : Nat} (s : Nat) (hs : s = 2 ^ (5 - k)) (hk : k ≤ 5) (h : LeadRel u k U n) (D : Int) (hD : D = 2 ^ (64 - s)) (ht : ((U : Int) / D == 0) = false) :
    LeadRel u (k + 1) U n := by
  obtain ⟨h1, h2, h3, h4⟩ := h
  have e : 2 ^ (6 - k) = 2 * s := by rw [hs, ← Nat.pow_succ']; congr 1; omega
  have e4 : 2 ^ (6 - (k + 1)) = s := by rw [hs]; congr 1; omega
  rw [e] at h3 h4
  refine ⟨h1, h2, ?_, by rw [e4]; omega⟩
  rw [e4]
  rcases Nat.lt_or_ge U (2 ^ (64 - s)) with h | h
  · exfalso
    have e2 : D = ((2 ^ (64 - s) : Nat) : Int) := by rw [hD]; simp
    rw [e2, ← Int.natCast_ediv, Nat.div_eq_of_lt h] at ht
    simp at ht
  · exact h
theorem leadRel_end {u U n : Nat} (h : LeadRel u 6 U n) : (n : Int) = lead u := by
  obtain ⟨h1, h2, h3, h4⟩ := h
  simp at h3 h4
  rw [lead_of u n (by omega) (by rw [← h1]; omega) (by rw [← h1]; omega)]
end Go.Proofs.YtohgpllonbplfaaDoor.WordMath

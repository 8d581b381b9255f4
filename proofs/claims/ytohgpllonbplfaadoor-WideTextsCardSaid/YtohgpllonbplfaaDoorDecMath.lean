/- Decimal digits, as bytes: plain arithmetic. No program in sight. -/
import Derived.WalkKit
namespace Go.Proofs.YtohgpllonbplfaaDoor
open Go
set_option linter.unusedVariables false

/-- the last digit -/
def dig (u : Nat) : UInt8 := UInt8.ofNat (48 + u % 10)
theorem dig_nat (u : Nat) : (dig u).toNat = 48 + u % 10 := by
  unfold dig
  rw [UInt8.toNat_ofNat']
  omega
theorem dig_inj {a b : Nat} (h : dig a = dig b) : a % 10 = b % 10 := by
  have h1 := dig_nat a
  have h2 := dig_nat b
  rw [h] at h1
  omega
/-- the digits, the last one first, at least so many -/
def lowD (u least : Nat) : List UInt8 := if u = 0 ∧ least = 0 then [] else dig u :: lowD (u / 10) (least - 1)
termination_by u + least
decreasing_by omega
theorem lowD_nil : lowD 0 0 = [] := by rw [lowD]; simp
theorem lowD_cons {u least : Nat} (h : ¬ (u = 0 ∧ least = 0)) : lowD u least = dig u :: lowD (u / 10) (least - 1) := by rw [lowD, if_neg h]
theorem lowD_join (c m j k : Nat) (h : c < 10 ^ k) : lowD (c + 10 ^ k * m) (k + j) = lowD c k ++ lowD m j := by
  induction k generalizing c with
  | zero =>
    obtain rfl : c = 0 := by simpa using h
    rw [lowD_nil]; simp
  | succ k ih =>
    have e : 10 ^ (k + 1) * m = 10 * (10 ^ k * m) := by rw [Nat.pow_succ, Nat.mul_comm (10 ^ k) 10, Nat.mul_assoc]
    have hd : dig (c + 10 ^ (k + 1) * m) = dig c := by
      apply UInt8.toNat_inj.1
      rw [dig_nat, dig_nat, e]
      omega
    rw [lowD_cons (u := c + 10 ^ (k + 1) * m) (by omega), lowD_cons (u := c) (least := k + 1) (by omega), hd]
    have h1 : (c + 10 ^ (k + 1) * m) / 10 = c / 10 + 10 ^ k * m := by rw [e]; omega
    rw [h1, show k + 1 + j - 1 = k + j by omega, show k + 1 - 1 = k by omega, ih (c / 10) (by rw [Nat.pow_succ] at h; omega)]
    rfl
theorem lowD_pos {u : Nat} (h : u ≠ 0) (n : Nat) : lowD u n = dig u :: lowD (u / 10) (n - 1) := lowD_cons (by omega)
/-- the digits of a number, the first one first -/
def digs (u : Nat) : List UInt8 := (lowD u 0).reverse
theorem digs_zero : digs 0 = [] := by unfold digs; rw [lowD_nil]; rfl
theorem digs_pos {u : Nat} (h : u ≠ 0) : digs u = digs (u / 10) ++ [dig u] := by unfold digs; rw [lowD_pos h 0]; simp
theorem digs_ne {u : Nat} (h : u ≠ 0) : digs u ≠ [] := by rw [digs_pos h]; simp
theorem drop_app {p : UInt8 → Bool} (l : List UInt8) (d : UInt8) : (l ++ [d]).dropWhile p = if (l.dropWhile p) = [] then [d].dropWhile p else l.dropWhile p ++ [d] := by
  induction l with
  | nil => simp
  | cons x r ih =>
    simp only [List.cons_append, List.dropWhile_cons]
    by_cases hx : p x = true
    · simp only [hx, if_true]; rw [ih, List.dropWhile_cons]
    · simp [hx]
theorem trim_low (n : Nat) : ∀ u : Nat, (lowD u n).reverse.dropWhile (· == 48) = digs u := by
  induction n with
  | zero =>
    intro u
    induction u using Nat.strongRecOn with
    | ind u ih =>
      by_cases h : u = 0
      · subst h; rw [lowD_nil, digs_zero]; rfl
      · rw [lowD_pos h, List.reverse_cons, drop_app, ih (u / 10) (by omega), digs_pos h]
        by_cases h1 : u / 10 = 0
        · rw [h1, digs_zero, if_pos rfl]
          have : (dig u == 48) = false := by
            rw [beq_eq_false_iff_ne]
            intro e
            have := dig_nat u
            rw [e, show (48 : UInt8).toNat = 48 from rfl] at this
            omega
          simp [this]
        · rw [if_neg (digs_ne h1)]
  | succ n ih =>
    intro u
    rw [lowD_cons (by omega), List.reverse_cons, drop_app, show n + 1 - 1 = n by omega, ih]
    by_cases h : u = 0
    · subst h
      rw [show 0 / 10 = 0 from rfl, digs_zero, if_pos rfl]
      rfl
    · rw [digs_pos h]
      by_cases h1 : u / 10 = 0
      · rw [h1, digs_zero, if_pos rfl]
        have : (dig u == 48) = false := by
          rw [beq_eq_false_iff_ne]
          intro e
          have := dig_nat u
          rw [e, show (48 : UInt8).toNat = 48 from rfl] at this
          omega
        simp [this]
      · rw [if_neg (digs_ne h1)]
theorem lowD_inj : ∀ a b : Nat, lowD a 0 = lowD b 0 → a = b := by
  intro a
  induction a using Nat.strongRecOn with
  | ind a ih =>
    intro b h
    by_cases ha : a = 0
    · subst ha
      by_cases hb : b = 0
      · exact hb.symm
      · rw [lowD_nil, lowD_pos hb] at h; cases h
    · by_cases hb : b = 0
      · subst hb; rw [lowD_nil, lowD_pos ha] at h; cases h
      · rw [lowD_pos ha, lowD_pos hb] at h
        injection h with h1 h2
        have e1 := dig_inj h1
        have e2 := ih (a / 10) (by omega) (b / 10) h2
        omega
theorem digs_inj {a b : Nat} (h : digs a = digs b) : a = b := lowD_inj a b (by unfold digs at h; simpa using h)
theorem lowD_bytes (u n : Nat) : ∀ x ∈ lowD u n, 48 ≤ x.toNat ∧ x.toNat ≤ 57 := by
  induction h : u + n using Nat.strongRecOn generalizing u n with
  | ind k ih =>
    by_cases hz : u = 0 ∧ n = 0
    · rw [hz.1, hz.2, lowD_nil]; simp
    · rw [lowD_cons hz]
      intro x hx
      rcases List.mem_cons.1 hx with rfl | hx
      · rw [dig_nat]; omega
      · exact ih (u / 10 + (n - 1)) (by omega) (u / 10) (n - 1) rfl x hx
theorem lowD_length (k : Nat) : ∀ u : Nat, u < 10 ^ k → (lowD u 0).length ≤ k := by
  induction k with
  | zero => intro u h; obtain rfl : u = 0 := by simpa using h
            rw [lowD_nil]; simp
  | succ k ih =>
    intro u h
    by_cases hu : u = 0
    · subst hu; rw [lowD_nil]; simp
    · rw [lowD_pos hu]
      have := ih (u / 10) (by rw [Nat.pow_succ] at h; omega)
      simp; omega
theorem lowD_length2 (k : Nat) : ∀ u n : Nat, u < 10 ^ k → n ≤ k → (lowD u n).length ≤ k := by
  induction k with
  | zero => intro u n h hn; obtain rfl : u = 0 := by simpa using h
            obtain rfl : n = 0 := by omega
            rw [lowD_nil]; simp
  | succ k ih =>
    intro u n h hn
    by_cases hu : u = 0 ∧ n = 0
    · rw [hu.1, hu.2, lowD_nil]; simp
    · rw [lowD_cons hu]
      have := ih (u / 10) (n - 1) (by rw [Nat.pow_succ] at h; omega) (by omega)
      simp; omega
/-- a number's text -/
def textL (a : Int) : List UInt8 := if a = 0 then [48] else if a < 0 then 45 :: digs a.natAbs else digs a.natAbs
theorem digs_head {u : Nat} (h : u ≠ 0) : ∃ x r, digs u = x :: r ∧ 48 ≤ x.toNat := by
  cases hd : digs u with
  | nil => exact absurd hd (digs_ne h)
  | cons x r =>
    refine ⟨x, r, rfl, (lowD_bytes u 0 x ?_).1⟩
    have : x ∈ digs u := by rw [hd]; simp
    unfold digs at this
    simpa using this
theorem digs_not0 {u : Nat} (h : u ≠ 0) : digs u ≠ [48] := by
  intro e
  have := digs_pos h
  rw [e] at this
  have h1 : digs (u / 10) = [] ∧ dig u = 48 := by
    cases hd : digs (u / 10) with
    | nil => rw [hd] at this; simpa using this.symm
    | cons x r => rw [hd] at this; simp at this
  by_cases hz : u / 10 = 0
  · have h2 := dig_nat u
    rw [h1.2, show (48 : UInt8).toNat = 48 from rfl] at h2
    omega
  · exact digs_ne hz h1.1
theorem textL_inj {a b : Int} (h : textL a = textL b) : a = b := by
  unfold textL at h
  have pa : a ≠ 0 → a.natAbs ≠ 0 := by omega
  have pb : b ≠ 0 → b.natAbs ≠ 0 := by omega
  by_cases ha : a = 0
  · by_cases hb : b = 0
    · omega
    · rw [if_pos ha, if_neg hb] at h
      by_cases hn : b < 0
      · rw [if_pos hn] at h; injection h with h1 h2; cases h1
      · rw [if_neg hn] at h; exact absurd h.symm (digs_not0 (pb hb))
  · by_cases hb : b = 0
    · rw [if_neg ha, if_pos hb] at h
      by_cases hn : a < 0
      · rw [if_pos hn] at h; injection h with h1 h2; cases h1
      · rw [if_neg hn] at h; exact absurd h (digs_not0 (pa ha))
    · rw [if_neg ha, if_neg hb] at h
      obtain ⟨x, r, ex, hx⟩ := digs_head (pa ha)
      obtain ⟨y, s, ey, hy⟩ := digs_head (pb hb)
      by_cases na : a < 0 <;> by_cases nb : b < 0 <;> simp only [na, nb, if_true, if_false] at h
      · injection h with _ h; have := digs_inj h; omega
      · rw [ey] at h; injection h with h1 h2; subst h1; simp at hy
      · rw [ex] at h; injection h with h1 h2; subst h1; simp at hx
      · have := digs_inj h; omega
theorem textL_len (a : Int) (h : a.natAbs < 10 ^ 39) : 0 < (textL a).length ∧ (textL a).length ≤ 40 := by
  unfold textL
  have hl := lowD_length 39 a.natAbs h
  by_cases ha : a = 0
  · rw [if_pos ha]; simp
  · rw [if_neg ha]
    obtain ⟨x, r, ex, hx⟩ := digs_head (u := a.natAbs) (by omega)
    have : (digs a.natAbs).length ≤ 39 := by unfold digs; simpa using hl
    by_cases hn : a < 0
    · rw [if_pos hn]; simp; omega
    · rw [if_neg hn]; constructor
      · rw [ex]; simp
      · omega
theorem textL_head (a : Int) : ∃ x r, textL a = x :: r ∧ (x = 45 ↔ a < 0) := by
  unfold textL
  by_cases ha : a = 0
  · rw [if_pos ha]; exact ⟨48, [], rfl, by constructor <;> intro h <;> first | (simp at h) | omega⟩
  · rw [if_neg ha]
    by_cases hn : a < 0
    · rw [if_pos hn]; exact ⟨45, _, rfl, by simp [hn]⟩
    · rw [if_neg hn]
      obtain ⟨x, r, ex, hx⟩ := digs_head (u := a.natAbs) (by omega)
      refine ⟨x, r, ex, ?_⟩
      constructor
      · intro h; subst h; simp at hx
      · intro h; exact absurd h hn
theorem textL_five : textL (-5) = [45, 53] := by
  unfold textL
  rw [if_neg (by decide), if_pos (by decide), digs_pos (by decide), show (-5 : Int).natAbs / 10 = 0 by decide, digs_zero]
  rfl
/-- three parts of nineteen digits -/
theorem three_parts (v : Nat) (h : v < 10 ^ 39) : ((lowD (v / 10 ^ 19 / 10 ^ 19) 1).reverse ++ (lowD (v / 10 ^ 19 % 10 ^ 19) 19).reverse ++ (lowD (v % 10 ^ 19) 19).reverse).dropWhile (· == 48) = digs v := by
  have e1 := lowD_join (v / 10 ^ 19 % 10 ^ 19) (v / 10 ^ 19 / 10 ^ 19) 1 19 (Nat.mod_lt _ (by decide))
  have e2 := lowD_join (v % 10 ^ 19) (v / 10 ^ 19) 20 19 (Nat.mod_lt _ (by decide))
  rw [Nat.mod_add_div] at e1 e2
  rw [← List.reverse_append, ← e1, ← List.reverse_append, ← e2]
  exact trim_low _ v
end Go.Proofs.YtohgpllonbplfaaDoor

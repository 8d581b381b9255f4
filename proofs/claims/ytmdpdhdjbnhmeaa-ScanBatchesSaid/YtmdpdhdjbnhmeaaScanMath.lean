/- Plain facts on places of numbers that are something. No program in sight. -/
namespace Go.Proofs.Ytmdpdhdjbnhmeaa

/-- the places, below n, of numbers that are something -/
def whereL (x : Nat → Int) (p : Int → Bool) : Nat → List Int
  | 0 => []
  | k + 1 => if p (x k) = true then whereL x p k ++ [(k : Int)] else whereL x p k
theorem whereL_le (x : Nat → Int) (p : Int → Bool) (n : Nat) : (whereL x p n).length ≤ n := by
  induction n with
  | zero => simp [whereL]
  | succ n ih => rw [whereL]; split
                 · simp; exact ih
                 · omega
theorem whereL_yes {x : Nat → Int} {p : Int → Bool} {k : Nat} (h : p (x k) = true) : whereL x p (k + 1) = whereL x p k ++ [(k : Int)] := by rw [whereL, if_pos h]
theorem whereL_no {x : Nat → Int} {p : Int → Bool} {k : Nat} (h : p (x k) = false) : whereL x p (k + 1) = whereL x p k := by rw [whereL, if_neg (by simp [h])]
theorem whereL_congr (x : Nat → Int) (p q : Int → Bool) (n : Nat) (h : ∀ i, i < n → p (x i) = q (x i)) : whereL x p n = whereL x q n := by
  induction n with
  | zero => rfl
  | succ n ih => rw [whereL, whereL, h n (by omega), ih (fun i hi => h i (by omega))]
theorem whereL_congr2 (x y : Nat → Int) (p : Int → Bool) (n : Nat) (h : ∀ i, i < n → x i = y i) : whereL x p n = whereL y p n := by
  induction n with
  | zero => rfl
  | succ n ih => rw [whereL, whereL, h n (by omega), ih (fun i hi => h i (by omega))]
theorem whereL_mem (x : Nat → Int) (p : Int → Bool) (n : Nat) (u : Int) : u ∈ whereL x p n ↔ ∃ i : Nat, i < n ∧ u = i ∧ p (x i) = true := by
  induction n with
  | zero => simp [whereL]
  | succ n ih =>
    constructor
    · intro h
      rw [whereL] at h
      split at h
      · rename_i hp
        rcases List.mem_append.1 h with h | h
        · obtain ⟨i, a, b, c⟩ := ih.1 h
          exact ⟨i, by omega, b, c⟩
        · simp at h
          exact ⟨n, by omega, h, hp⟩
      · obtain ⟨i, a, b, c⟩ := ih.1 h
        exact ⟨i, by omega, b, c⟩
    · rintro ⟨i, a, b, c⟩
      rw [whereL]
      rcases Nat.lt_or_ge i n with h | h
      · have := ih.2 ⟨i, h, b, c⟩
        split
        · exact List.mem_append.2 (.inl this)
        · exact this
      · obtain rfl : i = n := by omega
        rw [if_pos c]
        exact List.mem_append.2 (.inr (by simp [b]))
/-- what is at a place of the list -/
theorem whereL_at (x : Nat → Int) (p : Int → Bool) (n j : Nat) (h : j < (whereL x p n).length) : ∃ i : Nat, i < n ∧ (whereL x p n).getD j 0 = (i : Int) ∧ p (x i) = true := by
  have hm : (whereL x p n)[j] ∈ whereL x p n := List.getElem_mem h
  obtain ⟨i, a, b, c⟩ := (whereL_mem x p n _).1 hm
  exact ⟨i, a, by rw [List.getD_eq_getElem?_getD, List.getElem?_eq_getElem h, Option.getD_some, b], c⟩
/-- a filter and its no-case have each place once -/
theorem whereL_not (x : Nat → Int) (p q : Int → Bool) (n : Nat) (h : ∀ i, i < n → q (x i) = !p (x i)) : (whereL x p n).length + (whereL x q n).length = n := by
  induction n with
  | zero => rfl
  | succ n ih =>
    have ih := ih (fun i hi => h i (by omega))
    have h1 := h n (by omega)
    cases hp : p (x n) with
    | false => rw [whereL_no hp, whereL_yes (by rw [h1, hp]; rfl)]; simp; omega
    | true => rw [whereL_yes hp, whereL_no (by rw [h1, hp]; rfl)]; simp; omega
theorem whereL_none (x : Nat → Int) (p : Int → Bool) (n : Nat) (h : ∀ i, i < n → p (x i) = false) : whereL x p n = [] := by
  induction n with
  | zero => rfl
  | succ n ih => rw [whereL_no (h n (by omega)), ih (fun i hi => h i (by omega))]
/-- in a span -/
def inSpan (from_ to : Int) (t : Int) : Bool := decide (from_ ≤ t) && decide (t < to)
theorem inSpan_iff {a b t : Int} : inSpan a b t = true ↔ a ≤ t ∧ t < b := by simp [inSpan]
theorem inSpan_no {a b t : Int} : inSpan a b t = false ↔ ¬ (a ≤ t ∧ t < b) := by
  rw [← inSpan_iff]; simp
/-- the places of a span's two parts, one behind the other, are those of the span -/
theorem whereL_parts (x : Nat → Int) (a m b : Int) (h1 : a ≤ m) (h2 : m ≤ b) (n : Nat) (hr : ∀ i j, i ≤ j → j < n → x i ≤ x j) : whereL x (inSpan a b) n = whereL x (inSpan a m) n ++ whereL x (inSpan m b) n := by
  induction n with
  | zero => rfl
  | succ n ih =>
    have ih := ih (fun i j h hj => hr i j h (by omega))
    by_cases hab : a ≤ x n ∧ x n < b
    · rw [whereL_yes (inSpan_iff.2 hab), ih]
      by_cases hm : x n < m
      · rw [whereL_yes (p := inSpan a m) (inSpan_iff.2 ⟨hab.1, hm⟩), whereL_no (p := inSpan m b) (inSpan_no.2 (by omega))]
        rw [whereL_none x (inSpan m b) n (fun i hi => inSpan_no.2 (by have := hr i n (by omega) (by omega); omega))]
        simp
      · rw [whereL_no (p := inSpan a m) (inSpan_no.2 (by omega)), whereL_yes (p := inSpan m b) (inSpan_iff.2 (by omega))]
        simp
    · rw [whereL_no (inSpan_no.2 hab), ih, whereL_no (p := inSpan a m) (inSpan_no.2 (by omega)), whereL_no (p := inSpan m b) (inSpan_no.2 (by omega))]
/-- the sum of steps -/
def tsum (s : Nat → Int) : Nat → Int
  | 0 => 0
  | k + 1 => tsum s k + s k
theorem tsum_mono (s : Nat → Int) (h : ∀ i, 0 ≤ s i) {i j : Nat} (hij : i ≤ j) : tsum s i ≤ tsum s j := by
  induction j with
  | zero => obtain rfl : i = 0 := by omega
            exact Int.le_refl _
  | succ j ih =>
    rcases Nat.lt_or_ge j i with h1 | h1
    · obtain rfl : i = j + 1 := by omega
      exact Int.le_refl _
    · have := ih h1
      have := h j
      show tsum s i ≤ tsum s j + s j
      omega
theorem tsum_bd (s : Nat → Int) (h : ∀ i, 0 ≤ s i ∧ s i ≤ 15) (k : Nat) : 0 ≤ tsum s k ∧ tsum s k ≤ 15 * k := by
  induction k with
  | zero => simp [tsum]
  | succ k ih => have := h k; simp only [tsum]; omega
end Go.Proofs.Ytmdpdhdjbnhmeaa

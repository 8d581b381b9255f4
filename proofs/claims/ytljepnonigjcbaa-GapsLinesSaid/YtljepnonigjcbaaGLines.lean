/- Rows at some of the windows side by side, and what a filling tells of them. No program in sight. -/
import Derived.Test.YtljepnonigjcbaaGSide
import Derived.Test.YtljepnonigjcbaaGFillAll
namespace Go.Proofs.Ytljepnonigjcbaa
open Go Go.RowKit
set_option linter.unusedVariables false

def lrow (x : Nat → Int) (i : Nat) : Rw := ⟨(i : Int) * 10, (i : Int) * 10 + 10, false, x i⟩
def hasG (x : Nat → Int) (b : Nat → Bool) (i : Nat) : List Rw := if b i = true then [lrow x i] else []
def hasR (x : Nat → Int) (b : Nat → Bool) : Nat → List Rw
  | 0 => []
  | i + 1 => hasR x b i ++ hasG x b i
def cntB (b : Nat → Bool) : Nat → Nat
  | 0 => 0
  | i + 1 => cntB b i + if b i = true then 1 else 0
theorem hasR_length (x : Nat → Int) (b : Nat → Bool) (n : Nat) : (hasR x b n).length = cntB b n := by
  induction n with
  | zero => rfl
  | succ n ih => simp only [hasR, cntB, List.length_append, ih, hasG]; split <;> rfl
theorem cntB_le (b : Nat → Bool) (n : Nat) : cntB b n ≤ n := by
  induction n with
  | zero => exact Nat.le_refl _
  | succ n ih => simp only [cntB]; split <;> omega
theorem hasR_mem (x : Nat → Int) (b : Nat → Bool) (n : Nat) (r : Rw) (h : r ∈ hasR x b n) : ∃ j, j < n ∧ r = lrow x j := by
  induction n with
  | zero => simp [hasR] at h
  | succ n ih =>
    simp only [hasR, List.mem_append] at h
    rcases h with h | h
    · obtain ⟨j, hj, e⟩ := ih h; exact ⟨j, by omega, e⟩
    · unfold hasG at h
      split at h
      · simp at h; exact ⟨n, by omega, h⟩
      · simp at h
theorem hasR_split (x : Nat → Int) (b : Nat → Bool) (i d : Nat) : ∃ T, hasR x b (i + d) = hasR x b i ++ T ∧ ∀ r ∈ T, ∃ j, i ≤ j ∧ j < i + d ∧ r = lrow x j := by
  induction d with
  | zero => exact ⟨[], by simp, fun r h => by simp at h⟩
  | succ d ih =>
    obtain ⟨T, e, hT⟩ := ih
    refine ⟨T ++ hasG x b (i + d), by rw [← Nat.add_assoc]; simp only [hasR, e, List.append_assoc], fun r h => ?_⟩
    rcases List.mem_append.1 h with h | h
    · obtain ⟨j, h1, h2, h3⟩ := hT r h; exact ⟨j, h1, by omega, h3⟩
    · unfold hasG at h
      split at h
      · simp at h; exact ⟨i + d, by omega, by omega, h⟩
      · simp at h
/-- a window with a row -/
theorem has_hit (x : Nat → Int) (b : Nat → Bool) (i n : Nat) (hi : i < n) (hb : b i = true) : cntB b i < (hasR x b n).length ∧ (hasR x b n).getD (cntB b i) rw0 = lrow x i := by
  obtain ⟨T, e, hT⟩ := hasR_split x b (i + 1) (n - (i + 1))
  rw [show i + 1 + (n - (i + 1)) = n by omega] at e
  have e1 : hasR x b (i + 1) = hasR x b i ++ [lrow x i] := by simp only [hasR, hasG, hb, if_true]
  rw [e, e1]
  have hl := hasR_length x b i
  refine ⟨by simp; omega, ?_⟩
  rw [List.getD_eq_getElem?_getD, List.getElem?_append_left (by simp; omega), List.getElem?_append_right (by omega), hl]
  simp
/-- a window without a row: the rows ahead of it and behind it -/
theorem has_miss (x : Nat → Int) (b : Nat → Bool) (i n : Nat) (hi : i < n) (hb : b i = false) :
    cntB b i ≤ (hasR x b n).length ∧ (cntB b i < (hasR x b n).length → ∃ j, i < j ∧ j < n ∧ (hasR x b n).getD (cntB b i) rw0 = lrow x j) ∧ (0 < cntB b i → ∃ j, j < i ∧ (hasR x b n).getD (cntB b i - 1) rw0 = lrow x j) := by
  obtain ⟨T, e, hT⟩ := hasR_split x b (i + 1) (n - (i + 1))
  rw [show i + 1 + (n - (i + 1)) = n by omega] at e
  have e1 : hasR x b (i + 1) = hasR x b i := by simp [hasR, hasG, hb]
  rw [e, e1]
  have hl := hasR_length x b i
  refine ⟨by simp; omega, fun h => ?_, fun h => ?_⟩
  · have h2 : 0 < T.length := by simp at h; omega
    obtain ⟨j, h3, h4, h5⟩ := hT (T.getD 0 rw0) (by rw [List.getD_eq_getElem?_getD, List.getElem?_eq_getElem h2]; exact List.getElem_mem _)
    refine ⟨j, by omega, by omega, ?_⟩
    rw [← h5, List.getD_eq_getElem?_getD, List.getElem?_append_right (by omega), hl, Nat.sub_self, List.getD_eq_getElem?_getD]
  · have h2 : cntB b i - 1 < (hasR x b i).length := by omega
    obtain ⟨j, h3, h4⟩ := hasR_mem x b i ((hasR x b i).getD (cntB b i - 1) rw0) (by rw [List.getD_eq_getElem?_getD, List.getElem?_eq_getElem h2]; exact List.getElem_mem _)
    refine ⟨j, h3, ?_⟩
    rw [← h4, List.getD_eq_getElem?_getD, List.getElem?_append_left h2, List.getD_eq_getElem?_getD]
theorem has_fine (x : Nat → Int) (b : Nat → Bool) (n : Nat) : fineR (hasR x b n) (wins 0 10 10 n) := by
  induction n with
  | zero => intro i hi; simp [hasR] at hi
  | succ n ih =>
    have hl := hasR_length x b n
    have hw : wins 0 10 10 (n + 1) = wins 0 10 10 n ++ [((n : Int) * 10, (n : Int) * 10 + 10)] := by rw [wins_succ]; simp
    intro i hi
    simp only [hasR] at hi ⊢
    rw [hw]
    unfold rowOk
    rcases Nat.lt_or_ge i (hasR x b n).length with h | h
    · obtain ⟨h1, h2, h3⟩ := ih i h
      have e : ∀ j, j < (hasR x b n).length → (hasR x b n ++ hasG x b n).getD j rw0 = (hasR x b n).getD j rw0 := fun j hj => by
        rw [List.getD_eq_getElem?_getD, List.getElem?_append_left hj, List.getD_eq_getElem?_getD]
      rw [e i h]
      refine ⟨h1, List.mem_append.2 (.inl h2), fun h0 => ?_⟩
      rw [e (i - 1) (by omega)]
      exact h3 h0
    · cases hb : b n with
      | false => simp [hasG, hb] at hi; omega
      | true =>
        have hg : hasG x b n = [lrow x n] := by simp [hasG, hb]
        rw [hg] at hi ⊢
        obtain rfl : i = (hasR x b n).length := by simp at hi; omega
        have e : (hasR x b n ++ [lrow x n]).getD (hasR x b n).length rw0 = lrow x n := by
          rw [List.getD_eq_getElem?_getD, List.getElem?_append_right (Nat.le_refl _)]; simp
        rw [e]
        refine ⟨rfl, List.mem_append.2 (.inr (by simp [lrow])), fun h0 => ?_⟩
        obtain ⟨j, hj, e2⟩ := hasR_mem x b n ((hasR x b n).getD ((hasR x b n).length - 1) rw0) (by rw [List.getD_eq_getElem?_getD, List.getElem?_eq_getElem (by omega)]; exact List.getElem_mem _)
        rw [List.getD_eq_getElem?_getD, List.getElem?_append_left (by omega), ← List.getD_eq_getElem?_getD, e2]
        simp only [lrow]
        omega
/-- the filling, window by window -/
theorem has_fill (how : Int) (x : Nat → Int) (b : Nat → Bool) (n i : Nat) (hi : i ≤ n) : (fillN how (hasR x b n) (wins 0 10 10 n) i).2 = cntB b i := by
  induction i with
  | zero => rfl
  | succ i ih =>
    have ih' := ih (by omega)
    cases hb : b i with
    | true =>
      obtain ⟨h1, h2⟩ := has_hit x b i n (by omega) hb
      rw [fillN_hit (by rw [ih']; exact h1) (by rw [ih', h2, wins_getD 0 10 10 n i (by omega)]; simp [lrow]), ih']
      simp [cntB, hb]
    | false =>
      obtain ⟨h1, h2, h3⟩ := has_miss x b i n (by omega) hb
      rw [fillN_miss (fun h => by
        rw [ih'] at h
        obtain ⟨j, hj, _, e⟩ := h2 h.1
        have := h.2
        rw [e, wins_getD 0 10 10 n i (by omega)] at this
        simp only [lrow] at this
        omega), ih']
      simp [cntB, hb]
theorem fillN_pre (how : Int) (R : List Rw) (L : List (Int × Int)) (i d : Nat) : ∃ T, (fillN how R L (i + d)).1 = (fillN how R L i).1 ++ T := by
  induction d with
  | zero => exact ⟨[], by simp⟩
  | succ d ih =>
    obtain ⟨T, e⟩ := ih
    rw [← Nat.add_assoc]
    by_cases h : (fillN how R L (i + d)).2 < R.length ∧ (R.getD (fillN how R L (i + d)).2 rw0).f = (L.getD (i + d) (0, 0)).1
    · rw [fillN_hit h.1 h.2, e]; exact ⟨_, by rw [List.append_assoc]⟩
    · rw [fillN_miss h, e]; exact ⟨_, by rw [List.append_assoc]⟩
theorem fillN_at (how : Int) (R : List Rw) (L : List (Int × Int)) (i n : Nat) (hi : i < n) (r : Rw) (h : (fillN how R L (i + 1)).1 = (fillN how R L i).1 ++ [r]) : (fillN how R L n).1.getD i rw0 = r := by
  obtain ⟨T, e⟩ := fillN_pre how R L (i + 1) (n - (i + 1))
  rw [show i + 1 + (n - (i + 1)) = n by omega] at e
  rw [e, h, List.getD_eq_getElem?_getD, List.getElem?_append_left (by simp [fillN_length]), List.getElem?_append_right (by simp [fillN_length]), fillN_length]
  simp
def hasF (how : Int) (x : Nat → Int) (b : Nat → Bool) (n : Nat) : List Rw := (fillN how (hasR x b n) (wins 0 10 10 n) n).1
theorem hasF_length (how : Int) (x : Nat → Int) (b : Nat → Bool) (n : Nat) : (hasF how x b n).length = n := fillN_length _ _ _ _
theorem hasF_hit (how : Int) (x : Nat → Int) (b : Nat → Bool) (n i : Nat) (hi : i < n) (hb : b i = true) : (hasF how x b n).getD i rw0 = lrow x i := by
  obtain ⟨h1, h2⟩ := has_hit x b i n hi hb
  have e := has_fill how x b n i (by omega)
  refine fillN_at _ _ _ i n hi _ ?_
  rw [fillN_hit (by rw [e]; exact h1) (by rw [e, h2, wins_getD 0 10 10 n i hi]; simp [lrow]), e, h2]
theorem hasF_miss (how : Int) (x : Nat → Int) (b : Nat → Bool) (n i : Nat) (hi : i < n) (hb : b i = false) :
    (hasF how x b n).getD i rw0 = holeRow how (if 0 < cntB b i then (hasR x b n)[cntB b i - 1]? else none) (hasR x b n)[cntB b i]? ((i : Int) * 10) ((i : Int) * 10 + 10) := by
  obtain ⟨h1, h2, h3⟩ := has_miss x b i n hi hb
  have e := has_fill how x b n i (by omega)
  refine fillN_at _ _ _ i n hi _ ?_
  rw [fillN_miss (fun h => by
        rw [e] at h
        obtain ⟨j, hj, _, e'⟩ := h2 h.1
        have := h.2
        rw [e', wins_getD 0 10 10 n i (by omega)] at this
        simp only [lrow] at this
        omega), e, wins_getD 0 10 10 n i hi]
  simp
theorem getq (R : List Rw) (k : Nat) (h : k < R.length) : R[k]? = some (R.getD k rw0) := by rw [List.getD_eq_getElem?_getD, List.getElem?_eq_getElem h]; rfl
/-- between -/
def betw (a b v : Int) : Prop := (a ≤ b → a ≤ v ∧ v ≤ b) ∧ (b ≤ a → b ≤ v ∧ v ≤ a)
theorem line_betw (p d t D : Int) (h0 : 0 < t) (h1 : t < D) : betw p (p + d) (p + d * t / D) := by
  have hD : 0 < D := by omega
  have key : ∀ d : Int, 0 ≤ d → 0 ≤ d * t / D ∧ d * t / D ≤ d := fun d hd => by
    refine ⟨Int.ediv_nonneg (Int.mul_nonneg hd (by omega)) (by omega), ?_⟩
    have : d * t / D ≤ d * D / D := Int.ediv_le_ediv hD (Int.mul_le_mul_of_nonneg_left (by omega) hd)
    rwa [Int.mul_ediv_cancel _ (by omega)] at this
  have key2 : ∀ d : Int, d ≤ 0 → d ≤ d * t / D ∧ d * t / D ≤ 0 := fun d hd => by
    constructor
    · have : d * D / D ≤ d * t / D := Int.ediv_le_ediv hD (by have h2 := Int.mul_le_mul_of_nonneg_left (show t ≤ D by omega) (show 0 ≤ -d by omega); rw [Int.neg_mul, Int.neg_mul] at h2; omega)
      rwa [Int.mul_ediv_cancel _ (by omega)] at this
    · have h2 : d * t ≤ 0 := Int.mul_nonpos_of_nonpos_of_nonneg hd (by omega)
      have : d * t / D ≤ 0 / D := Int.ediv_le_ediv hD h2
      simpa using this
  constructor
  · intro h; have := key d (by omega); omega
  · intro h; have := key2 d (by omega); omega
def in64x (x : Int) : Prop := -9223372036854775808 ≤ x ∧ x ≤ 9223372036854775807
theorem fits_in64 {v : Int} (h : in64x v) : fits v := by unfold in64x at h; unfold fits; omega
/-- a window without a row: nothing is told, but by its way -/
theorem miss_1 (x : Nat → Int) (b : Nat → Bool) (n i : Nat) (hi : i < n) (hb : b i = false) : (hasF 1 x b n).getD i rw0 = nullRow ((i : Int) * 10) ((i : Int) * 10 + 10) := by
  rw [hasF_miss 1 x b n i hi hb]; rfl
theorem miss_2 (x : Nat → Int) (b : Nat → Bool) (n i : Nat) (hi : i < n) (hb : b i = false) :
    (hasF 2 x b n).getD i rw0 = if 0 < cntB b i then ⟨(i : Int) * 10, (i : Int) * 10 + 10, false, ((hasR x b n).getD (cntB b i - 1) rw0).v⟩ else nullRow ((i : Int) * 10) ((i : Int) * 10 + 10) := by
  rw [hasF_miss 2 x b n i hi hb]
  obtain ⟨h1, h2, h3⟩ := has_miss x b i n hi hb
  unfold holeRow
  rw [if_pos rfl]
  split
  · rename_i h; rw [getq _ _ (by omega)]; rfl
  · rfl
theorem miss_3n (x : Nat → Int) (b : Nat → Bool) (n i : Nat) (hi : i < n) (hb : b i = false) (h : ¬ (0 < cntB b i ∧ cntB b i < (hasR x b n).length)) :
    (hasF 3 x b n).getD i rw0 = nullRow ((i : Int) * 10) ((i : Int) * 10 + 10) := by
  rw [hasF_miss 3 x b n i hi hb]
  obtain ⟨h1, h2, h3⟩ := has_miss x b i n hi hb
  unfold holeRow
  rw [if_neg (by decide), if_pos rfl]
  unfold linRow
  by_cases h0 : 0 < cntB b i
  · have : (hasR x b n)[cntB b i]? = none := List.getElem?_eq_none (by omega)
    rw [this]
    split <;> simp_all
  · rw [if_neg h0]
theorem miss_3 (x : Nat → Int) (b : Nat → Bool) (n i : Nat) (hx : ∀ j, j < n → in64x (x j)) (hn : n ≤ 60) (hi : i < n) (hb : b i = false) (h0 : 0 < cntB b i) (h1 : cntB b i < (hasR x b n).length) :
    ∃ v, (hasF 3 x b n).getD i rw0 = ⟨(i : Int) * 10, (i : Int) * 10 + 10, false, v⟩ ∧ betw ((hasR x b n).getD (cntB b i - 1) rw0).v ((hasR x b n).getD (cntB b i) rw0).v v ∧ fits v ∧ fits ((hasR x b n).getD (cntB b i - 1) rw0).v ∧ fits ((hasR x b n).getD (cntB b i) rw0).v := by
  rw [hasF_miss 3 x b n i hi hb]
  obtain ⟨_, h2, h3⟩ := has_miss x b i n hi hb
  obtain ⟨j, hj, hjn, ej⟩ := h2 h1
  obtain ⟨l, hl, el⟩ := h3 h0
  rw [if_pos h0, getq _ _ h1, getq _ _ (show cntB b i - 1 < (hasR x b n).length by omega), ej, el]
  unfold holeRow
  rw [if_neg (by decide), if_pos rfl]
  show ∃ v, lineRow (lrow x l) (lrow x j) _ _ = _ ∧ _
  have hxj := hx j hjn
  have hxl := hx l (by omega)
  unfold in64x at hxj hxl
  obtain ⟨d, hd⟩ : ∃ d, d = x j - x l := ⟨_, rfl⟩
  obtain ⟨t, ht⟩ : ∃ t : Int, t = (i : Int) * 10 - (l : Int) * 10 := ⟨_, rfl⟩
  obtain ⟨D, hD⟩ : ∃ D : Int, D = (j : Int) * 10 - (l : Int) * 10 := ⟨_, rfl⟩
  have hb1 := line_betw (x l) d t D (by omega) (by omega)
  have e1 : x l + d = x j := by omega
  rw [e1] at hb1
  have hmul : -(18446744073709551616 * 600) ≤ d * t ∧ d * t ≤ 18446744073709551616 * 600 := by
    have t0 : 0 ≤ t := by omega
    have t1 : t ≤ 600 := by omega
    have d0 : -18446744073709551616 ≤ d := by omega
    have d1 : d ≤ 18446744073709551616 := by omega
    have a1 : d * t ≤ 18446744073709551616 * t := Int.mul_le_mul_of_nonneg_right d1 t0
    have a2 : -18446744073709551616 * t ≤ d * t := Int.mul_le_mul_of_nonneg_right d0 t0
    omega
  have f1 : fits d := by unfold fits; omega
  have f2 : fits (d * t) := by unfold fits; omega
  have hv : fits (x l + d * t / D) := by
    unfold betw at hb1
    unfold fits
    rcases Int.le_total (x l) (x j) with h | h
    · have := hb1.1 h; omega
    · have := hb1.2 h; omega
  refine ⟨x l + d * t / D, ?_, hb1, hv, fits_in64 hxl, fits_in64 hxj⟩
  have hd' : (lrow x j).v - (lrow x l).v = d := hd.symm
  have ht' : (i : Int) * 10 - (lrow x l).f = t := ht.symm
  have hD' : (lrow x j).f - (lrow x l).f = D := hD.symm
  unfold lineRow
  rw [if_pos (by rw [hd', ht']; exact ⟨f1, f2⟩), hd', ht', hD']
  congr 1
  exact sumOf_yes hv
end Go.Proofs.Ytljepnonigjcbaa

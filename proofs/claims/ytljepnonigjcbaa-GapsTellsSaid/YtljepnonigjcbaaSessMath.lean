/- Sessions, as plain lists: no program in sight. -/
import Derived.WalkKit
namespace Go.Proofs.Ytljepnonigjcbaa
set_option linter.unusedVariables false

def isTime (t : Int) : Prop := -1152921504606846976 ≤ t ∧ t ≤ 1152921504606846976
instance (t : Int) : Decidable (isTime t) := by unfold isTime; exact inferInstance
/-- the list so far, and one time more -/
def sessStep (gap : Int) (L : List (Int × Int)) (t : Int) : List (Int × Int) :=
  match L.getLast? with
  | some p => if t < p.2 then L.dropLast ++ [(p.1, t + gap)] else L ++ [(t, t + gap)]
  | none => [(t, t + gap)]
def sessTo (x : Nat → Int) (gap : Int) : Nat → List (Int × Int)
  | 0 => []
  | k + 1 => sessStep gap (sessTo x gap k) (x k)
theorem sessStep_nil (gap t : Int) : sessStep gap [] t = [(t, t + gap)] := rfl
theorem sessStep_last (gap t : Int) (M : List (Int × Int)) (p : Int × Int) : sessStep gap (M ++ [p]) t = if t < p.2 then M ++ [(p.1, t + gap)] else M ++ [p] ++ [(t, t + gap)] := by
  simp [sessStep]
theorem snoc_cases {α : Type} (L : List α) : L = [] ∨ ∃ M p, L = M ++ [p] := by
  rcases List.eq_nil_or_concat L with h | ⟨M, p, h⟩
  · exact .inl h
  · exact .inr ⟨M, p, by simpa using h⟩
theorem sessStep_length (gap t : Int) (L : List (Int × Int)) : (sessStep gap L t).length ≤ L.length + 1 := by
  rcases snoc_cases L with rfl | ⟨M, p, rfl⟩
  · simp [sessStep]
  · rw [sessStep_last]; split <;> simp
theorem sessTo_length (x : Nat → Int) (gap : Int) (k : Nat) : (sessTo x gap k).length ≤ k := by
  induction k with
  | zero => simp [sessTo]
  | succ k ih => have := sessStep_length gap (x k) (sessTo x gap k); simp only [sessTo]; omega
theorem sessTo_ne (x : Nat → Int) (gap : Int) (k : Nat) (hk : 0 < k) : sessTo x gap k ≠ [] := by
  cases k with
  | zero => omega
  | succ k =>
    simp only [sessTo]
    rcases snoc_cases (sessTo x gap k) with h | ⟨M, p, h⟩
    · rw [h]; simp [sessStep]
    · rw [h, sessStep_last]; split <;> simp
/-- the last session ends a gap behind the last time -/
theorem sessTo_last (x : Nat → Int) (gap : Int) (k : Nat) : ∃ M f, sessTo x gap (k + 1) = M ++ [(f, x k + gap)] := by
  simp only [sessTo]
  rcases snoc_cases (sessTo x gap k) with h | ⟨M, p, h⟩
  · rw [h]; exact ⟨[], x k, rfl⟩
  · rw [h, sessStep_last]
    split
    · exact ⟨M, p.1, rfl⟩
    · exact ⟨M ++ [p], x k, rfl⟩
/-- may the times be told as sessions? -/
def sessOk (n : Nat) (x : Nat → Int) (gap : Int) : Prop := 1 ≤ gap ∧ gap ≤ 1152921504606846976 ∧ (∀ i, i < n → isTime (x i)) ∧ ∀ i, 0 < i → i < n → x (i - 1) ≤ x i
end Go.Proofs.Ytljepnonigjcbaa

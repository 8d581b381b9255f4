/- Points and their pairs, as plain data: no program in sight. -/
import Derived.WalkKit
namespace Go.Proofs.Ytmdpdhdjbnhmeaa
set_option linter.unusedVariables false

structure Pt where
  t : Int
  v : Int
  s : Int
/-- a pair of points -/
structure Pr where
  l : Pt
  r : Pt
  has : Bool
def isTime (t : Int) : Prop := -1152921504606846976 ≤ t ∧ t ≤ 1152921504606846976
instance (t : Int) : Decidable (isTime t) := by unfold isTime; exact inferInstance
/-- rising times -/
def rises (n : Nat) (a : Nat → Pt) : Prop := ∀ i, i < n → isTime (a i).t ∧ (0 < i → (a (i - 1)).t < (a i).t)
theorem rises_lt {n : Nat} {a : Nat → Pt} (h : rises n a) (i j : Nat) (hij : i < j) (hj : j < n) : (a i).t < (a j).t := by
  induction j with
  | zero => omega
  | succ j ih =>
    have h1 := (h (j + 1) hj).2 (by omega)
    simp only [Nat.add_sub_cancel] at h1
    rcases Nat.lt_or_ge i j with h2 | h2
    · have := ih h2 (by omega); omega
    · obtain rfl : i = j := by omega
      exact h1
/-- behind the last one that is not behind a time -/
def nxt (b : Nat → Pt) : Nat → Int → Nat
  | 0, _ => 0
  | m + 1, t => if (b m).t ≤ t then m + 1 else nxt b m t
theorem nxt_le (b : Nat → Pt) (m : Nat) (t : Int) : nxt b m t ≤ m := by
  induction m with
  | zero => simp [nxt]
  | succ m ih => simp only [nxt]; split <;> omega
theorem nxt_of (b : Nat → Pt) (m k : Nat) (t : Int) (hk : k ≤ m) (h1 : 0 < k → (b (k - 1)).t ≤ t) (h2 : ∀ j, k ≤ j → j < m → t < (b j).t) : nxt b m t = k := by
  induction m with
  | zero => simp [nxt]; omega
  | succ m ih =>
    simp only [nxt]
    rcases Nat.lt_or_ge k (m + 1) with h | h
    · have := h2 m (by omega) (by omega)
      rw [if_neg (by omega)]
      exact ih (by omega) (fun j hj hm => h2 j hj (by omega))
    · obtain rfl : k = m + 1 := by omega
      have := h1 (by omega)
      simp only [Nat.add_sub_cancel] at this
      rw [if_pos this]
theorem nxt_last (b : Nat → Pt) (m : Nat) (t : Int) (h : 0 < nxt b m t) : (b (nxt b m t - 1)).t ≤ t := by
  induction m with
  | zero => simp [nxt] at h
  | succ m ih =>
    simp only [nxt] at h ⊢
    split at h
    · rename_i hc; rw [if_pos hc]; simpa using hc
    · rename_i hc; rw [if_neg hc]; exact ih h
theorem nxt_past (b : Nat → Pt) (m : Nat) (t : Int) (j : Nat) (h1 : nxt b m t ≤ j) (h2 : j < m) : t < (b j).t := by
  induction m with
  | zero => omega
  | succ m ih =>
    simp only [nxt] at h1
    split at h1
    · omega
    · rename_i hc
      rcases Nat.lt_or_ge j m with h | h
      · exact ih h1 h
      · obtain rfl : j = m := by omega
        omega
/-- a point's pair -/
def joinP (b : Nat → Pt) (m : Nat) (tol : Int) (p : Pt) : Pr :=
  if 0 < nxt b m p.t ∧ p.t - tol ≤ (b (nxt b m p.t - 1)).t then ⟨p, b (nxt b m p.t - 1), true⟩ else ⟨p, ⟨0, 0, 0⟩, false⟩
def joinL (a : Nat → Pt) (b : Nat → Pt) (m : Nat) (tol : Int) (n : Nat) : List Pr := (List.range n).map fun i => joinP b m tol (a i)
theorem joinL_length (a b : Nat → Pt) (m : Nat) (tol : Int) (n : Nat) : (joinL a b m tol n).length = n := by simp [joinL]
theorem joinL_succ (a b : Nat → Pt) (m : Nat) (tol : Int) (n : Nat) : joinL a b m tol (n + 1) = joinL a b m tol n ++ [joinP b m tol (a n)] := by simp [joinL, List.range_succ]
/-- may two lists be joined? -/
def joinOk (n : Nat) (a : Nat → Pt) (m : Nat) (b : Nat → Pt) (tol : Int) : Prop := rises n a ∧ rises m b ∧ 0 ≤ tol ∧ tol ≤ 1152921504606846976
end Go.Proofs.Ytmdpdhdjbnhmeaa

/- What a greater tolerance, and fewer points, do to the pairs. No program in sight. -/
import Derived.Test.YtpblabpajliagaaAsofNo
import Derived.Test.YtpblabpajliagaaPtsArg
namespace Go.Proofs.Ytpblabpajliagaa
open Go Go.RowKit
set_option linter.unusedVariables false

theorem joinP_left (b : Nat → Pt) (m : Nat) (t : Int) (p : Pt) : (joinP b m t p).l = p := by unfold joinP; split <;> rfl
theorem joinP_yes (b : Nat → Pt) (m : Nat) (t : Int) (p : Pt) (h : (joinP b m t p).has = true) : joinP b m t p = ⟨p, b (nxt b m p.t - 1), true⟩ ∧ 0 < nxt b m p.t ∧ p.t - t ≤ (b (nxt b m p.t - 1)).t ∧ (b (nxt b m p.t - 1)).t ≤ p.t := by
  unfold joinP at h ⊢
  split at h
  · rename_i hc; rw [if_pos hc]; exact ⟨rfl, hc.1, hc.2, nxt_last b m p.t hc.1⟩
  · simp at h
theorem joinP_no (b : Nat → Pt) (m : Nat) (t : Int) (p : Pt) (h : (joinP b m t p).has = false) : joinP b m t p = ⟨p, ⟨0, 0, 0⟩, false⟩ := by
  unfold joinP at h ⊢
  split at h
  · simp at h
  · rename_i hc; rw [if_neg hc]
theorem joinP_grow (b : Nat → Pt) (m : Nat) (s t : Int) (p : Pt) (hst : s ≤ t) (h : (joinP b m s p).has = true) : joinP b m t p = joinP b m s p := by
  obtain ⟨e, h1, h2, _⟩ := joinP_yes b m s p h
  rw [e]
  unfold joinP
  rw [if_pos ⟨h1, by omega⟩]
theorem nxt_mono (b : Nat → Pt) (m : Nat) (t T : Int) (h : t ≤ T) : nxt b m t ≤ nxt b m T := by
  rcases Nat.lt_or_ge (nxt b m T) (nxt b m t) with h1 | h1
  · have h2 := nxt_le b m t
    have h3 := nxt_past b m T (nxt b m t - 1) (by omega) (by omega)
    have h4 := nxt_last b m t (by omega)
    omega
  · exact h1
theorem nxt_cut (b : Nat → Pt) (m : Nat) (t T : Int) (h : t ≤ T) : nxt b (nxt b m T) t = nxt b m t :=
  nxt_of b _ _ t (nxt_mono b m t T h) (nxt_last b m t) (fun j h1 h2 => nxt_past b m t j h1 (by have := nxt_le b m T; omega))
theorem joinP_cut (b : Nat → Pt) (m : Nat) (tol T : Int) (p : Pt) (h : p.t ≤ T) : joinP b (nxt b m T) tol p = joinP b m tol p := by
  unfold joinP; rw [nxt_cut b m p.t T h]
theorem nxt_test (b : Nat → Pt) (m : Nat) (hr : rises m b) (T : Int) (i : Nat) (hi : i < m) : (b i).t ≤ T ↔ i < nxt b m T := by
  constructor
  · intro h
    rcases Nat.lt_or_ge i (nxt b m T) with h1 | h1
    · exact h1
    · have := nxt_past b m T i h1 hi; omega
  · intro h
    have h1 := nxt_last b m T (by omega)
    have h2 := nxt_le b m T
    rcases Nat.lt_or_ge i (nxt b m T - 1) with h3 | h3
    · have := rises_lt hr i (nxt b m T - 1) h3 (by omega); omega
    · obtain e : i = nxt b m T - 1 := by omega
      rw [e]; exact h1
/-- the points that are not behind the last one of the others -/
def few (n : Nat) (a : Nat → Pt) (m : Nat) (b : Nat → Pt) : Nat := if 0 < n then nxt b m (a (n - 1)).t else 0
theorem few_le (n : Nat) (a : Nat → Pt) (m : Nat) (b : Nat → Pt) : few n a m b ≤ m := by unfold few; split; exact nxt_le _ _ _; omega
theorem rises_take {n k : Nat} {a : Nat → Pt} (h : rises n a) (hk : k ≤ n) : rises k a := fun i hi => h i (by omega)
theorem joinP_few (n : Nat) (a : Nat → Pt) (m : Nat) (b : Nat → Pt) (tol : Int) (hr : rises n a) (i : Nat) (hi : i < n) : joinP b (few n a m b) tol (a i) = joinP b m tol (a i) := by
  unfold few
  rw [if_pos (by omega)]
  refine joinP_cut b m tol _ _ ?_
  rcases Nat.lt_or_ge i (n - 1) with h | h
  · have := rises_lt hr i (n - 1) h (by omega); omega
  · obtain e : i = n - 1 := by omega
    rw [e]; exact Int.le_refl _
/-- points as cells -/
def cells3 (b : Nat → Pt) (k : Nat) : List Value := (List.range k).flatMap fun j => [.int .i64 (b j).t, .int .i64 (b j).v, .int .i64 (b j).s]
theorem cells3_succ (b : Nat → Pt) (k : Nat) : cells3 b (k + 1) = cells3 b k ++ [.int .i64 (b k).t, .int .i64 (b k).v, .int .i64 (b k).s] := by simp [cells3, List.range_succ]
theorem cells3_length (b : Nat → Pt) (k : Nat) : (cells3 b k).length = k * 3 := by
  induction k with
  | zero => rfl
  | succ k ih => rw [cells3_succ, List.length_append, ih]; simp; omega
theorem cells3_at (b : Nat → Pt) (k j : Nat) (hj : j < k * 3) : (cells3 b k)[j]? = some (ptCell b j) := by
  induction k with
  | zero => omega
  | succ k ih =>
    rw [cells3_succ]
    rcases Nat.lt_or_ge j (k * 3) with h | h
    · rw [List.getElem?_append_left (by rw [cells3_length]; exact h)]; exact ih h
    · rw [List.getElem?_append_right (by rw [cells3_length]; exact h), cells3_length]
      unfold ptCell
      rcases (show j = k * 3 ∨ j = k * 3 + 1 ∨ j = k * 3 + 2 by omega) with rfl | rfl | rfl
      · rw [if_pos (by omega), show k * 3 / 3 = k by omega, show k * 3 - k * 3 = 0 by omega]; rfl
      · rw [if_neg (by omega), if_pos (by omega), show (k * 3 + 1) / 3 = k by omega, show k * 3 + 1 - k * 3 = 1 by omega]; rfl
      · rw [if_neg (by omega), if_neg (by omega), show (k * 3 + 2) / 3 = k by omega, show k * 3 + 2 - k * 3 = 2 by omega]; rfl
theorem Pts.of_own {w : World} {base : Nat} {e : TypeId} {A : Option Addr} {n c : Nat} {b : Nat → Pt} (h : w.ownsRow base e 3 (.slice A n c) n (cells3 b n)) : Pts w A n b :=
  own_cells h _ (fun j hj => cells3_at b n j hj)
/-- the pairs of a slice -/
def prCell (L : Nat → Pr) (j : Nat) : Value := ((prCells (L (j / 7)))[j % 7]?).getD undef
def Prs (w : World) (A : Option Addr) (n : Nat) (L : Nat → Pr) : Prop := Cells w A (n * 7) (prCell L)
theorem Prs.of_own {w : World} {base : Nat} {e : TypeId} {A : Option Addr} {n c : Nat} {M : List Pr} {L : Nat → Pr} (hL : ∀ i, i < n → M[i]? = some (L i)) (h : w.ownsRow base e 7 (.slice A n c) n (cells7 M)) : Prs w A n L :=
  own_cells h _ (fun j hj => by
    have h1 := cells7_at M (j / 7) (L (j / 7)) (hL _ (by omega)) (j % 7) (by omega)
    rw [show j / 7 * 7 + j % 7 = j by omega] at h1
    rw [h1]
    unfold prCell
    have hl : j % 7 < (prCells (L (j / 7))).length := by show j % 7 < 7; omega
    rw [List.getElem?_eq_getElem hl]
    rfl)
theorem Prs.below {w w' : World} {A : Option Addr} {n : Nat} {L : Nat → Pr} (h : Prs w A n L) (hb : Below w.heap.size w w') : Prs w' A n L := Cells.below h hb
theorem Prs.at_ {w : World} {b off n : Nat} {L : Nat → Pr} (hc : ∀ j, j < n * 7 → w.cell? ⟨b, off + j, none⟩ = some (prCell L j)) {i : Nat} (hi : i < n) :
    w.cell? ⟨b, off + i * 7, none⟩ = some (.int .i64 (L i).l.t) ∧ w.cell? ⟨b, off + i * 7 + 1, none⟩ = some (.int .i64 (L i).l.v) ∧ w.cell? ⟨b, off + i * 7 + 2, none⟩ = some (.int .i64 (L i).l.s) ∧
    w.cell? ⟨b, off + i * 7 + 3, none⟩ = some (.int .i64 (L i).r.t) ∧ w.cell? ⟨b, off + i * 7 + 4, none⟩ = some (.int .i64 (L i).r.v) ∧ w.cell? ⟨b, off + i * 7 + 5, none⟩ = some (.int .i64 (L i).r.s) ∧
    w.cell? ⟨b, off + i * 7 + 6, none⟩ = some (.bool (L i).has) := by
  have key : ∀ j, j < 7 → w.cell? ⟨b, off + i * 7 + j, none⟩ = some (((prCells (L i))[j]?).getD undef) := by
    intro j hj
    have := hc (i * 7 + j) (by omega)
    rw [← Nat.add_assoc] at this
    rw [this]
    unfold prCell
    rw [show (i * 7 + j) / 7 = i by omega, show (i * 7 + j) % 7 = j by omega]
  exact ⟨key 0 (by omega), key 1 (by omega), key 2 (by omega), key 3 (by omega), key 4 (by omega), key 5 (by omega), key 6 (by omega)⟩
theorem joinL_at (a b : Nat → Pt) (m : Nat) (tol : Int) (n i : Nat) (h : i < n) : (joinL a b m tol n)[i]? = some (joinP b m tol (a i)) := by simp [joinL, List.getElem?_range h]
theorem pointElem : Elem Try.prog 22 29 (.agg #[.int .i64 0, .int .i64 0, .int .i64 0]) 3 24 := Elem.mk' Try.underlying22 (by kernel_rfl) rfl (by decide)
end Go.Proofs.Ytpblabpajliagaa

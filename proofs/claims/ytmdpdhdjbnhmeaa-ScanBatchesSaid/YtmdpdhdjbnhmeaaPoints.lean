/- Slices of points, pairs as cells. No program in sight. -/
import Derived.Test.YtmdpdhdjbnhmeaaMem
import Derived.Test.YtmdpdhdjbnhmeaaAsofMath
namespace Go.Proofs.Ytmdpdhdjbnhmeaa
open Go Go.RowKit
set_option linter.unusedVariables false

def ptCell (a : Nat → Pt) (j : Nat) : Value := .int .i64 (if j % 3 = 0 then (a (j / 3)).t else if j % 3 = 1 then (a (j / 3)).v else (a (j / 3)).s)
/-- the points of a slice -/
def Pts (w : World) (A : Option Addr) (n : Nat) (a : Nat → Pt) : Prop := Cells w A (n * 3) (ptCell a)
theorem Pts.at_ {w : World} {b off n : Nat} {a : Nat → Pt} (hc : ∀ j, j < n * 3 → w.cell? ⟨b, off + j, none⟩ = some (ptCell a j)) {i : Nat} (hi : i < n) :
    w.cell? ⟨b, off + i * 3, none⟩ = some (.int .i64 (a i).t) ∧ w.cell? ⟨b, off + i * 3 + 1, none⟩ = some (.int .i64 (a i).v) ∧ w.cell? ⟨b, off + i * 3 + 2, none⟩ = some (.int .i64 (a i).s) := by
  have h1 := hc (i * 3) (by omega)
  have h2 := hc (i * 3 + 1) (by omega)
  have h3 := hc (i * 3 + 2) (by omega)
  rw [← Nat.add_assoc] at h2 h3
  refine ⟨?_, ?_, ?_⟩
  · rw [h1]; unfold ptCell; rw [if_pos (by omega), show i * 3 / 3 = i by omega]
  · rw [h2]; unfold ptCell; rw [if_neg (by omega), if_pos (by omega), show (i * 3 + 1) / 3 = i by omega]
  · rw [h3]; unfold ptCell; rw [if_neg (by omega), if_neg (by omega), show (i * 3 + 2) / 3 = i by omega]
theorem Pts.below {w w' : World} {A : Option Addr} {n : Nat} {a : Nat → Pt} (h : Pts w A n a) (hb : Below w.heap.size w w') : Pts w' A n a := Cells.below h hb
/-- the cells of a pair -/
def prCells (p : Pr) : List Value := [.int .i64 p.l.t, .int .i64 p.l.v, .int .i64 p.l.s, .int .i64 p.r.t, .int .i64 p.r.v, .int .i64 p.r.s, .bool p.has]
def cells7 (L : List Pr) : List Value := L.flatMap prCells
theorem cells7_append (L M : List Pr) : cells7 (L ++ M) = cells7 L ++ cells7 M := by simp [cells7]
theorem cells7_one (p : Pr) : cells7 [p] = prCells p := by simp [cells7]
theorem cells7_at (L : List Pr) (i : Nat) (p : Pr) (h : L[i]? = some p) (j : Nat) (hj : j < 7) : (cells7 L)[i * 7 + j]? = (prCells p)[j]? := by
  induction L generalizing i with
  | nil => simp at h
  | cons q L ih =>
    have e : cells7 (q :: L) = prCells q ++ cells7 L := by simp [cells7]
    have hl : (prCells q).length = 7 := rfl
    rw [e]
    cases i with
    | zero =>
      simp at h; subst h
      rw [Nat.zero_mul, Nat.zero_add, List.getElem?_append_left (by rw [hl]; exact hj)]
    | succ i =>
      simp only [List.getElem?_cons_succ] at h
      rw [List.getElem?_append_right (by rw [hl]; omega), hl, show (i + 1) * 7 + j - 7 = i * 7 + j by omega]
      exact ih i h
/-- what stays below a block whose cells a call itself writes -/
theorem grown_cell {w w1 : World} {row : Option Nat} (hg : w.grownBy w1 row) {g : Nat} (h1 : g < w.heap.size) (h2 : some g ≠ row) (o : Nat) : w1.cell? ⟨g, o, none⟩ = w.cell? ⟨g, o, none⟩ := World.cell?_of_block (hg.block g h1 h2)
theorem grown_frozen {w w1 : World} {row : Option Nat} (hg : w.grownBy w1 row) {g : Nat} (h1 : g < w.heap.size) (h2 : some g ≠ row) (o : Nat) : w1.frozen? ⟨g, o, none⟩ = w.frozen? ⟨g, o, none⟩ := World.frozen?_of_block (hg.block g h1 h2)
theorem own_not {w : World} {base : Nat} {e : TypeId} {size : Nat} {v : Value} {n : Nat} {xs : List Value} (h : w.ownsRow base e size v n xs) {g : Nat} (hg : g < base) : some g ≠ v.ownBlock := by
  intro he
  have := (h.lt g he.symm).1
  omega
/-- only block g, and what is new, has turned -/
theorem grown_set {a w : World} {g : Nat} (h : a.grownBy w (some g)) (o : Nat) (u : Value) : a.grownBy (w.setCell ⟨g, o, none⟩ u) (some g) :=
  ⟨h.os, h.tape, h.output, by simpa [World.setCell] using h.size, fun i hi hne => (Below.heap_setCell w ⟨g, o, none⟩ u i (by
    intro e
    exact hne (by rw [e]))).trans (h.block i hi hne)⟩
theorem grown_drewN {a w : World} {row : Option Nat} (h : a.grownBy w row) (n : Nat) : a.grownBy (w.drewN n) row := ⟨h.os, h.tape, h.output, h.size, h.block⟩
theorem grown_refl (w : World) (row : Option Nat) : w.grownBy w row := ⟨rfl, rfl, rfl, Nat.le_refl _, fun _ _ _ => rfl⟩
theorem grown_below {B : Nat} {a w w' : World} {g : Nat} (h : Below B a w) (hg : w.grownBy w' (some g)) (hB : B ≤ w.heap.size) (hr : B ≤ g) : Below B a w' := h.grown hg hB (fun k hk => by injection hk with hk; omega)
theorem own_less {w : World} {base base' : Nat} {e : TypeId} {size : Nat} {v : Value} {n : Nat} {xs : List Value} (h : w.ownsRow base e size v n xs) (hb : base' ≤ base) : w.ownsRow base' e size v n xs := by
  refine ⟨h.1, ?_⟩
  rcases h.2 with h | ⟨g, cap, cur, h1, h2, h3⟩
  · exact .inl h
  · exact .inr ⟨g, cap, cur, h1, Nat.le_trans hb h2, h3⟩
end Go.Proofs.Ytmdpdhdjbnhmeaa

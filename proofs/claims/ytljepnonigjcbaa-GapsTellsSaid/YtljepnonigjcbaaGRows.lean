/- Rows of gaps: as cells, and what a filling tells. No program in sight. -/
import Derived.Test.YtljepnonigjcbaaMem
import Derived.Test.YtljepnonigjcbaaWideMath
namespace Go.Proofs.Ytljepnonigjcbaa
open Go Go.RowKit
set_option linter.unusedVariables false

/-- a row: from, up to, null, the value -/
structure Rw where
  f : Int
  t : Int
  z : Bool
  v : Int
deriving DecidableEq
def rw0 : Rw := ⟨0, 0, false, 0⟩
def in64' (x : Int) : Prop := -9223372036854775808 ≤ x ∧ x ≤ 9223372036854775807
def rwOk (r : Rw) : Prop := in64' r.f ∧ in64' r.t ∧ fits r.v
def rwCells (r : Rw) : List Value := [.int .i64 r.f, .int .i64 r.t, .bool r.z, .int .i64 (hiW r.v), .int .u64 (loW r.v)]
def rwCell (L : List Rw) (j : Nat) : Value := (rwCells (L.getD (j / 5) rw0)).getD (j % 5) (.bool false)
/-- the rows of a slice -/
def RowsAt (w : World) (A : Option Addr) (L : List Rw) : Prop := Cells w A (L.length * 5) (rwCell L)
theorem RowsAt.below {w w' : World} {A : Option Addr} {L : List Rw} (h : RowsAt w A L) (hb : Below w.heap.size w w') : RowsAt w' A L := Cells.below h hb
theorem RowsAt.at_ {w : World} {b off : Nat} {L : List Rw} (hc : ∀ j, j < L.length * 5 → w.cell? ⟨b, off + j, none⟩ = some (rwCell L j)) {i : Nat} (hi : i < L.length) :
    w.cell? ⟨b, off + i * 5, none⟩ = some (.int .i64 (L.getD i rw0).f) ∧ w.cell? ⟨b, off + i * 5 + 1, none⟩ = some (.int .i64 (L.getD i rw0).t) ∧ w.cell? ⟨b, off + i * 5 + 2, none⟩ = some (.bool (L.getD i rw0).z) ∧
      w.cell? ⟨b, off + i * 5 + 3, none⟩ = some (.int .i64 (hiW (L.getD i rw0).v)) ∧ w.cell? ⟨b, off + i * 5 + 4, none⟩ = some (.int .u64 (loW (L.getD i rw0).v)) := by
  have key : ∀ k, k < 5 → w.cell? ⟨b, off + i * 5 + k, none⟩ = some ((rwCells (L.getD i rw0)).getD k (.bool false)) := by
    intro k hk
    have h1 := hc (i * 5 + k) (by omega)
    rw [← Nat.add_assoc] at h1
    rw [h1]
    unfold rwCell
    rw [show (i * 5 + k) / 5 = i by omega, show (i * 5 + k) % 5 = k by omega]
  exact ⟨key 0 (by omega), key 1 (by omega), key 2 (by omega), key 3 (by omega), key 4 (by omega)⟩
def cells5 (L : List Rw) : List Value := L.flatMap rwCells
theorem cells5_append (L M : List Rw) : cells5 (L ++ M) = cells5 L ++ cells5 M := by simp [cells5]
theorem cells5_one (p : Rw) : cells5 [p] = rwCells p := by simp [cells5]
theorem cells5_length (L : List Rw) : (cells5 L).length = L.length * 5 := by
  induction L with
  | nil => rfl
  | cons p L ih => simp only [cells5, List.flatMap_cons, List.length_append, List.length_cons, rwCells, List.length_nil] at *; omega
theorem cells5_at (L : List Rw) (j : Nat) (hj : j < L.length * 5) : (cells5 L)[j]? = some (rwCell L j) := by
  induction L generalizing j with
  | nil => simp at hj
  | cons q L ih =>
    have e : cells5 (q :: L) = rwCells q ++ cells5 L := by simp [cells5]
    have hl : (rwCells q).length = 5 := rfl
    rw [e]
    rcases Nat.lt_or_ge j 5 with h | h
    · rw [List.getElem?_append_left (by rw [hl]; exact h)]
      unfold rwCell
      rw [show j / 5 = 0 by omega, show j % 5 = j by omega]
      show (rwCells q)[j]? = some ((rwCells q).getD j _)
      rw [List.getD_eq_getElem?_getD, List.getElem?_eq_getElem (by rw [hl]; exact h)]
      rfl
    · rw [List.getElem?_append_right (by rw [hl]; exact h), hl, ih (j - 5) (by simp only [List.length_cons] at hj; omega)]
      unfold rwCell
      rw [show j / 5 = (j - 5) / 5 + 1 by omega, show (j - 5) % 5 = j % 5 by omega]
      rfl
theorem RowsAt.of_own {w : World} {base : Nat} {e : TypeId} {A : Option Addr} {c : Nat} {L : List Rw} (h : w.ownsRow base e 5 (.slice A L.length c) L.length (cells5 L)) : RowsAt w A L :=
  own_cells h _ (cells5_at L)

/-! ## what is told -/
def nullRow (f t : Int) : Rw := ⟨f, t, true, 0⟩
def prevRow (p : Option Rw) (f t : Int) : Rw := match p with
  | none => nullRow f t
  | some p => ⟨f, t, false, p.v⟩
def lineRow (p n : Rw) (f t : Int) : Rw :=
  if fits (n.v - p.v) ∧ fits ((n.v - p.v) * (f - p.f)) then ⟨f, t, false, sumOf (p.v + (n.v - p.v) * (f - p.f) / (n.f - p.f))⟩ else nullRow f t
def linRow (p n : Option Rw) (f t : Int) : Rw := match p, n with
  | some p, some n => lineRow p n f t
  | _, _ => nullRow f t
def holeRow (how : Int) (p n : Option Rw) (f t : Int) : Rw := if how = 2 then prevRow p f t else if how = 3 then linRow p n f t else nullRow f t
/-- after i windows: what is told, and the next row -/
def fillN (how : Int) (R : List Rw) (L : List (Int × Int)) : Nat → List Rw × Nat
  | 0 => ([], 0)
  | i + 1 =>
    let s := fillN how R L i
    let x := L.getD i (0, 0)
    if s.2 < R.length ∧ (R.getD s.2 rw0).f = x.1 then (s.1 ++ [R.getD s.2 rw0], s.2 + 1)
    else (s.1 ++ [holeRow how (if 0 < s.2 then R[s.2 - 1]? else none) R[s.2]? x.1 x.2], s.2)
theorem fillN_hit {how : Int} {R : List Rw} {L : List (Int × Int)} {i : Nat} (h : (fillN how R L i).2 < R.length) (h1 : (R.getD (fillN how R L i).2 rw0).f = (L.getD i (0, 0)).1) :
    fillN how R L (i + 1) = ((fillN how R L i).1 ++ [R.getD (fillN how R L i).2 rw0], (fillN how R L i).2 + 1) := by
  show (if _ then _ else _) = _
  rw [if_pos ⟨h, h1⟩]
theorem fillN_miss {how : Int} {R : List Rw} {L : List (Int × Int)} {i : Nat} (h : ¬ ((fillN how R L i).2 < R.length ∧ (R.getD (fillN how R L i).2 rw0).f = (L.getD i (0, 0)).1)) :
    fillN how R L (i + 1) = ((fillN how R L i).1 ++ [holeRow how (if 0 < (fillN how R L i).2 then R[(fillN how R L i).2 - 1]? else none) R[(fillN how R L i).2]? (L.getD i (0, 0)).1 (L.getD i (0, 0)).2], (fillN how R L i).2) := by
  show (if _ then _ else _) = _
  rw [if_neg h]
theorem fillN_length (how : Int) (R : List Rw) (L : List (Int × Int)) (i : Nat) : (fillN how R L i).1.length = i := by
  induction i with
  | zero => rfl
  | succ i ih =>
    by_cases h : (fillN how R L i).2 < R.length ∧ (R.getD (fillN how R L i).2 rw0).f = (L.getD i (0, 0)).1
    · rw [fillN_hit h.1 h.2]; simp [ih]
    · rw [fillN_miss h]; simp [ih]
theorem fillN_le (how : Int) (R : List Rw) (L : List (Int × Int)) (i : Nat) : (fillN how R L i).2 ≤ R.length ∧ (fillN how R L i).2 ≤ i := by
  induction i with
  | zero => exact ⟨Nat.zero_le _, Nat.le_refl _⟩
  | succ i ih =>
    by_cases h : (fillN how R L i).2 < R.length ∧ (R.getD (fillN how R L i).2 rw0).f = (L.getD i (0, 0)).1
    · rw [fillN_hit h.1 h.2]; simp; omega
    · rw [fillN_miss h]; simp; omega

/-- one row is a window's, and behind the one ahead of it -/
def rowOk (R : List Rw) (L : List (Int × Int)) (i : Nat) : Prop := (R.getD i rw0).z = false ∧ ((R.getD i rw0).f, (R.getD i rw0).t) ∈ L ∧ (0 < i → (R.getD (i - 1) rw0).f < (R.getD i rw0).f)
/-- rows are windows', rising -/
def fineR (R : List Rw) (L : List (Int × Int)) : Prop := ∀ i, i < R.length → rowOk R L i
end Go.Proofs.Ytljepnonigjcbaa

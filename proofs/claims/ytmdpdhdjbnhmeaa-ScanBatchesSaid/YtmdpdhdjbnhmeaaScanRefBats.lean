/- A row of batches whose last one is being filled. No function in sight. -/
import Derived.Test.YtmdpdhdjbnhmeaaScanPartsMath
namespace Go.Proofs.Ytmdpdhdjbnhmeaa
open Go.RowKit
set_option linter.unusedVariables false

/-- all rows of a batch lie below a block -/
def Low (B : Nat) (t : Value × Value × Value) : Prop := (∀ g, t.1.ownBlock = some g → g < B) ∧ (∀ g, t.2.1.ownBlock = some g → g < B) ∧ (∀ g, t.2.2.ownBlock = some g → g < B)
theorem Low.mono {B B' : Nat} {t : Value × Value × Value} (h : Low B t) (hb : B ≤ B') : Low B' t := ⟨fun g e => Nat.lt_of_lt_of_le (h.1 g e) hb, fun g e => Nat.lt_of_lt_of_le (h.2.1 g e) hb, fun g e => Nat.lt_of_lt_of_le (h.2.2 g e) hb⟩
theorem low_of {base : Nat} {w : World} {t : Value × Value × Value} {L : List Pt} (h : IsBat base w t L) : Low w.heap.size t := ⟨fun g e => (h.1.lt g e).2, fun g e => (h.2.1.lt g e).2, fun g e => (h.2.2.lt g e).2⟩
/-- the rows of a batch when a row from B on has turned -/
theorem bat_high {base B : Nat} {w w1 : World} {t : Value × Value × Value} {L : List Pt} {row : Option Nat} (h : IsBat base w t L) (hl : Low B t) (hg : w.grownBy w1 row) (hr : ∀ g, row = some g → B ≤ g) : IsBat base w1 t L := by
  have key : ∀ v : Value, (∀ g, v.ownBlock = some g → g < B) → v.ownBlock = none ∨ v.ownBlock ≠ row := fun v hv => by
    cases e : v.ownBlock with
    | none => exact .inl rfl
    | some k => exact .inr (fun e' => by have h1 := hv k e; have h2 := hr k e'.symm; omega)
  exact ⟨h.1.kept hg (key _ hl.1), h.2.1.kept hg (key _ hl.2.1), h.2.2.kept hg (key _ hl.2.2)⟩
/-- a row of batches, the last of which is being filled: its columns lie from Bq on, all others below -/
structure RBat (base e : Nat) (w : World) (go cap : Nat) (ts : List (Value × Value × Value)) (Ls : List (List Pt)) (Bq : Nat) (A B C : Value) (X Y Z : List Int) : Prop where
  len : ts.length = Ls.length
  row : w.ownsRow base e 3 (.slice (some ⟨go, 0, none⟩) (Ls.length + 1) cap) (Ls.length + 1) (triCells (ts ++ [(A, B, C)]))
  old : ∀ (i : Nat) t L, ts[i]? = some t → Ls[i]? = some L → IsBat base w t L ∧ Low Bq t
  a : w.ownsRow Bq 3 1 A X.length (cells1 X)
  b : w.ownsRow Bq 3 1 B Y.length (cells1 Y)
  c : w.ownsRow Bq 3 1 C Z.length (cells1 Z)
  ab : Apart A B
  ac : Apart A C
  bc : Apart B C
theorem tri_set0 (ts : List (Value × Value × Value)) (A B C U : Value) : (triCells (ts ++ [(A, B, C)])).set (ts.length * 3) U = triCells (ts ++ [(U, B, C)]) := by
  induction ts with
  | nil => simp [triCells]
  | cons t ts ih =>
    have e : (t :: ts).length * 3 = ts.length * 3 + 1 + 1 + 1 := by simp; omega
    rw [e]
    simpa [triCells] using ih
theorem tri_set1 (ts : List (Value × Value × Value)) (A B C U : Value) : (triCells (ts ++ [(A, B, C)])).set (ts.length * 3 + 1) U = triCells (ts ++ [(A, U, C)]) := by
  induction ts with
  | nil => simp [triCells]
  | cons t ts ih =>
    have e : (t :: ts).length * 3 + 1 = ts.length * 3 + 1 + 1 + 1 + 1 := by simp; omega
    rw [e]
    simpa [triCells] using ih
theorem tri_set2 (ts : List (Value × Value × Value)) (A B C U : Value) : (triCells (ts ++ [(A, B, C)])).set (ts.length * 3 + 2) U = triCells (ts ++ [(A, B, U)]) := by
  induction ts with
  | nil => simp [triCells]
  | cons t ts ih =>
    have e : (t :: ts).length * 3 + 2 = ts.length * 3 + 2 + 1 + 1 + 1 := by simp; omega
    rw [e]
    simpa [triCells] using ih
theorem RBat.below {base e : Nat} {w w' : World} {go cap : Nat} {ts : List (Value × Value × Value)} {Ls : List (List Pt)} {Bq : Nat} {A B C : Value} {X Y Z : List Int} (h : RBat base e w go cap ts Ls Bq A B C X Y Z) (hb : Below w.heap.size w w') : RBat base e w' go cap ts Ls Bq A B C X Y Z :=
  ⟨h.len, own_below h.row hb, fun i t L h1 h2 => ⟨(h.old i t L h1 h2).1.below hb, (h.old i t L h1 h2).2⟩, own_below h.a hb, own_below h.b hb, own_below h.c hb, h.ab, h.ac, h.bc⟩
theorem RBat.cells {base e : Nat} {w : World} {go cap : Nat} {ts : List (Value × Value × Value)} {Ls : List (List Pt)} {Bq : Nat} {A B C : Value} {X Y Z : List Int} (h : RBat base e w go cap ts Ls Bq A B C X Y Z) :
    (w.cell? ⟨go, Ls.length * 3, none⟩ = some A ∧ w.cell? ⟨go, Ls.length * 3 + 1, none⟩ = some B ∧ w.cell? ⟨go, Ls.length * 3 + 2, none⟩ = some C) ∧ ∀ k, w.frozen? ⟨go, k, none⟩ = false := by
  have ht : (ts ++ [(A, B, C)])[Ls.length]? = some (A, B, C) := by rw [← h.len]; simp
  obtain ⟨c1, c2, c3⟩ := triCells_at _ _ _ ht
  have f1 := World.ownsRow.cells h.row (g := go) rfl _ _ c1
  have f2 := World.ownsRow.cells h.row (g := go) rfl _ _ c2
  have f3 := World.ownsRow.cells h.row (g := go) rfl _ _ c3
  rw [Addr.add_lit] at f1 f2 f3
  simp only [Nat.zero_add] at f1 f2 f3
  exact ⟨⟨f1, f2, f3⟩, fun k => h.row.frozenAt k⟩
/-- a row of another type, under a store -/
theorem own_store {w : World} {b1 b2 e1 e2 s1 s2 : Nat} {v1 v2 : Value} {n1 n2 : Nat} {x1 x2 : List Value} (h1 : w.ownsRow b1 e1 s1 v1 n1 x1) (h2 : w.ownsRow b2 e2 s2 v2 n2 x2) (hne : e1 ≠ e2) {g k : Nat} (hg : v2.ownBlock = some g) (u : Value) : (w.setCell ⟨g, k, none⟩ u).ownsRow b1 e1 s1 v1 n1 x1 :=
  h1.kept (row := some g) (grown_put w ⟨g, k, none⟩ u) (by rw [← hg]; exact own_types h1 h2 hne)
theorem RBat.push0 {base e : Nat} {w' w1 : World} {go cap : Nat} {ts : List (Value × Value × Value)} {Ls : List (List Pt)} {Bq : Nat} {A B C : Value} {X Y Z : List Int} {g cp n : Nat} {u : Int} (h : RBat base e w' go cap ts Ls Bq A B C X Y Z) (hne : 3 ≠ e) (hn : X.length = n)
    (ho : w1.ownsRow Bq 3 1 (.slice (some ⟨g, 0, none⟩) (n + 1) cp) (n + 1) (cells1 X ++ [.int .i64 u])) (hg : w'.grownBy w1 A.ownBlock) (hat : A.ownBlock = some g ∨ g = w'.heap.size) :
    RBat base e (w1.setCell ⟨go, Ls.length * 3, none⟩ (.slice (some ⟨g, 0, none⟩) (n + 1) cp)) go cap ts Ls Bq (.slice (some ⟨g, 0, none⟩) (n + 1) cp) B C (X ++ [u]) Y Z := by
  subst hn
  have hrow : w1.ownsRow base e 3 (.slice (some ⟨go, 0, none⟩) (Ls.length + 1) cap) (Ls.length + 1) (triCells (ts ++ [(A, B, C)])) := h.row.kept hg (own_types h.row h.a (Ne.symm hne))
  have hgo : Value.ownBlock (.slice (some ⟨go, 0, none⟩) (Ls.length + 1) cap) = some go := rfl
  refine ⟨h.len, ?_, fun i t L h1 h2 => ⟨?_, (h.old i t L h1 h2).2⟩, ?_, (own_store (kept_apart h.b h.ab hg) hrow hne hgo _), (own_store (kept_apart h.c h.ac hg) hrow hne hgo _), (apart_new h.ab h.b hat), (apart_new h.ac h.c hat), h.bc⟩
  · have hst := (hrow.stored (Ls.length * 3) (.slice (some ⟨g, 0, none⟩) (X.length + 1) cp)).1
    rw [← h.len, tri_set0, h.len] at hst
    exact hst
  · have hb := bat_high (h.old i t L h1 h2).1 (h.old i t L h1 h2).2 hg (fun k hk => (h.a.lt k hk).1)
    exact ⟨own_store hb.1 hrow hne hgo _, own_store hb.2.1 hrow hne hgo _, own_store hb.2.2 hrow hne hgo _⟩
  · rw [List.length_append, cells1_append]; exact own_store ho hrow hne hgo _
theorem RBat.push1 {base e : Nat} {w' w1 : World} {go cap : Nat} {ts : List (Value × Value × Value)} {Ls : List (List Pt)} {Bq : Nat} {A B C : Value} {X Y Z : List Int} {g cp n : Nat} {u : Int} (h : RBat base e w' go cap ts Ls Bq A B C X Y Z) (hne : 3 ≠ e) (hn : Y.length = n)
    (ho : w1.ownsRow Bq 3 1 (.slice (some ⟨g, 0, none⟩) (n + 1) cp) (n + 1) (cells1 Y ++ [.int .i64 u])) (hg : w'.grownBy w1 B.ownBlock) (hat : B.ownBlock = some g ∨ g = w'.heap.size) :
    RBat base e (w1.setCell ⟨go, Ls.length * 3 + 1, none⟩ (.slice (some ⟨g, 0, none⟩) (n + 1) cp)) go cap ts Ls Bq A (.slice (some ⟨g, 0, none⟩) (n + 1) cp) C X (Y ++ [u]) Z := by
  subst hn
  have hrow : w1.ownsRow base e 3 (.slice (some ⟨go, 0, none⟩) (Ls.length + 1) cap) (Ls.length + 1) (triCells (ts ++ [(A, B, C)])) := h.row.kept hg (own_types h.row h.b (Ne.symm hne))
  have hgo : Value.ownBlock (.slice (some ⟨go, 0, none⟩) (Ls.length + 1) cap) = some go := rfl
  refine ⟨h.len, ?_, fun i t L h1 h2 => ⟨?_, (h.old i t L h1 h2).2⟩, (own_store (kept_apart h.a h.ab.symm hg) hrow hne hgo _), ?_, (own_store (kept_apart h.c h.bc hg) hrow hne hgo _), (apart_new h.ab.symm h.a hat).symm, h.ac, (apart_new h.bc h.c hat)⟩
  · have hst := (hrow.stored (Ls.length * 3 + 1) (.slice (some ⟨g, 0, none⟩) (Y.length + 1) cp)).1
    rw [← h.len, tri_set1, h.len] at hst
    exact hst
  · have hb := bat_high (h.old i t L h1 h2).1 (h.old i t L h1 h2).2 hg (fun k hk => (h.b.lt k hk).1)
    exact ⟨own_store hb.1 hrow hne hgo _, own_store hb.2.1 hrow hne hgo _, own_store hb.2.2 hrow hne hgo _⟩
  · rw [List.length_append, cells1_append]; exact own_store ho hrow hne hgo _
theorem RBat.push2 {base e : Nat} {w' w1 : World} {go cap : Nat} {ts : List (Value × Value × Value)} {Ls : List (List Pt)} {Bq : Nat} {A B C : Value} {X Y Z : List Int} {g cp n : Nat} {u : Int} (h : RBat base e w' go cap ts Ls Bq A B C X Y Z) (hne : 3 ≠ e) (hn : Z.length = n)
    (ho : w1.ownsRow Bq 3 1 (.slice (some ⟨g, 0, none⟩) (n + 1) cp) (n + 1) (cells1 Z ++ [.int .i64 u])) (hg : w'.grownBy w1 C.ownBlock) (hat : C.ownBlock = some g ∨ g = w'.heap.size) :
    RBat base e (w1.setCell ⟨go, Ls.length * 3 + 2, none⟩ (.slice (some ⟨g, 0, none⟩) (n + 1) cp)) go cap ts Ls Bq A B (.slice (some ⟨g, 0, none⟩) (n + 1) cp) X Y (Z ++ [u]) := by
  subst hn
  have hrow : w1.ownsRow base e 3 (.slice (some ⟨go, 0, none⟩) (Ls.length + 1) cap) (Ls.length + 1) (triCells (ts ++ [(A, B, C)])) := h.row.kept hg (own_types h.row h.c (Ne.symm hne))
  have hgo : Value.ownBlock (.slice (some ⟨go, 0, none⟩) (Ls.length + 1) cap) = some go := rfl
  refine ⟨h.len, ?_, fun i t L h1 h2 => ⟨?_, (h.old i t L h1 h2).2⟩, (own_store (kept_apart h.a h.ac.symm hg) hrow hne hgo _), (own_store (kept_apart h.b h.bc.symm hg) hrow hne hgo _), ?_, h.ab, (apart_new h.ac.symm h.a hat).symm, (apart_new h.bc.symm h.b hat).symm⟩
  · have hst := (hrow.stored (Ls.length * 3 + 2) (.slice (some ⟨g, 0, none⟩) (Z.length + 1) cp)).1
    rw [← h.len, tri_set2, h.len] at hst
    exact hst
  · have hb := bat_high (h.old i t L h1 h2).1 (h.old i t L h1 h2).2 hg (fun k hk => (h.c.lt k hk).1)
    exact ⟨own_store hb.1 hrow hne hgo _, own_store hb.2.1 hrow hne hgo _, own_store hb.2.2 hrow hne hgo _⟩
  · rw [List.length_append, cells1_append]; exact own_store ho hrow hne hgo _
end Go.Proofs.Ytmdpdhdjbnhmeaa

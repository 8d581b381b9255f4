/- Three rows of ints that a struct holds, each appended to in its turn. No function in sight. -/
import Derived.Test.YtmdpdhdjbnhmeaaScanTake
namespace Go.Proofs.Ytmdpdhdjbnhmeaa
open Go.RowKit
set_option linter.unusedVariables false

theorem grown_put (w : World) (a : Addr) (u : Value) : w.grownBy (w.setCell a u) (some a.block) :=
  ⟨rfl, rfl, rfl, by simp, fun k _ hk => Below.heap_setCell _ _ _ k (fun e => hk (by rw [e]))⟩
theorem own_set {w : World} {base : Nat} {e : TypeId} {size : Nat} {v : Value} {n : Nat} {xs : List Value} (h : w.ownsRow base e size v n xs) {g k : Nat} (hg : g < base) (u : Value) : (w.setCell ⟨g, k, none⟩ u).ownsRow base e size v n xs :=
  h.kept (grown_put w ⟨g, k, none⟩ u) (.inr (fun e => by
    have := h.lt g e; omega))
theorem own_ne {w : World} {base : Nat} {e : TypeId} {size : Nat} {v : Value} {n : Nat} {xs : List Value} (h : w.ownsRow base e size v n xs) {g : Nat} (hg : g < base) : some g ≠ v.ownBlock := fun e => by have := h.lt g e.symm; omega
/-- two rows that are not one -/
def Apart (u v : Value) : Prop := ∀ g, u.ownBlock = some g → v.ownBlock ≠ some g
theorem Apart.symm {u v : Value} (h : Apart u v) : Apart v u := fun g h1 h2 => h g h2 h1
/-- three rows of ints that the struct in block go holds -/
structure Cols (base go : Nat) (w : World) (A B C : Value) (X Y Z : List Int) : Prop where
  lt : go < base
  o0 : w.cell? ⟨go, 0, none⟩ = some A
  o1 : w.cell? ⟨go, 1, none⟩ = some B
  o2 : w.cell? ⟨go, 2, none⟩ = some C
  f0 : w.frozen? ⟨go, 0, none⟩ = false
  f1 : w.frozen? ⟨go, 1, none⟩ = false
  f2 : w.frozen? ⟨go, 2, none⟩ = false
  a : w.ownsRow base 3 1 A X.length (cells1 X)
  b : w.ownsRow base 3 1 B Y.length (cells1 Y)
  c : w.ownsRow base 3 1 C Z.length (cells1 Z)
  ab : Apart A B
  ac : Apart A C
  bc : Apart B C
theorem Cols.below {base go : Nat} {w w' : World} {A B C : Value} {X Y Z : List Int} (h : Cols base go w A B C X Y Z) (hb : Below w.heap.size w w') : Cols base go w' A B C X Y Z := by
  have hl : go < w.heap.size := World.block_lt_of_cell? w _ h.o0
  exact ⟨h.lt, cell_be hb h.o0, cell_be hb h.o1, cell_be hb h.o2, frozen_be hb hl h.f0, frozen_be hb hl h.f1, frozen_be hb hl h.f2, own_below h.a hb, own_below h.b hb, own_below h.c hb, h.ab, h.ac, h.bc⟩
theorem apart_new {w : World} {A B : Value} {base g : Nat} {e : TypeId} {size n : Nat} {xs : List Value} {n' cap : Nat} (h : Apart A B) (hB : w.ownsRow base e size B n xs) (hat : A.ownBlock = some g ∨ g = w.heap.size) : Apart (.slice (some ⟨g, 0, none⟩) n' cap) B := by
  intro k hk hk'
  obtain rfl : g = k := by simpa [Value.ownBlock] using hk
  rcases hat with h1 | h1
  · exact h g h1 hk'
  · have := (hB.lt g hk').2; omega
theorem far_cell {w' w1 : World} {row : Option Nat} {p : Addr} {v : Value} (hg : w'.grownBy w1 row) (hne : some p.block ≠ row) (h : w'.cell? p = some v) : w1.cell? p = some v := (hg.cell_far p (World.block_lt_of_cell? w' _ h) hne).trans h
theorem far_frozen {w' w1 : World} {row : Option Nat} {g k : Nat} (hg : w'.grownBy w1 row) (hne : some g ≠ row) (hl : g < w'.heap.size) (h : w'.frozen? ⟨g, k, none⟩ = false) : w1.frozen? ⟨g, k, none⟩ = false := (hg.frozen_far ⟨g, k, none⟩ hl hne).trans h
/-- what is behind a push: the world before the store, and the store -/
theorem Cols.mid0 {base go : Nat} {w' w1 : World} {A B C : Value} {X Y Z : List Int} (h : Cols base go w' A B C X Y Z) (hg : w'.grownBy w1 A.ownBlock) :
    w1.cell? ⟨go, 0, none⟩ = some A ∧ w1.frozen? ⟨go, 0, none⟩ = false :=
  ⟨far_cell hg (own_ne h.a h.lt) h.o0, far_frozen hg (own_ne h.a h.lt) (World.block_lt_of_cell? w' _ h.o0) h.f0⟩
theorem Cols.mid1 {base go : Nat} {w' w1 : World} {A B C : Value} {X Y Z : List Int} (h : Cols base go w' A B C X Y Z) (hg : w'.grownBy w1 B.ownBlock) :
    w1.cell? ⟨go, 1, none⟩ = some B ∧ w1.frozen? ⟨go, 1, none⟩ = false :=
  ⟨far_cell hg (own_ne h.b h.lt) h.o1, far_frozen hg (own_ne h.b h.lt) (World.block_lt_of_cell? w' _ h.o0) h.f1⟩
theorem Cols.mid2 {base go : Nat} {w' w1 : World} {A B C : Value} {X Y Z : List Int} (h : Cols base go w' A B C X Y Z) (hg : w'.grownBy w1 C.ownBlock) :
    w1.cell? ⟨go, 2, none⟩ = some C ∧ w1.frozen? ⟨go, 2, none⟩ = false :=
  ⟨far_cell hg (own_ne h.c h.lt) h.o2, far_frozen hg (own_ne h.c h.lt) (World.block_lt_of_cell? w' _ h.o0) h.f2⟩
theorem frozen_set {w : World} {g k g' k' : Nat} {u : Value} (h : w.frozen? ⟨g, k, none⟩ = false) : (w.setCell ⟨g', k', none⟩ u).frozen? ⟨g, k, none⟩ = false := by rw [World.frozen?_setCell]; exact h
theorem apart_ne {A B : Value} (h : Apart A B) : ∀ g, A.ownBlock = some g → some g ≠ B.ownBlock := fun g hg e => h g hg e.symm
theorem kept_apart {w w1 : World} {base : Nat} {e : TypeId} {size : Nat} {A B : Value} {n : Nat} {xs : List Value} (h : w.ownsRow base e size B n xs) (ha : Apart A B) (hg : w.grownBy w1 A.ownBlock) : w1.ownsRow base e size B n xs := by
  cases hB : B.ownBlock with
  | none => exact h.kept (row := A.ownBlock) hg (.inl hB)
  | some k => exact h.kept hg (.inr (fun e => ha k (e ▸ hB) hB))
theorem Cols.push0 {base go : Nat} {w' w1 : World} {A B C : Value} {X Y Z : List Int} {g cap n : Nat} {u : Int} (h : Cols base go w' A B C X Y Z) (hn' : X.length = n) (ho : w1.ownsRow base 3 1 (.slice (some ⟨g, 0, none⟩) (n + 1) cap) (n + 1) (cells1 X ++ [.int .i64 u])) (hg : w'.grownBy w1 A.ownBlock) (hat : A.ownBlock = some g ∨ g = w'.heap.size) :
    Cols base go (w1.setCell ⟨go, 0, none⟩ (.slice (some ⟨g, 0, none⟩) (n + 1) cap)) (.slice (some ⟨g, 0, none⟩) (n + 1) cap) B C (X ++ [u]) Y Z := by
  subst hn'
  have hn := own_ne h.a h.lt
  have hl := World.block_lt_of_cell? w' _ h.o0
  refine ⟨h.lt, cell_same (far_cell hg hn h.o0), cell_other (far_cell hg hn h.o1) (.inr (by decide)), cell_other (far_cell hg hn h.o2) (.inr (by decide)), frozen_set (far_frozen hg hn hl h.f0), frozen_set (far_frozen hg hn hl h.f1), frozen_set (far_frozen hg hn hl h.f2), ?_, own_set (kept_apart h.b h.ab hg) h.lt _, own_set (kept_apart h.c h.ac hg) h.lt _, apart_new h.ab h.b hat, apart_new h.ac h.c hat, h.bc⟩
  rw [List.length_append, cells1_append]; exact own_set ho h.lt _
theorem Cols.push1 {base go : Nat} {w' w1 : World} {A B C : Value} {X Y Z : List Int} {g cap n : Nat} {u : Int} (h : Cols base go w' A B C X Y Z) (hn' : Y.length = n) (ho : w1.ownsRow base 3 1 (.slice (some ⟨g, 0, none⟩) (n + 1) cap) (n + 1) (cells1 Y ++ [.int .i64 u])) (hg : w'.grownBy w1 B.ownBlock) (hat : B.ownBlock = some g ∨ g = w'.heap.size) :
    Cols base go (w1.setCell ⟨go, 1, none⟩ (.slice (some ⟨g, 0, none⟩) (n + 1) cap)) A (.slice (some ⟨g, 0, none⟩) (n + 1) cap) C X (Y ++ [u]) Z := by
  subst hn'
  have hn := own_ne h.b h.lt
  have hl := World.block_lt_of_cell? w' _ h.o0
  refine ⟨h.lt, cell_other (far_cell hg hn h.o0) (.inr (by decide)), cell_same (far_cell hg hn h.o1), cell_other (far_cell hg hn h.o2) (.inr (by decide)), frozen_set (far_frozen hg hn hl h.f0), frozen_set (far_frozen hg hn hl h.f1), frozen_set (far_frozen hg hn hl h.f2), own_set (kept_apart h.a h.ab.symm hg) h.lt _, ?_, own_set (kept_apart h.c h.bc hg) h.lt _, (apart_new h.ab.symm h.a hat).symm, h.ac, apart_new h.bc h.c hat⟩
  rw [List.length_append, cells1_append]; exact own_set ho h.lt _
theorem Cols.push2 {base go : Nat} {w' w1 : World} {A B C : Value} {X Y Z : List Int} {g cap n : Nat} {u : Int} (h : Cols base go w' A B C X Y Z) (hn' : Z.length = n) (ho : w1.ownsRow base 3 1 (.slice (some ⟨g, 0, none⟩) (n + 1) cap) (n + 1) (cells1 Z ++ [.int .i64 u])) (hg : w'.grownBy w1 C.ownBlock) (hat : C.ownBlock = some g ∨ g = w'.heap.size) :
    Cols base go (w1.setCell ⟨go, 2, none⟩ (.slice (some ⟨g, 0, none⟩) (n + 1) cap)) A B (.slice (some ⟨g, 0, none⟩) (n + 1) cap) X Y (Z ++ [u]) := by
  subst hn'
  have hn := own_ne h.c h.lt
  have hl := World.block_lt_of_cell? w' _ h.o0
  refine ⟨h.lt, cell_other (far_cell hg hn h.o0) (.inr (by decide)), cell_other (far_cell hg hn h.o1) (.inr (by decide)), cell_same (far_cell hg hn h.o2), frozen_set (far_frozen hg hn hl h.f0), frozen_set (far_frozen hg hn hl h.f1), frozen_set (far_frozen hg hn hl h.f2), own_set (kept_apart h.a h.ac.symm hg) h.lt _, own_set (kept_apart h.b h.bc.symm hg) h.lt _, ?_, h.ab, (apart_new h.ac.symm h.a hat).symm, (apart_new h.bc.symm h.b hat).symm⟩
  rw [List.length_append, cells1_append]; exact own_set ho h.lt _
theorem Cols.start {base go : Nat} {w : World} (hlt : go < base) (o0 : w.cell? ⟨go, 0, none⟩ = some (.slice none 0 0)) (o1 : w.cell? ⟨go, 1, none⟩ = some (.slice none 0 0)) (o2 : w.cell? ⟨go, 2, none⟩ = some (.slice none 0 0))
    (f0 : w.frozen? ⟨go, 0, none⟩ = false) (f1 : w.frozen? ⟨go, 1, none⟩ = false) (f2 : w.frozen? ⟨go, 2, none⟩ = false) : Cols base go w (.slice none 0 0) (.slice none 0 0) (.slice none 0 0) [] [] [] :=
  ⟨hlt, o0, o1, o2, f0, f1, f2, World.ownsRow_nil _ _ _ _, World.ownsRow_nil _ _ _ _, World.ownsRow_nil _ _ _ _, fun g h => by simp [Value.ownBlock] at h, fun g h => by simp [Value.ownBlock] at h, fun g h => by simp [Value.ownBlock] at h⟩
/-- the world behind a push -/
theorem bel_push {B : Nat} {w0 w' w1 : World} {row : Option Nat} {go k : Nat} {v : Value} (h : Below B w0 w') (hg : w'.grownBy w1 row) (hB : B ≤ w0.heap.size) (hrow : ∀ j, row = some j → B ≤ j) (hgo : B ≤ go) : Below B w0 (w1.setCell ⟨go, k, none⟩ v) :=
  (h.grown hg (Nat.le_trans hB h.size) hrow).setCell (p := ⟨go, k, none⟩) hgo v
end Go.Proofs.Ytmdpdhdjbnhmeaa

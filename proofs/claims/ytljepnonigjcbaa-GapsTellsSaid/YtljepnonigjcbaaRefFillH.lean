/- The contract of tidemillref23.Fill: windows that rise. -/
import Derived.Test.YtljepnonigjcbaaRefFill29
import Derived.Test.YtljepnonigjcbaaGRefWin
import Derived.Test.YtljepnonigjcbaaGFillAll
import Derived.Test.YtljepnonigjcbaaGSide
namespace Go.Proofs.Ytljepnonigjcbaa
open Go Go.RowKit
set_option linter.unusedVariables false

def risesL (L : List (Int × Int)) : Prop := ∀ i j, i < j → j < L.length → (L.getD i (0, 0)).1 < (L.getD j (0, 0)).1
theorem wins_rises (F S W : Int) (n : Nat) (hS : 1 ≤ S) : risesL (wins F S W n) := by
  intro i j hij hj
  rw [wins_length] at hj
  rw [wins_getD F S W n i (by omega), wins_getD F S W n j hj]
  have : (i : Int) * S < (j : Int) * S := Int.mul_lt_mul_of_pos_right (by omega) (by omega)
  show F + (i : Int) * S < F + (j : Int) * S
  omega
theorem scan_row (R : List Rw) (L : List (Int × Int)) (i k : Nat) (hr : risesL L) (hb : ∀ m, m < k → (L.getD m (0, 0)).1 < (R.getD i rw0).f) (he : k < L.length → (R.getD i rw0).f ≤ (L.getD k (0, 0)).1) :
    rowOk R L i → (R.getD i rw0).z = false ∧ k < L.length ∧ (L.getD k (0, 0)).1 = (R.getD i rw0).f ∧ (L.getD k (0, 0)).2 = (R.getD i rw0).t := by
  rintro ⟨h1, h2, h3⟩
  obtain ⟨m, hm, em⟩ := List.getElem_of_mem h2
  have ed : L.getD m (0, 0) = ((R.getD i rw0).f, (R.getD i rw0).t) := by rw [List.getD_eq_getElem?_getD, List.getElem?_eq_getElem hm, em]; rfl
  have hkm : k ≤ m := by
    rcases Nat.lt_or_ge m k with h | h
    · have := hb m h; rw [ed] at this; exact absurd this (by show ¬ (R.getD i rw0).f < (R.getD i rw0).f; omega)
    · exact h
  have hkl : k < L.length := by omega
  have hke : k = m := by
    rcases Nat.lt_or_ge k m with h | h
    · have h4 := hr k m h hm; have h5 := he hkl; rw [ed] at h4; simp only at h4; omega
    · omega
  subst hke
  rw [ed]
  exact ⟨h1, hkl, rfl, rfl⟩
theorem scan_yes (R : List Rw) (L : List (Int × Int)) (i k : Nat) (h1 : (R.getD i rw0).z = false) (hk : k < L.length) (h2 : (L.getD k (0, 0)).1 = (R.getD i rw0).f) (h3 : (L.getD k (0, 0)).2 = (R.getD i rw0).t) (h4 : 0 < i → (R.getD (i - 1) rw0).f < (R.getD i rw0).f) : rowOk R L i := by
  refine ⟨h1, ?_, h4⟩
  rw [← h2, ← h3, List.getD_eq_getElem?_getD, List.getElem?_eq_getElem hk]
  exact List.getElem_mem _
/-- five cells of a block that may be written -/
def FiveZ (w : World) (g : Nat) (a b c d e : Value) : Prop := w.cell? ⟨g, 0, none⟩ = some a ∧ w.cell? ⟨g, 1, none⟩ = some b ∧ w.cell? ⟨g, 2, none⟩ = some c ∧ w.cell? ⟨g, 3, none⟩ = some d ∧ w.cell? ⟨g, 4, none⟩ = some e ∧
  w.frozen? ⟨g, 0, none⟩ = false ∧ w.frozen? ⟨g, 1, none⟩ = false ∧ w.frozen? ⟨g, 2, none⟩ = false ∧ w.frozen? ⟨g, 3, none⟩ = false ∧ w.frozen? ⟨g, 4, none⟩ = false
theorem FiveZ.new {w : World} {n : Nat} (h : w.heap.size = n) (a b c d e : Value) (t : TypeId) : FiveZ (w.alloc (.cells #[a, b, c, d, e] t)).drew n a b c d e := by
  subst h
  exact ⟨cell_newk rfl rfl, cell_newk rfl rfl, cell_newk rfl rfl, cell_newk rfl rfl, cell_newk rfl rfl, frozen_of_row _ _ _ _ _ (heap_alloc_new w _), frozen_of_row _ _ _ _ _ (heap_alloc_new w _), frozen_of_row _ _ _ _ _ (heap_alloc_new w _), frozen_of_row _ _ _ _ _ (heap_alloc_new w _), frozen_of_row _ _ _ _ _ (heap_alloc_new w _)⟩
theorem FiveZ.be {w w' : World} {g : Nat} {a b c d e : Value} (h : FiveZ w g a b c d e) (hb : Below w.heap.size w w') : FiveZ w' g a b c d e := by
  obtain ⟨x0, x1, x2, x3, x4, y0, y1, y2, y3, y4⟩ := h
  have hl := World.block_lt_of_cell? _ _ x0
  exact ⟨cell_be hb x0, cell_be hb x1, cell_be hb x2, cell_be hb x3, cell_be hb x4, frozen_be hb hl y0, frozen_be hb hl y1, frozen_be hb hl y2, frozen_be hb hl y3, frozen_be hb hl y4⟩
theorem FiveZ.set3 {w : World} {g : Nat} {a b c d e : Value} (h : FiveZ w g a b c d e) (c' d' e' : Value) : FiveZ (((w.setCell ⟨g, 2, none⟩ c').setCell ⟨g, 3, none⟩ d').setCell ⟨g, 4, none⟩ e') g a b c' d' e' := by
  obtain ⟨x0, x1, x2, x3, x4, y0, y1, y2, y3, y4⟩ := h
  have o : ∀ (w : World) (i j : Nat) (v : Value), i ≠ j → (w.setCell ⟨g, j, none⟩ v).cell? ⟨g, i, none⟩ = w.cell? ⟨g, i, none⟩ := fun w i j v hij => World.cell?_setCell_other _ _ _ _ (by simp only [ne_eq, Addr.mk.injEq, not_and]; intro _ h2; exact absurd h2.symm hij)
  refine ⟨by rw [o _ 0 4 _ (by omega), o _ 0 3 _ (by omega), o _ 0 2 _ (by omega)]; exact x0, by rw [o _ 1 4 _ (by omega), o _ 1 3 _ (by omega), o _ 1 2 _ (by omega)]; exact x1, ?_, ?_, ?_, ?_, ?_, ?_, ?_, ?_⟩
  · rw [o _ 2 4 _ (by omega), o _ 2 3 _ (by omega)]; exact World.cell?_setCell_same _ _ _ x2
  · rw [o _ 3 4 _ (by omega)]; exact World.cell?_setCell_same _ _ _ (by rw [o _ 3 2 _ (by omega)]; exact x3)
  · exact World.cell?_setCell_same _ _ _ (by rw [o _ 4 3 _ (by omega), o _ 4 2 _ (by omega)]; exact x4)
  all_goals (rw [World.frozen?_setCell, World.frozen?_setCell, World.frozen?_setCell]; assumption)
theorem getq2 (R : List Rw) (k : Nat) (h : k < R.length) : R[k]? = some (R.getD k rw0) := by rw [List.getD_eq_getElem?_getD, List.getElem?_eq_getElem h]; rfl
def RefPairs (w : World) (L : List (Int × Int)) (k : Int) (e : Ending) (w' : World) : Prop :=
  ∃ A c, e = .returned (.tuple #[.slice A L.length c, .int .i64 k]) ∧ Pairs w' A L ∧ Below w.heap.size w w'
theorem RefWinsPost.pairs {w w' : World} {L : List (Int × Int)} {k : Int} {e : Ending} (h : RefWinsPost w L k e w') : RefPairs w L k e w' := by
  obtain ⟨A, c, he, ho, hb⟩ := h
  exact ⟨A, c, he, Pairs.of_own ho, hb⟩
def ScanRel (W : World) (R : List Rw) (L : List (Int × Int)) (v18 v19 : Value) (wr : World) : Prop :=
  ∃ i k nn : Nat, i ≤ R.length ∧ k ≤ L.length ∧ v19 = .int .i64 i ∧ v18 = .int .i64 k ∧ (∀ j, j < i → rowOk R L j) ∧ (∀ m, m < k → 0 < i ∧ (L.getD m (0, 0)).1 < (R.getD (i - 1) rw0).f) ∧ wr = W.drewN nn
def InnRel (W : World) (R : List Rw) (L : List (Int × Int)) (i k0 : Nat) (v18 : Value) (wr : World) : Prop :=
  ∃ k nn : Nat, k ≤ L.length ∧ v18 = .int .i64 k ∧ (∀ m, m < k → m < k0 ∨ (L.getD m (0, 0)).1 < (R.getD i rw0).f) ∧ wr = W.drewN nn
theorem Pairs.at2 {w : World} {b off : Nat} {L : List (Int × Int)} (hc : ∀ j, j < L.length * 2 → w.cell? ⟨b, off + j, none⟩ = some (pairCell L j)) {i : Nat} (hi : i < L.length) :
    w.cell? ⟨b, off + i * 2, none⟩ = some (.int .i64 (L.getD i (0, 0)).1) ∧ w.cell? ⟨b, off + i * 2 + 1, none⟩ = some (.int .i64 (L.getD i (0, 0)).2) := by
  have h0 := hc (i * 2) (by omega)
  have h1 := hc (i * 2 + 1) (by omega)
  unfold pairCell at h0 h1
  rw [show (i * 2) / 2 = i by omega] at h0
  rw [show (i * 2 + 1) / 2 = i by omega] at h1
  refine ⟨by rw [h0]; simp, ?_⟩
  rw [Nat.add_assoc, h1, if_neg (by omega)]
end Go.Proofs.Ytljepnonigjcbaa

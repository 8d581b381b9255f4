/- Contracts of the holes' null and previous, of linear's and Fill's closures. -/
import Derived.Test.YtljepnonigjcbaaProg
import Derived.Test.YtljepnonigjcbaaGRows
import Derived.Test.YtljepnonigjcbaaWideFns
import Derived.WalkKit
import Derived.WalkLawsBesides
import Derived.KernelRfl
import Derived.Deep.QuietTactic
import Derived.BigQuiet
namespace Go.Proofs.Ytljepnonigjcbaa
open Go Go.RowKit
set_option linter.unusedVariables false

/-- a pointer to a row, or to none -/
def PtrTo (w : World) (p : Option Rw) (v : Value) : Prop := match p with
  | none => v = .pointer none
  | some r => ∃ b o, v = .pointer (some ⟨b, o, none⟩) ∧ w.cell? ⟨b, o, none⟩ = some (.int .i64 r.f) ∧ w.cell? ⟨b, o + 3, none⟩ = some (.int .i64 (hiW r.v)) ∧ w.cell? ⟨b, o + 4, none⟩ = some (.int .u64 (loW r.v))
theorem PtrTo.be {w w' : World} {p : Option Rw} {v : Value} (h : PtrTo w p v) (hb : Below w.heap.size w w') : PtrTo w' p v := by
  cases p with
  | none => exact h
  | some r =>
    obtain ⟨b, o, e, h0, h3, h4⟩ := h
    exact ⟨b, o, e, cell_be hb h0, cell_be hb h3, cell_be hb h4⟩
def rwVal (r : Rw) : Value := .agg #[.int .i64 r.f, .int .i64 r.t, .bool r.z, .int .i64 (hiW r.v), .int .u64 (loW r.v)]
def holeV (f t : Int) (p n : Value) : Value := .agg #[.int .i64 f, .int .i64 t, .bool false, .int .i64 0, .int .u64 0, p, n]
def TellPost (w : World) (r : Rw) (e : Ending) (w' : World) : Prop := e = .returned (rwVal r) ∧ Below w.heap.size w w'
theorem set_other {w : World} {g i j : Nat} {u v : Value} (h : w.cell? ⟨g, i, none⟩ = some v) (hne : i ≠ j) : (w.setCell ⟨g, j, none⟩ u).cell? ⟨g, i, none⟩ = some v := by
  rw [World.cell?_setCell_other _ _ _ _ (by simp)]; exact h
theorem set_same {w : World} {g i : Nat} {u v : Value} (h : w.cell? ⟨g, i, none⟩ = some v) : (w.setCell ⟨g, i, none⟩ u).cell? ⟨g, i, none⟩ = some u := World.cell?_setCell_same _ _ _ h
/-- a row's cells that a call has made, yet blank -/
structure RowBlank (w : World) (g : Nat) : Prop where
  c0 : w.cell? ⟨g, 0, none⟩ = some (.int .i64 0)
  c1 : w.cell? ⟨g, 1, none⟩ = some (.int .i64 0)
  c2 : w.cell? ⟨g, 2, none⟩ = some (.bool false)
  c3 : w.cell? ⟨g, 3, none⟩ = some (.int .i64 0)
  c4 : w.cell? ⟨g, 4, none⟩ = some (.int .u64 0)
  fr : ∀ k, w.frozen? ⟨g, k, none⟩ = false
  lt : g < w.heap.size
theorem RowBlank.be {w w' : World} {g : Nat} (h : RowBlank w g) (hb : Below w.heap.size w w') : RowBlank w' g :=
  ⟨cell_be hb h.c0, cell_be hb h.c1, cell_be hb h.c2, cell_be hb h.c3, cell_be hb h.c4, fun k => frozen_be hb h.lt (h.fr k), Nat.lt_of_lt_of_le h.lt hb.size⟩
theorem RowBlank.new (w : World) (t : TypeId) (n : Nat) (hn : w.heap.size = n) : RowBlank (w.alloc (.cells #[.int .i64 0, .int .i64 0, .bool false, .int .i64 0, .int .u64 0] t)) n := by
  subst hn
  exact ⟨by simp, by simp, by simp, by simp, by simp, fun k => frozen_of_row _ _ _ _ _ (heap_alloc_new w _), by simp⟩
def setRow (w : World) (g : Nat) (x0 x1 x2 x3 x4 : Value) : World := ((((w.setCell ⟨g, 0, none⟩ x0).setCell ⟨g, 1, none⟩ x1).setCell ⟨g, 2, none⟩ x2).setCell ⟨g, 3, none⟩ x3).setCell ⟨g, 4, none⟩ x4
theorem RowBlank.set {w : World} {g : Nat} (h : RowBlank w g) (x0 x1 x2 x3 x4 : Value) :
    (setRow w g x0 x1 x2 x3 x4).cell? ⟨g, 0, none⟩ = some x0 ∧ (setRow w g x0 x1 x2 x3 x4).cell? ⟨g, 1, none⟩ = some x1 ∧ (setRow w g x0 x1 x2 x3 x4).cell? ⟨g, 2, none⟩ = some x2 ∧
    (setRow w g x0 x1 x2 x3 x4).cell? ⟨g, 3, none⟩ = some x3 ∧ (setRow w g x0 x1 x2 x3 x4).cell? ⟨g, 4, none⟩ = some x4 := by
  unfold setRow
  refine ⟨?_, ?_, ?_, ?_, ?_⟩
  · exact set_other (set_other (set_other (set_other (set_same h.c0) (by decide)) (by decide)) (by decide)) (by decide)
  · exact set_other (set_other (set_other (set_same (set_other h.c1 (by decide))) (by decide)) (by decide)) (by decide)
  · exact set_other (set_other (set_same (set_other (set_other h.c2 (by decide)) (by decide))) (by decide)) (by decide)
  · exact set_other (set_same (set_other (set_other (set_other h.c3 (by decide)) (by decide)) (by decide))) (by decide)
  · exact set_same (set_other (set_other (set_other (set_other h.c4 (by decide)) (by decide)) (by decide)) (by decide))
theorem bel_setRow {B : Nat} {a w : World} {g : Nat} (h : Below B a w) (hg : B ≤ g) (x0 x1 x2 x3 x4 : Value) : Below B a (setRow w g x0 x1 x2 x3 x4) :=
  ((((h.setCell (p := ⟨g, 0, none⟩) hg x0).setCell (p := ⟨g, 1, none⟩) hg x1).setCell (p := ⟨g, 2, none⟩) hg x2).setCell (p := ⟨g, 3, none⟩) hg x3).setCell (p := ⟨g, 4, none⟩) hg x4
theorem null_val (f t : Int) : rwVal (nullRow f t) = .agg #[.int .i64 f, .int .i64 t, .bool true, .int .i64 0, .int .u64 0] := by
  unfold rwVal nullRow; rw [hiW_zero, loW_zero]
theorem null_any (f t : Int) (p n : Value) (hp : p.oneCell' = true) (hn : n.oneCell' = true) (w : World) :
    Calls Try.prog 12 #[holeV f t p n] w (TellPost w (nullRow f t)) := by
  unfold holeV TellPost
  rw [null_val]
  go_enter Try.func12, Try.ntmps12
  go_wp2
  exact bodyPost_ret (v := .agg #[.int .i64 f, .int .i64 t, .bool true, .int .i64 0, .int .u64 0]) (by simp [results, Try.results12, go_sem]) rfl ⟨rfl, ((Below.refl _ _).alloc (Nat.le_refl _) _).alloc (by simp) _⟩
theorem lin1_any (v : Int) (w : World) :
    Calls Try.prog 26 #[.agg #[.int .i64 (hiW v), .int .u64 (loW v)]] w fun e w' => e = .returned (.agg #[.int .i64 (hiW v), .int .u64 (loW v)]) ∧ Below w.heap.size w w' := by
  go_enter Try.func26, Try.ntmps26
  go_wp2
  exact bodyPost_ret (v := .agg #[.int .i64 (hiW v), .int .u64 (loW v)]) (by simp [results, Try.results26, go_sem]) rfl ⟨rfl, ((Below.refl _ _).alloc (Nat.le_refl _) _).alloc (by simp) _⟩
theorem prev_none (f t : Int) (n : Value) (hn : n.oneCell' = true) (w : World) :
    Calls Try.prog 13 #[holeV f t (.pointer none) n] w (TellPost w (nullRow f t)) := by
  have HN := Lib.hid (fun w => null_any f t (.pointer none) n rfl hn w)
  unfold holeV TellPost at *
  rw [null_val] at *
  go_enter Try.func13, Try.ntmps13
  go_wp2_with fail
  with_reducible refine (HN.out _).mono ?_
  rintro e w1 ⟨rfl, hb⟩
  have B := (RowBlank.new _ _ (w.heap.size + 1) (by simp)).be hb
  have hz := B.lt
  obtain ⟨q0, q1, q2, q3, q4⟩ := B.set (.int .i64 f) (.int .i64 t) (.bool true) (.int .i64 0) (.int .u64 0)
  have hB := bel_setRow (bel_step (((Below.refl _ w).alloc (Nat.le_refl _) _).alloc (by simp) _) (Nat.le_refl _) hb) (g := w.heap.size + 1) (by omega) (.int .i64 f) (.int .i64 t) (.bool true) (.int .i64 0) (.int .u64 0)
  unfold setRow at q0 q1 q2 q3 q4 hB
  obtain ⟨r0, r1, r2, r3, r4, rf, _⟩ := B
  have f0 := rf 0; have f1 := rf 1; have f2 := rf 2; have f3 := rf 3; have f4 := rf 4
  clear rf hb
  have HB := Lib.hid hB; clear hB
  go_wp2
  exact bodyPost_ret (v := .agg #[.int .i64 f, .int .i64 t, .bool true, .int .i64 0, .int .u64 0]) (by simp [results, Try.results13, go_sem, q0, q1, q2, q3, q4]) rfl ⟨rfl, HB.out⟩
theorem prev_some (f t : Int) (r : Rw) (p n : Value) (hn : n.oneCell' = true) (w : World) (hp : PtrTo w (some r) p) :
    Calls Try.prog 13 #[holeV f t p n] w (TellPost w ⟨f, t, false, r.v⟩) := by
  obtain ⟨b, o, rfl, c0, c3, c4⟩ := hp
  have hlt := World.block_lt_of_cell? w _ c0
  dsimp only at hlt
  unfold holeV TellPost rwVal
  go_enter Try.func13, Try.ntmps13
  go_wp2
  exact bodyPost_ret (v := .agg #[.int .i64 f, .int .i64 t, .bool false, .int .i64 (hiW r.v), .int .u64 (loW r.v)]) (by simp [results, Try.results13, go_sem]) rfl ⟨rfl, ((Below.refl _ _).alloc (Nat.le_refl _) _).alloc (by simp) _⟩
/-- Fill's closure: the place of a row -/
theorem at_in (A : Option Addr) (R : List Rw) (c bx : Nat) (i : Nat) (w : World) (hv : w.cell? ⟨bx, 0, none⟩ = some (.slice A R.length c)) (hr : RowsAt w A R) (hi : i < R.length) (hn : R.length ≤ 9223372036854775807) :
    Calls Try.prog 16 #[.int .i64 i, .pointer (some ⟨bx, 0, none⟩)] w fun e w' => (∃ v, e = .returned v ∧ PtrTo w R[i]? v) ∧ w' = w := by
  obtain ⟨b, off, rfl, hb, hc⟩ := hr (by omega)
  obtain ⟨q1, q2, q3, q4, q5⟩ := RowsAt.at_ hc hi
  have hp : PtrTo w R[i]? (.pointer (some ⟨b, off + i * 5, none⟩)) := by
    rw [List.getElem?_eq_getElem hi]
    have e : R.getD i rw0 = R[i] := by rw [List.getD_eq_getElem?_getD, List.getElem?_eq_getElem hi]; rfl
    rw [e] at q1 q4 q5
    exact ⟨b, _, rfl, q1, q4, q5⟩
  have HP := Lib.hid hp
  clear hp hc q1 q2 q3 q4 q5 hr
  go_enter Try.func16, Try.ntmps16
  go_wp2
  go_ret
  exact ⟨⟨_, rfl, HP.out⟩, rfl⟩
theorem at_out (A : Option Addr) (n : Nat) (c bx : Nat) (i : Int) (w : World) (hv : w.cell? ⟨bx, 0, none⟩ = some (.slice A n c)) (hi : i < 0 ∨ (n : Int) ≤ i) :
    Calls Try.prog 16 #[.int .i64 i, .pointer (some ⟨bx, 0, none⟩)] w fun e w' => e = .returned (.pointer none) ∧ w' = w := by
  by_cases h : i < 0
  · go_enter Try.func16, Try.ntmps16
    go_wp2
    go_ret
    exact ⟨rfl, rfl⟩
  · have h2 : (n : Int) ≤ i := by omega
    go_enter Try.func16, Try.ntmps16
    go_wp2
    go_ret
    exact ⟨rfl, rfl⟩
/-- the row at a place, if there is one -/
def rowAt (R : List Rw) (i : Int) : Option Rw := if 0 ≤ i then R[i.toNat]? else none
theorem at_any (A : Option Addr) (R : List Rw) (c bx : Nat) (i : Int) (w : World) (hv : w.cell? ⟨bx, 0, none⟩ = some (.slice A R.length c)) (hr : RowsAt w A R) (hn : R.length ≤ 9223372036854775807) :
    Calls Try.prog 16 #[.int .i64 i, .pointer (some ⟨bx, 0, none⟩)] w fun e w' => (∃ v, e = .returned v ∧ PtrTo w (rowAt R i) v) ∧ w' = w := by
  by_cases h0 : 0 ≤ i
  · obtain ⟨k, rfl⟩ : ∃ k : Nat, i = k := ⟨i.toNat, by omega⟩
    have e : rowAt R (k : Int) = R[k]? := by unfold rowAt; rw [if_pos h0]; rfl
    rw [e]
    by_cases hk : k < R.length
    · exact at_in A R c bx k w hv hr hk hn
    · rw [List.getElem?_eq_none (by omega)]
      exact (at_out A R.length c bx k w hv (.inr (by omega))).mono fun _ _ ⟨e, h⟩ => ⟨⟨_, e, rfl⟩, h⟩
  · have e : rowAt R i = none := by unfold rowAt; rw [if_neg h0]
    rw [e]
    exact (at_out A R.length c bx i w hv (.inl (by omega))).mono fun _ _ ⟨e, h⟩ => ⟨⟨_, e, rfl⟩, h⟩
end Go.Proofs.Ytljepnonigjcbaa

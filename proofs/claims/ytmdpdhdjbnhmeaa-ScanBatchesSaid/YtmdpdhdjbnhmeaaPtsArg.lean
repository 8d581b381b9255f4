/- An argument that is a slice of points, opened. No program in sight. -/
import Derived.Test.YtmdpdhdjbnhmeaaPoints
import Derived.Test.YtmdpdhdjbnhmeaaArgs
import Derived.Deep.Slices
import Derived.Deep.Fields
import Derived.ChangeSame
namespace Go.Proofs.Ytmdpdhdjbnhmeaa
open Go Go.ChangeShapes Go.WideShapes Go.RowKit Go.Joins Go.Deep
set_option linter.unusedVariables false
def in64 (x : Int) : Prop := -9223372036854775808 ≤ x ∧ x ≤ 9223372036854775807
/-- an argument that is a slice of points -/
structure PtsArg (w : World) (A : Option Addr) (n c : Nat) (a : Nat → Pt) : Prop where
  pts : Pts w A n a
  le : n ≤ c
  max : c ≤ 9223372036854775807
  bd : ∀ j, j < n → in64 (a j).t ∧ in64 (a j).v ∧ in64 (a j).s
section
variable {H : Type} {enc : TypeId × Value → H} {P : Program} {w : World} {base : Nat} {spare : Nat → Bool} {held : Bool}
theorem open_pts {t e : TypeId} {f0 f1 f2 : Field} {fuel : Nat} {A : Option Addr} {len cap : Nat} {x : DataW H × List MemPlace} (ht : P.underlying t = some (.slice e)) (he : P.underlying e = some (.struct #[f0, f1, f2]))
    (hone : oneCellFields P #[f0, f1, f2] = true) (hC : P.cellsOf e = 3) (i0 : P.underlying f0.type = some (.int .i64)) (i1 : P.underlying f1.type = some (.int .i64)) (i2 : P.underlying f2.type = some (.int .i64))
    (h : DataW.trod enc P w base spare held fuel t [.slice A len cap] = some x) : ∃ a, PtsArg w A len cap a := by
  rcases open_slice ht h with ⟨hcs, _⟩ | ⟨a, l, c, m, k, D, Pl, hcs, hb, hl, hm, hmm, hx, hi⟩
  · simp at hcs
    obtain ⟨rfl, rfl, rfl⟩ := hcs
    exact ⟨fun _ => ⟨0, 0, 0⟩, Cells.zero _ _ _, Nat.le_refl _, by decide, fun j hj => by omega⟩
  · simp at hcs
    obtain ⟨rfl, rfl, rfl⟩ := hcs
    have hlm : len ≤ m := by rw [hmm]; split <;> omega
    have key : ∀ i, ∃ p : Pt, i < len → (w.cell? (a.add (i * 3)) = some (.int .i64 p.t) ∧ w.cell? (a.add (i * 3 + 1)) = some (.int .i64 p.v) ∧ w.cell? (a.add (i * 3 + 2)) = some (.int .i64 p.s)) ∧ in64 p.t ∧ in64 p.v ∧ in64 p.s := by
      intro i
      by_cases hlt : i < len
      · obtain ⟨cs', hc, ht'⟩ := hi i (by omega)
        rw [hC] at hc
        obtain ⟨ys, n', _, _, hlen, _, hf⟩ := DataW.trod_struct he ht'
        obtain ⟨_, hcl, hat⟩ := World.cells?_some hc
        obtain ⟨o0, k0⟩ := hone_of hone 0 f0 rfl
        obtain ⟨o1, k1⟩ := hone_of hone 1 f1 rfl
        obtain ⟨o2, k2⟩ := hone_of hone 2 f2 rfl
        match cs', hcl with
        | [c0, c1, c2], _ =>
          have g0 := hf 0 f0 rfl
          have g1 := hf 1 f1 rfl
          have g2 := hf 2 f2 rfl
          have l3 : ys.length = 3 := by assumption
          simp only [o0, k0, o1, k1, o2, k2] at g0 g1 g2
          rw [List.getElem?_eq_getElem (by omega)] at g0 g1 g2
          obtain ⟨b0, e0, _, w0⟩ := DataW.trod_int i0 g0
          obtain ⟨b1, e1, _, w1⟩ := DataW.trod_int i1 g1
          obtain ⟨b2, e2, _, w2⟩ := DataW.trod_int i2 g2
          simp at e0 e1 e2
          subst e0 e1 e2
          have q0 := hat 0 (by omega)
          have q1 := hat 1 (by omega)
          have q2 := hat 2 (by omega)
          rw [Go.Deep.add_add] at q0 q1 q2
          exact ⟨⟨b0, b1, b2⟩, fun _ => ⟨⟨by simpa using q0, by simpa using q1, by simpa using q2⟩, bounds_i64 w0, bounds_i64 w1, bounds_i64 w2⟩⟩
      · exact ⟨⟨0, 0, 0⟩, fun h => absurd h hlt⟩
    obtain ⟨F, hF⟩ : ∃ F : Nat → Pt, ∀ i, i < len → (w.cell? (a.add (i * 3)) = some (.int .i64 (F i).t) ∧ w.cell? (a.add (i * 3 + 1)) = some (.int .i64 (F i).v) ∧ w.cell? (a.add (i * 3 + 2)) = some (.int .i64 (F i).s)) ∧ in64 (F i).t ∧ in64 (F i).v ∧ in64 (F i).s :=
      ⟨fun i => (key i).choose, fun i hi => (key i).choose_spec hi⟩
    refine ⟨F, fun h0 => ?_, hl, by unfold maxLen at hm; omega, fun j hj => (hF j hj).2⟩
    obtain ⟨b, off, spot⟩ := a
    have hspot : spot = none := by simpa [Addr.add] using World.cell?_spot (hF 0 (by omega)).1.1
    subst hspot
    refine ⟨b, off, rfl, World.block_lt_of_cell? w _ (hF 0 (by omega)).1.1, fun j hj => ?_⟩
    obtain ⟨h3a, h3b, h3c⟩ := (hF (j / 3) (by omega)).1
    rw [Addr.add_lit] at h3a h3b h3c
    unfold ptCell
    rcases (show j % 3 = 0 ∨ j % 3 = 1 ∨ j % 3 = 2 by omega) with h | h | h
    · rw [if_pos h, ← h3a, show off + j / 3 * 3 = off + j by omega]
    · rw [if_neg (by omega), if_pos h, ← h3b, show off + (j / 3 * 3 + 1) = off + j by omega]
    · rw [if_neg (by omega), if_neg (by omega), ← h3c, show off + (j / 3 * 3 + 2) = off + j by omega]
end
end Go.Proofs.Ytmdpdhdjbnhmeaa

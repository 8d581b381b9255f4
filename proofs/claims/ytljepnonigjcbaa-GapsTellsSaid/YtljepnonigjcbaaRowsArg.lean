/- An argument that is a slice of rows, opened. No program in sight. -/
import Derived.Test.YtljepnonigjcbaaGRows
import Derived.Test.YtljepnonigjcbaaArgs
import Derived.Deep.Slices
import Derived.Deep.Fields
import Derived.ChangeSame
namespace Go.Proofs.Ytljepnonigjcbaa
open Go Go.ChangeShapes Go.WideShapes Go.RowKit Go.Joins Go.Deep
set_option linter.unusedVariables false
/-- an argument that is a slice of rows -/
structure RowsArg (w : World) (A : Option Addr) (n c : Nat) (R : List Rw) : Prop where
  at_ : RowsAt w A R
  len : R.length = n
  le : n ≤ c
  max : c ≤ 9223372036854775807
  nil : A = none → c = 0
  ok : ∀ r ∈ R, rwOk r
section
variable {H : Type} {enc : TypeId × Value → H} {P : Program} {w : World} {base : Nat} {spare : Nat → Bool} {held : Bool}
theorem open_rows {t e : TypeId} {f0 f1 f2 f3 g0 g1 : Field} {fuel : Nat} {A : Option Addr} {len cap : Nat} {x : DataW H × List MemPlace} (ht : P.underlying t = some (.slice e)) (he : P.underlying e = some (.struct #[f0, f1, f2, f3]))
    (hC : P.cellsOf e = 5) (hb' : P.underlying f3.type = some (.struct #[g0, g1])) (o0 : f0.offset = 0) (o1 : f1.offset = 1) (o2 : f2.offset = 2) (o3 : f3.offset = 3) (q0 : g0.offset = 0) (q1 : g1.offset = 1)
    (k0 : P.cellsOf f0.type = 1) (k1 : P.cellsOf f1.type = 1) (k2 : P.cellsOf f2.type = 1) (k3 : P.cellsOf f3.type = 2) (k4 : P.cellsOf g0.type = 1) (k5 : P.cellsOf g1.type = 1)
    (i0 : P.underlying f0.type = some (.int .i64)) (i1 : P.underlying f1.type = some (.int .i64)) (i2 : P.underlying f2.type = some .bool) (j0 : P.underlying g0.type = some (.int .i64)) (j1 : P.underlying g1.type = some (.int .u64))
    (h : DataW.trod enc P w base spare held fuel t [.slice A len cap] = some x) : ∃ R, RowsArg w A len cap R := by
  rcases open_slice ht h with ⟨hcs, _⟩ | ⟨a, l, c, m, k, D, Pl, hcs, hb, hl, hm, hmm, hx, hi⟩
  · simp at hcs
    obtain ⟨rfl, rfl, rfl⟩ := hcs
    exact ⟨[], Cells.zero _ _ _, rfl, Nat.le_refl _, by decide, fun _ => rfl, by simp⟩
  · simp at hcs
    obtain ⟨rfl, rfl, rfl⟩ := hcs
    have hlm : len ≤ m := by rw [hmm]; split <;> omega
    have key : ∀ i, ∃ p : Rw, i < len → (∀ j, j < 5 → w.cell? (a.add (i * 5 + j)) = some ((rwCells p).getD j (.bool false))) ∧ rwOk p := by
      intro i
      by_cases hlt : i < len
      · obtain ⟨cs', hc, ht'⟩ := hi i (by omega)
        rw [hC] at hc
        obtain ⟨ys, n', _, _, _, hlen, hf⟩ := DataW.trod_struct he ht'
        obtain ⟨_, hcl, hat⟩ := World.cells?_some hc
        match cs', hcl with
        | [c0, c1, c2, c3, c4], _ =>
          have g0' := hf 0 f0 rfl
          have g1' := hf 1 f1 rfl
          have g2' := hf 2 f2 rfl
          have g3' := hf 3 f3 rfl
          have l4 : ys.length = 4 := hlen
          simp only [o0, k0, o1, k1, o2, k2, o3, k3] at g0' g1' g2' g3'
          rw [List.getElem?_eq_getElem (by omega)] at g0' g1' g2' g3'
          obtain ⟨b0, e0, _, w0⟩ := DataW.trod_int i0 g0'
          obtain ⟨b1, e1, _, w1⟩ := DataW.trod_int i1 g1'
          obtain ⟨b2, e2, _⟩ := DataW.trod_bool i2 g2'
          obtain ⟨y0, y1, n2, _, _, z0, z1⟩ := trod_struct2 hb' g3'
          simp only [q0, k4, q1, k5] at z0 z1
          obtain ⟨b3, e3, _, w3⟩ := DataW.trod_int j0 z0
          obtain ⟨b4, e4, _, w4⟩ := DataW.trod_int j1 z1
          simp at e0 e1 e2 e3 e4
          subst e0 e1 e2 e3 e4
          have B3 := bounds_i64 w3
          have B4 := bounds_u64 w4
          obtain ⟨p1, p2, p3⟩ := parts_of b3 b4 B3.1 B3.2 B4.1 B4.2
          refine ⟨⟨b0, b1, b2, b3 * 18446744073709551616 + b4⟩, fun _ => ⟨fun j hj => ?_, bounds_i64 w0, bounds_i64 w1, p3⟩⟩
          have q := hat j (by simpa using hj)
          rw [Go.Deep.add_add] at q
          rw [q]
          unfold rwCells
          rw [p1, p2]
          rcases (show j = 0 ∨ j = 1 ∨ j = 2 ∨ j = 3 ∨ j = 4 by omega) with rfl | rfl | rfl | rfl | rfl <;> rfl
      · exact ⟨rw0, fun h => absurd h hlt⟩
    obtain ⟨F, hF⟩ : ∃ F : Nat → Rw, ∀ i, i < len → (∀ j, j < 5 → w.cell? (a.add (i * 5 + j)) = some ((rwCells (F i)).getD j (.bool false))) ∧ rwOk (F i) :=
      ⟨fun i => (key i).choose, fun i hi => (key i).choose_spec hi⟩
    have hgd : ∀ i, i < len → ((List.range len).map F).getD i rw0 = F i := fun i hi => by simp [List.getD_eq_getElem?_getD, List.getElem?_range hi]
    refine ⟨(List.range len).map F, fun h0 => ?_, by simp, hl, by unfold maxLen at hm; omega, (fun h => by cases h), fun r hr => ?_⟩
    · have hlen' : ((List.range len).map F).length = len := by simp
      rw [hlen'] at h0 ⊢
      obtain ⟨b, off, spot⟩ := a
      have hc0 := (hF 0 (by omega)).1 0 (by omega)
      have hspot : spot = none := by simpa [Addr.add] using World.cell?_spot hc0
      subst hspot
      refine ⟨b, off, rfl, World.block_lt_of_cell? w _ hc0, fun j hj => ?_⟩
      have h3 := (hF (j / 5) (by omega)).1 (j % 5) (by omega)
      rw [Addr.add_lit, show j / 5 * 5 + j % 5 = j by omega] at h3
      rw [h3]
      unfold rwCell
      rw [hgd _ (by omega)]
    · simp at hr
      obtain ⟨i, hi', rfl⟩ := hr
      exact (hF i hi').2
/-- a struct of a struct of two ints, and an int -/
theorem open_asked {r : Reach} {b0 : Nat} {t : TypeId} {f0 f1 g0 g1 : Field} {v : Value} {d : DataW H} {p : List MemPlace} (ht : P.underlying t = some (.struct #[f0, f1])) (hs : P.underlying f0.type = some (.struct #[g0, g1])) (hct : P.cellsOf t = 3)
    (o0 : f0.offset = 0) (o1 : f1.offset = 2) (q0 : g0.offset = 0) (q1 : g1.offset = 1) (k0 : P.cellsOf f0.type = 2) (k1 : P.cellsOf f1.type = 1) (k2 : P.cellsOf g0.type = 1) (k3 : P.cellsOf g1.type = 1)
    (i1 : P.underlying f1.type = some (.int .i64)) (j0 : P.underlying g0.type = some (.int .i64)) (j1 : P.underlying g1.type = some (.int .i64))
    (hv : Value.okWide P w r b0 t v) (h : DataW.Trod enc P w base spare held t v d p) : ∃ a b c : Int, v = .agg #[.int .i64 a, .int .i64 b, .int .i64 c] ∧ (Lit.int .i64 a).wf = true ∧ (Lit.int .i64 b).wf = true ∧ (Lit.int .i64 c).wf = true := by
  obtain ⟨cs, rfl, hsz, _⟩ : ∃ cs, v = .agg cs ∧ cs.size = P.cellsOf t ∧ Row.okWide P w r b0 t cs := by
    simpa [Value.okWide, ht] using hv
  obtain ⟨c0, c1, c2, rfl⟩ := array3 (hsz.trans hct)
  obtain ⟨fuel, hf⟩ := h
  obtain ⟨y0, y1, n, _, _, h0, h1⟩ := trod_struct2 ht hf
  simp only [o0, o1, k0, k1, Value.cells] at h0 h1
  obtain ⟨x0, x1, m, _, _, z0, z1⟩ := trod_struct2 hs h0
  simp only [q0, q1, k2, k3] at z0 z1
  obtain ⟨a, e0, _, wa⟩ := DataW.trod_int j0 z0
  obtain ⟨b, e1, _, wb⟩ := DataW.trod_int j1 z1
  obtain ⟨c, e2, _, wc⟩ := DataW.trod_int i1 h1
  simp at e0 e1 e2
  subst e0 e1 e2
  exact ⟨a, b, c, rfl, wa, wb, wc⟩
end
end Go.Proofs.Ytljepnonigjcbaa

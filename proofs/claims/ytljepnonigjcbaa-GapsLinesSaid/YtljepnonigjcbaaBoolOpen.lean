/- An argument that is a slice of Bools, opened. No program in sight. -/
import Derived.Test.YtljepnonigjcbaaGapsLinesWalk
import Derived.Test.YtljepnonigjcbaaArgs
import Derived.Deep.Slices
import Derived.Deep.Fields
import Derived.ChangeSame
namespace Go.Proofs.Ytljepnonigjcbaa
open Go Go.ChangeShapes Go.WideShapes Go.RowKit Go.Joins Go.Deep
set_option linter.unusedVariables false
section
variable {H : Type} {enc : TypeId × Value → H} {P : Program} {w : World} {base : Nat} {spare : Nat → Bool} {held : Bool}
theorem open_bools {t e : TypeId} {fuel : Nat} {A : Option Addr} {len cap : Nat} {x : DataW H × List MemPlace} (ht : P.underlying t = some (.slice e)) (he : P.underlying e = some .bool) (hC : P.cellsOf e = 1)
    (h : DataW.trod enc P w base spare held fuel t [.slice A len cap] = some x) : ∃ b, BoolArg w A len cap b := by
  rcases open_slice ht h with ⟨hcs, _⟩ | ⟨a, l, c, m, k, D, Pl, hcs, hb, hl, hm, hmm, hx, hi⟩
  · simp at hcs
    obtain ⟨rfl, rfl, rfl⟩ := hcs
    exact ⟨fun _ => false, Cells.zero _ _ _, Nat.le_refl _, by decide⟩
  · simp at hcs
    obtain ⟨rfl, rfl, rfl⟩ := hcs
    have hlm : len ≤ m := by rw [hmm]; split <;> omega
    have key : ∀ i, ∃ p : Bool, i < len → w.cell? (a.add i) = some (.bool p) := by
      intro i
      by_cases hlt : i < len
      · obtain ⟨cs', hc, ht'⟩ := hi i (by omega)
        rw [hC, Nat.mul_one] at hc
        obtain ⟨b, rfl, _⟩ := DataW.trod_bool he ht'
        exact ⟨b, fun _ => cell_of_cells?_one hc⟩
      · exact ⟨false, fun h => absurd h hlt⟩
    obtain ⟨F, hF⟩ : ∃ F : Nat → Bool, ∀ i, i < len → w.cell? (a.add i) = some (.bool (F i)) := ⟨fun i => (key i).choose, fun i hi => (key i).choose_spec hi⟩
    refine ⟨F, fun h0 => ?_, hl, by unfold maxLen at hm; omega⟩
    obtain ⟨b, off, spot⟩ := a
    have hspot : spot = none := by simpa [Addr.add] using World.cell?_spot (hF 0 (by omega))
    subst hspot
    refine ⟨b, off, rfl, World.block_lt_of_cell? w _ (hF 0 (by omega)), fun j hj => ?_⟩
    have := hF j hj
    rwa [Addr.add_lit] at this
end
end Go.Proofs.Ytljepnonigjcbaa

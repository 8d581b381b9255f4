/- Contracts of wide.amount and helpers (cut out of the texts of law07). -/
import Derived.Test.YtohgpllonbplfaaDoorWideFns
import Derived.Test.YtohgpllonbplfaaDoorWideTimesMath
import Derived.Deep.RegionHeld3
import Derived.Deep.RegionWith
namespace Go.Proofs.YtohgpllonbplfaaDoor
open Go.RowKit
set_option linter.unusedVariables false

theorem cell_set {w : World} {b o b' o' : Nat} {u v : Value} (h : w.cell? ⟨b, o, none⟩ = some v) (hne : b ≠ b') : (w.setCell ⟨b', o', none⟩ u).cell? ⟨b, o, none⟩ = some v := by
  rw [World.cell?_of_block (Below.heap_setCell w ⟨b', o', none⟩ u b (by simpa using hne))]; exact h
theorem amount_any (v : Int) (w : World) (hv : fits v) :
    Calls Tryd.prog 13 #[.agg #[.int .i64 (hiW v), .int .u64 (loW v)]] w fun e w' => e = .returned (.agg #[.int .u64 (upW (absI v)), .int .u64 (loW (absI v))]) ∧ Below w.heap.size w w' := by
  have hn := hiW_neg v hv
  by_cases h : v < 0
  · rw [absI_neg v h]
    have h1 : hiW v < 0 := hn.2 h
    have e1 : IntKind.u64.wrap (hiW (-v)) = upW (-v) := by rw [IntKind.wrap_u64]; exact upW_hi _
    clear hn
    go_enter Tryd.func13, Tryd.ntmps13
    go_wp2_with fail
    with_reducible refine (below_yes _ _ _ h1).mono ?_
    rintro e w1 ⟨rfl, rfl⟩
    go_wp2_with fail
    with_reducible refine (minus_any v _).mono ?_
    rintro e w1 ⟨rfl, hb⟩
    have hz : w.heap.size + 2 < w1.heap.size := by have := hb.size; simp at this; omega
    have k0 := cell_be hb (cell_al (cell_al (cell_new0 (n := w.heap.size) rfl)))
    have k1 := cell_be hb (cell_al (cell_al (cell_new1 (n := w.heap.size) rfl)))
    have z0 := cell_be hb (cell_al (cell_new0 (n := w.heap.size + 1) (by simp)))
    have z1 := cell_be hb (cell_al (cell_new1 (n := w.heap.size + 1) (by simp)))
    have f0 := frozen_be hb (by simp; omega) (frozen_al (by simp; omega) (frozen_al (by simp) (frozen_new (n := w.heap.size) rfl 0)))
    have f1 := frozen_be hb (by simp; omega) (frozen_al (by simp; omega) (frozen_al (by simp) (frozen_new (n := w.heap.size) rfl 1)))
    have f2 := frozen_be hb (by simp) (frozen_al (by simp) (frozen_new (n := w.heap.size + 1) (by simp) 0))
    have f3 := frozen_be hb (by simp) (frozen_al (by simp) (frozen_new (n := w.heap.size + 1) (by simp) 1))
    have hB := (((Below.refl _ _).alloc (Nat.le_refl _) _).alloc (by simp) _).alloc (by simp; omega) _ |>.trans (hb.mono (by simp; omega))
    clear hb
    go_wp2
    exact bodyPost_ret (v := .agg #[.int .u64 (upW (-v)), .int .u64 (loW (-v))]) (by simp [results, Tryd.results13, go_sem, z0, z1]) rfl ⟨rfl, (((hB.setCell (Nat.le_refl _) _).setCell (Nat.le_refl _) _).setCell (by simp) _).setCell (by simp) _⟩
  · rw [absI_pos v h]
    have h1 : 0 ≤ hiW v := by omega
    have e1 : IntKind.u64.wrap (hiW v) = upW v := by rw [IntKind.wrap_u64]; exact upW_hi _
    clear hn
    go_enter Tryd.func13, Tryd.ntmps13
    go_wp2_with fail
    with_reducible refine (below_no _ _ _ (Int.not_lt.2 h1)).mono ?_
    rintro e w1 ⟨rfl, rfl⟩
    go_wp2
    exact bodyPost_ret (v := .agg #[.int .u64 (upW v), .int .u64 (loW v)]) (by simp [results, Tryd.results13, go_sem]) rfl ⟨rfl, (((Below.refl _ _).alloc (Nat.le_refl _) _).alloc (by simp) _).alloc (by simp; omega) _⟩
theorem bel3 (w : World) (a b c : Obj) : Below w.heap.size w (((w.alloc a).alloc b).alloc c) := (((Below.refl _ _).alloc (Nat.le_refl _) _).alloc (by simp) _).alloc (by simp; omega) _
theorem bel4 (w : World) (a b c d : Obj) : Below w.heap.size w ((((w.alloc a).alloc b).alloc c).alloc d) := (bel3 w a b c).alloc (by simp; omega) _
theorem fits_int (n : Int) (h0 : -9223372036854775808 ≤ n) (h1 : n ≤ 9223372036854775807) : fits n := by unfold fits; omega
end Go.Proofs.YtohgpllonbplfaaDoor

/- Contracts of tidemillref07.Whole and of like (cut out of the texts of law07). -/
import Derived.Test.YtohgpllonbplfaaDoorRefLimbs
namespace Go.Proofs.YtohgpllonbplfaaDoor
open Go.RowKit
set_option linter.unusedVariables false

theorem whole_any (v : Int) (w : World) :
    Calls Tryd.prog 23 #[.agg #[.int .i64 (lb v 0), .int .i64 (lb v 1), .int .i64 (lb v 2), .int .i64 (lb v 3), .int .i64 (lb v 4), .int .i64 (lb v 5), .int .i64 (lb v 6), .int .i64 (lb v 7)]] w fun e w' => e = .returned (.tuple #[.int .i64 (hiW v), .int .u64 (loW v)]) ∧ Below w.heap.size w w' := by
  have h1 := whole_lo v
  have h2 := whole_hi v
  have hb := hiW_bd v
  have hw : wrap64 (((lb v 7 * 65536 + lb v 6) * 65536 + lb v 5) * 65536 + lb v 4) = hiW v := by rw [h2]; unfold wrap64; omega
  have b0 := lb_bd v 0
  have b1 := lb_bd v 1
  have b2 := lb_bd v 2
  have b3 := lb_bd v 3
  have b4 := lb_bd v 4
  have b5 := lb_bd v 5
  have b6 := lb_bd v 6
  have b7 := lb_bd v 7
  have HW := Lib.hid hw
  have H1 := Lib.hid h1
  clear h1 h2 hw hb
  generalize lb v 0 = l0 at *
  generalize lb v 1 = l1 at *
  generalize lb v 2 = l2 at *
  generalize lb v 3 = l3 at *
  generalize lb v 4 = l4 at *
  generalize lb v 5 = l5 at *
  generalize lb v 6 = l6 at *
  generalize lb v 7 = l7 at *
  obtain ⟨b00, b01⟩ := b0
  obtain ⟨b10, b11⟩ := b1
  obtain ⟨b20, b21⟩ := b2
  obtain ⟨b30, b31⟩ := b3
  obtain ⟨b40, b41⟩ := b4
  obtain ⟨b50, b51⟩ := b5
  obtain ⟨b60, b61⟩ := b6
  obtain ⟨b70, b71⟩ := b7
  go_enter Tryd.func23, Tryd.ntmps23
  go_wp2_with fail
  refine wp_loop_rounds 5 ?_
  iterate 5 (rw [rounds_succ]; go_wp2)
  rw [HW.out, H1.out]
  go_ret2
  exact ⟨rfl, (Below.refl _ _).alloc (Nat.le_refl _) _⟩
theorem like_same (v : Int) (ok : Bool) (w : World) :
    Calls Tryd.prog 12 #[.agg #[.int .i64 (hiW v), .int .u64 (loW v)], .bool ok, .agg #[.int .i64 (lb v 0), .int .i64 (lb v 1), .int .i64 (lb v 2), .int .i64 (lb v 3), .int .i64 (lb v 4), .int .i64 (lb v 5), .int .i64 (lb v 6), .int .i64 (lb v 7)], .bool ok] w fun e w' => e = .returned (.bool true) ∧ Below w.heap.size w w' := by
  go_enter Tryd.func12, Tryd.ntmps12
  go_wp2_with fail
  with_reducible refine (whole_any v _).mono ?_
  rintro e w1 ⟨rfl, hb⟩
  have a0 := cell_be hb (cell_al (cell_new0 (n := w.heap.size) rfl))
  have a1 := cell_be hb (cell_al (cell_new1 (n := w.heap.size) rfl))
  have hB := (((Below.refl _ _).alloc (Nat.le_refl _) _).alloc (by simp) _).trans (hb.mono (by simp; omega))
  clear hb
  go_wp2
  go_ret
  exact ⟨rfl, hB⟩
end Go.Proofs.YtohgpllonbplfaaDoor

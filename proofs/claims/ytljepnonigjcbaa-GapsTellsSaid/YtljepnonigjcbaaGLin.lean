/- The contract of (hole).linear. -/
import Derived.Test.YtljepnonigjcbaaGHole
import Derived.Test.YtljepnonigjcbaaWideAdd
import Derived.Test.YtljepnonigjcbaaWideTimes
import Derived.Test.YtljepnonigjcbaaWideDiv
import Derived.Deep.RegionHeld3
import Derived.Deep.DeepCutAuto
namespace Go.Proofs.Ytljepnonigjcbaa
open Go Go.RowKit
set_option linter.unusedVariables false

theorem frozen_dr {w : World} {a : Addr} (h : w.frozen? a = false) : w.drew.frozen? a = false := h
theorem lin_null (f t : Int) (p n : Value) (w : World) (h : (p = .pointer none ∧ n.oneCell' = true) ∨ ((∃ a, p = .pointer (some a)) ∧ n = .pointer none)) :
    Calls Try.prog 14 #[holeV f t p n] w (TellPost w (nullRow f t)) := by
  have hp1 : p.oneCell' = true := by
    rcases h with ⟨rfl, _⟩ | ⟨⟨a, rfl⟩, _⟩ <;> rfl
  have hn1 : n.oneCell' = true := by
    rcases h with ⟨_, h⟩ | ⟨_, rfl⟩
    · exact h
    · rfl
  have HN := Lib.hid (fun w => null_any f t p n hp1 hn1 w)
  unfold holeV TellPost at *
  rw [null_val] at *
  rcases h with ⟨rfl, _⟩ | ⟨⟨a, rfl⟩, rfl⟩
  all_goals
    go_enter Try.func14, Try.ntmps14
    go_wp2_with fail
    with_reducible refine (HN.out _).mono ?_
    rintro e w1 ⟨rfl, hb⟩
    have B := (RowBlank.new _ _ (w.heap.size + 1) (by simp)).be hb
    have hz := B.lt
    obtain ⟨q0, q1, q2, q3, q4⟩ := B.set (.int .i64 f) (.int .i64 t) (.bool true) (.int .i64 0) (.int .u64 0)
    have hB := bel_setRow (bel_step (((Below.refl _ w).alloc (Nat.le_refl _) _).alloc (by simp) _) (Nat.le_refl _) hb) (g := w.heap.size + 1) (by omega) (.int .i64 f) (.int .i64 t) (.bool true) (.int .i64 0) (.int .u64 0)
    unfold setRow at q0 q1 q2 q3 q4 hB
    obtain ⟨r0, r1, r2, r3, r4, rf, _⟩ := B
    have f0 := rf 0; have f1 := rf 1; have f2 := rf 2; have f3 := rf 3; have f4 := rf 4
    clear rf hb
    have HB := Lib.hid hB; clear hB
    go_wp2
    exact bodyPost_ret (v := .agg #[.int .i64 f, .int .i64 t, .bool true, .int .i64 0, .int .u64 0]) (by simp [results, Try.results14, go_sem, q0, q1, q2, q3, q4]) rfl ⟨rfl, HB.out⟩
/-- what a walk over linear knows -/
structure LinAt (w : World) (f t : Int) (bp op bn on : Nat) (p n : Rw) (wx : World) : Prop where
  h0 : wx.cell? ⟨w.heap.size, 0, none⟩ = some (.int .i64 f)
  h1 : wx.cell? ⟨w.heap.size, 1, none⟩ = some (.int .i64 t)
  h2 : wx.cell? ⟨w.heap.size, 2, none⟩ = some (.bool false)
  h3 : wx.cell? ⟨w.heap.size, 3, none⟩ = some (.int .i64 0)
  h4 : wx.cell? ⟨w.heap.size, 4, none⟩ = some (.int .u64 0)
  h5 : wx.cell? ⟨w.heap.size, 5, none⟩ = some (.pointer (some ⟨bp, op, none⟩))
  h6 : wx.cell? ⟨w.heap.size, 6, none⟩ = some (.pointer (some ⟨bn, on, none⟩))
  hf : ∀ k, wx.frozen? ⟨w.heap.size, k, none⟩ = false
  p0 : wx.cell? ⟨bp, op, none⟩ = some (.int .i64 p.f)
  p3 : wx.cell? ⟨bp, op + 3, none⟩ = some (.int .i64 (hiW p.v))
  p4 : wx.cell? ⟨bp, op + 4, none⟩ = some (.int .u64 (loW p.v))
  n0 : wx.cell? ⟨bn, on, none⟩ = some (.int .i64 n.f)
  n3 : wx.cell? ⟨bn, on + 3, none⟩ = some (.int .i64 (hiW n.v))
  n4 : wx.cell? ⟨bn, on + 4, none⟩ = some (.int .u64 (loW n.v))
  blank : RowBlank wx (w.heap.size + 1)
  bel : Below w.heap.size w wx
theorem RowBlank.put {w : World} {g b : Nat} (h : RowBlank w g) (hne : g ≠ b) (k : Nat) (u : Value) : RowBlank (w.setCell ⟨b, k, none⟩ u) g :=
  ⟨cell_set h.c0 hne, cell_set h.c1 hne, cell_set h.c2 hne, cell_set h.c3 hne, cell_set h.c4 hne, fun j => (World.frozen?_of_block (Below.heap_setCell w ⟨b, k, none⟩ u g (by simpa using hne))).trans (h.fr j), by simpa [World.setCell] using h.lt⟩
theorem LinAt.be {w : World} {f t : Int} {bp op bn on : Nat} {p n : Rw} {wx wy : World} (h : LinAt w f t bp op bn on p n wx) (hb : Below wx.heap.size wx wy) : LinAt w f t bp op bn on p n wy :=
  ⟨cell_be hb h.h0, cell_be hb h.h1, cell_be hb h.h2, cell_be hb h.h3, cell_be hb h.h4, cell_be hb h.h5, cell_be hb h.h6, fun k => frozen_be hb (by have := h.blank.lt; omega) (h.hf k),
    cell_be hb h.p0, cell_be hb h.p3, cell_be hb h.p4, cell_be hb h.n0, cell_be hb h.n3, cell_be hb h.n4, h.blank.be hb, bel_step h.bel (Nat.le_refl _) hb⟩
set_option maxRecDepth 100000 in
set_option maxHeartbeats 4000000 in
theorem lin_some (f t : Int) (bp op bn on : Nat) (p n : Rw) (w : World) (hp0 : w.cell? ⟨bp, op, none⟩ = some (.int .i64 p.f)) (hp3 : w.cell? ⟨bp, op + 3, none⟩ = some (.int .i64 (hiW p.v))) (hp4 : w.cell? ⟨bp, op + 4, none⟩ = some (.int .u64 (loW p.v)))
    (hn0 : w.cell? ⟨bn, on, none⟩ = some (.int .i64 n.f)) (hn3 : w.cell? ⟨bn, on + 3, none⟩ = some (.int .i64 (hiW n.v))) (hn4 : w.cell? ⟨bn, on + 4, none⟩ = some (.int .u64 (loW n.v)))
    (vp : fits p.v) (vn : fits n.v) (b1 : IntKind.i64.wrap (f - p.f) = f - p.f) (b2 : IntKind.i64.wrap (n.f - p.f) = n.f - p.f) (b3 : -9223372036854775808 ≤ f - p.f) (b4 : f - p.f ≤ 9223372036854775807) (b5 : 0 < n.f - p.f) (b6 : n.f - p.f ≤ 9223372036854775807)
    (d x q s : Int) (k1 k2 : Bool) (hd : sumOf (n.v - p.v) = d) (hk1 : decide (fits (n.v - p.v)) = k1) (hx : sumOf (d * (f - p.f)) = x) (hk2 : decide (fits (d * (f - p.f))) = k2) (hq : x / (n.f - p.f) = q) (hs : sumOf (p.v + q) = s) (fd : fits d) (fx : fits x) (fq : fits q) (res : Rw) (hres : (if k1 && k2 then (⟨f, t, false, s⟩ : Rw) else nullRow f t) = res) :
    Calls Try.prog 14 #[holeV f t (.pointer (some ⟨bp, op, none⟩)) (.pointer (some ⟨bn, on, none⟩))] w (TellPost w res) := by
  have HR := Lib.hid hres; clear hres
  have HN := Lib.hid (fun w => null_any f t (.pointer (some ⟨bp, op, none⟩)) (.pointer (some ⟨bn, on, none⟩)) rfl rfl w)
  have HLp := Lib.hid (fun w => lin1_any p.v w)
  have HLn := Lib.hid (fun w => lin1_any n.v w)
  have HS := Lib.hid (fun w => sub_any n.v p.v w vn vp)
  have HT := Lib.hid (fun w => times_any d (f - p.f) w fd b3 b4)
  have HDV := Lib.hid (fun w => div_any x (n.f - p.f) w fx b5 b6)
  have HA := Lib.hid (fun w => add_any p.v q w vp fq)
  rw [hd, hk1] at HS
  rw [hx, hk2] at HT
  rw [hq] at HDV
  rw [hs] at HA
  have L0 : LinAt w f t bp op bn on p n ((w.alloc (.cells #[.int .i64 f, .int .i64 t, .bool false, .int .i64 0, .int .u64 0, .pointer (some ⟨bp, op, none⟩), .pointer (some ⟨bn, on, none⟩)] 57)).alloc (.cells #[.int .i64 0, .int .i64 0, .bool false, .int .i64 0, .int .u64 0] 39)) :=
    ⟨by simp, by simp, by simp, by simp, by simp, by simp, by simp, fun k => frozen_al (by simp) (frozen_of_row _ _ _ _ _ (heap_alloc_new w _)), cell_al (cell_al hp0), cell_al (cell_al hp3), cell_al (cell_al hp4), cell_al (cell_al hn0), cell_al (cell_al hn3), cell_al (cell_al hn4), RowBlank.new _ _ _ (by simp), ((Below.refl _ _).alloc (Nat.le_refl _) _).alloc (by simp) _⟩
  obtain ⟨W0, hW0⟩ : ∃ W, W = ((w.alloc (.cells #[.int .i64 f, .int .i64 t, .bool false, .int .i64 0, .int .u64 0, .pointer (some ⟨bp, op, none⟩), .pointer (some ⟨bn, on, none⟩)] 57)).alloc (.cells #[.int .i64 0, .int .i64 0, .bool false, .int .i64 0, .int .u64 0] 39)) := ⟨_, rfl⟩
  rw [← hW0] at L0
  clear hp0 hp3 hp4 hn0 hn3 hn4 hd hk1 hx hk2 hq hs vp vn b3 b4 b5 b6 fd fx fq
  unfold holeV TellPost at *
  rw [null_val] at *
  have B1 := Lib.hid b1; clear b1
  have B2 := Lib.hid b2; clear b2
  go_enter Try.func14, Try.ntmps14
  go_upto_region 4 with fail
  rw [← hW0]
  clear hW0
  have L0' := L0
  obtain ⟨h0, h1, h2, h3, h4, h5, h6, hf, p0, p3, p4, n0, n3, n4, hbl, hbel⟩ := L0'; have lp : bp < W0.heap.size := World.block_lt_of_cell? W0 _ p0; have ln : bn < W0.heap.size := World.block_lt_of_cell? W0 _ n0; have lh : w.heap.size + 1 < W0.heap.size := hbl.lt
  go_cut [5, 4] (fun s5 s4 wx => s5 = .bool k1 ∧ ∃ g, s4 = .pointer (some ⟨g, 0, none⟩) ∧ Below W0.heap.size W0 wx ∧ wx.cell? ⟨g, 0, none⟩ = some (.int .i64 (hiW d)) ∧ wx.cell? ⟨g, 1, none⟩ = some (.int .u64 (loW d)))
  case first =>
    go_region_held3 (fun w' => w'.cell? ⟨w.heap.size, 5, none⟩ = some (.pointer (some ⟨bp, op, none⟩)) ∧ w'.cell? ⟨w.heap.size, 6, none⟩ = some (.pointer (some ⟨bn, on, none⟩)) ∧ w'.cell? ⟨bp, op + 3, none⟩ = some (.int .i64 (hiW p.v)) ∧ w'.cell? ⟨bp, op + 4, none⟩ = some (.int .u64 (loW p.v)) ∧ w'.cell? ⟨bn, on + 3, none⟩ = some (.int .i64 (hiW n.v)) ∧ w'.cell? ⟨bn, on + 4, none⟩ = some (.int .u64 (loW n.v))) ((refine ⟨?_, ?_, ?_, ?_, ?_, ?_⟩ <;> (repeat (first | (with_reducible refine cell_dr ?_) | (with_reducible refine cell_al ?_) | (with_reducible refine cell_be hb3 ?_) | (with_reducible refine cell_be hb2 ?_) | (with_reducible refine cell_be hb1 ?_) | (with_reducible refine cell_set ?_ (by omega)))) <;> (with_reducible first | exact h5 | exact h6 | exact p3 | exact p4 | exact n3 | exact n4))) (first | (go_at_call_of 26 (Value.agg #[Value.int IntKind.i64 (hiW n.v), Value.int IntKind.u64 (loW n.v)]); refine (HLn.out _).mono ?_; rintro e q1 ⟨rfl, hb1⟩; have hz1 := hb1.size; (try simp at hz1); (try (with_reducible first | (have a0_1_0 : q1.cell? ⟨W0.heap.size, 0, none⟩ = some (.int .i64 0) := cell_be hb1 (cell_new0 rfl)) | (have a0_1_0 : q1.cell? ⟨W0.heap.size, 0, none⟩ = some (.int .i64 0) := cell_be hb1 (cell_dr (cell_new0 rfl))))); (try (with_reducible first | (have a0_1_1 : q1.cell? ⟨W0.heap.size, 1, none⟩ = some (.int .u64 0) := cell_be hb1 (cell_new1 rfl)) | (have a0_1_1 : q1.cell? ⟨W0.heap.size, 1, none⟩ = some (.int .u64 0) := cell_be hb1 (cell_dr (cell_new1 rfl))))); (try (with_reducible first | (have f0_1_0 : q1.frozen? ⟨W0.heap.size, 0, none⟩ = false := frozen_be hb1 (by simp) (frozen_new rfl 0)) | (have f0_1_0 : q1.frozen? ⟨W0.heap.size, 0, none⟩ = false := frozen_be hb1 (by simp) (frozen_dr (frozen_new rfl 0))))); (try (with_reducible first | (have f0_1_1 : q1.frozen? ⟨W0.heap.size, 1, none⟩ = false := frozen_be hb1 (by simp) (frozen_new rfl 1)) | (have f0_1_1 : q1.frozen? ⟨W0.heap.size, 1, none⟩ = false := frozen_be hb1 (by simp) (frozen_dr (frozen_new rfl 1)))))) | (go_at_call_of 26 (Value.agg #[Value.int IntKind.i64 (hiW p.v), Value.int IntKind.u64 (loW p.v)]); refine (HLp.out _).mono ?_; rintro e q2 ⟨rfl, hb2⟩; have hz2 := hb2.size; (try simp at hz2); (try (with_reducible (have a0_2_0 : q2.cell? ⟨W0.heap.size, 0, none⟩ = some (.int .i64 0) := cell_be hb2 a0_1_0))); (try (with_reducible (have a0_2_1 : q2.cell? ⟨W0.heap.size, 1, none⟩ = some (.int .u64 0) := cell_be hb2 a0_1_1))); (try (with_reducible (have f0_2_0 : q2.frozen? ⟨W0.heap.size, 0, none⟩ = false := frozen_be hb2 (World.block_lt_of_cell? _ _ a0_1_0) f0_1_0))); (try (with_reducible (have f0_2_1 : q2.frozen? ⟨W0.heap.size, 1, none⟩ = false := frozen_be hb2 (World.block_lt_of_cell? _ _ a0_1_0) f0_1_1))); (try (with_reducible first | (have a1_2_0 : q2.cell? ⟨q1.heap.size, 0, none⟩ = some (.int .i64 0) := cell_be hb2 (cell_new0 rfl)) | (have a1_2_0 : q2.cell? ⟨q1.heap.size, 0, none⟩ = some (.int .i64 0) := cell_be hb2 (cell_dr (cell_new0 rfl))))); (try (with_reducible first | (have a1_2_1 : q2.cell? ⟨q1.heap.size, 1, none⟩ = some (.int .u64 0) := cell_be hb2 (cell_new1 rfl)) | (have a1_2_1 : q2.cell? ⟨q1.heap.size, 1, none⟩ = some (.int .u64 0) := cell_be hb2 (cell_dr (cell_new1 rfl))))); (try (with_reducible first | (have f1_2_0 : q2.frozen? ⟨q1.heap.size, 0, none⟩ = false := frozen_be hb2 (by simp) (frozen_new rfl 0)) | (have f1_2_0 : q2.frozen? ⟨q1.heap.size, 0, none⟩ = false := frozen_be hb2 (by simp) (frozen_dr (frozen_new rfl 0))))); (try (with_reducible first | (have f1_2_1 : q2.frozen? ⟨q1.heap.size, 1, none⟩ = false := frozen_be hb2 (by simp) (frozen_new rfl 1)) | (have f1_2_1 : q2.frozen? ⟨q1.heap.size, 1, none⟩ = false := frozen_be hb2 (by simp) (frozen_dr (frozen_new rfl 1)))))) | (go_at_call 27; refine (HS.out _).mono ?_; rintro e q3 ⟨rfl, hb3⟩; have hz3 := hb3.size; (try simp at hz3); (try (with_reducible (have a0_3_0 : q3.cell? ⟨W0.heap.size, 0, none⟩ = some (.int .i64 0) := cell_be hb3 a0_2_0))); (try (with_reducible (have a0_3_1 : q3.cell? ⟨W0.heap.size, 1, none⟩ = some (.int .u64 0) := cell_be hb3 a0_2_1))); (try (with_reducible (have f0_3_0 : q3.frozen? ⟨W0.heap.size, 0, none⟩ = false := frozen_be hb3 (World.block_lt_of_cell? _ _ a0_2_0) f0_2_0))); (try (with_reducible (have f0_3_1 : q3.frozen? ⟨W0.heap.size, 1, none⟩ = false := frozen_be hb3 (World.block_lt_of_cell? _ _ a0_2_0) f0_2_1))); (try (with_reducible (have a1_3_0 : q3.cell? ⟨q1.heap.size, 0, none⟩ = some (.int .i64 0) := cell_be hb3 a1_2_0))); (try (with_reducible (have a1_3_1 : q3.cell? ⟨q1.heap.size, 1, none⟩ = some (.int .u64 0) := cell_be hb3 a1_2_1))); (try (with_reducible (have f1_3_0 : q3.frozen? ⟨q1.heap.size, 0, none⟩ = false := frozen_be hb3 (World.block_lt_of_cell? _ _ a1_2_0) f1_2_0))); (try (with_reducible (have f1_3_1 : q3.frozen? ⟨q1.heap.size, 1, none⟩ = false := frozen_be hb3 (World.block_lt_of_cell? _ _ a1_2_0) f1_2_1))); (try (with_reducible first | (have a2_3_0 : q3.cell? ⟨q2.heap.size, 0, none⟩ = some (.int .i64 0) := cell_be hb3 (cell_new0 rfl)) | (have a2_3_0 : q3.cell? ⟨q2.heap.size, 0, none⟩ = some (.int .i64 0) := cell_be hb3 (cell_dr (cell_new0 rfl))))); (try (with_reducible first | (have a2_3_1 : q3.cell? ⟨q2.heap.size, 1, none⟩ = some (.int .u64 0) := cell_be hb3 (cell_new1 rfl)) | (have a2_3_1 : q3.cell? ⟨q2.heap.size, 1, none⟩ = some (.int .u64 0) := cell_be hb3 (cell_dr (cell_new1 rfl))))); (try (with_reducible first | (have f2_3_0 : q3.frozen? ⟨q2.heap.size, 0, none⟩ = false := frozen_be hb3 (by simp) (frozen_new rfl 0)) | (have f2_3_0 : q3.frozen? ⟨q2.heap.size, 0, none⟩ = false := frozen_be hb3 (by simp) (frozen_dr (frozen_new rfl 0))))); (try (with_reducible first | (have f2_3_1 : q3.frozen? ⟨q2.heap.size, 1, none⟩ = false := frozen_be hb3 (by simp) (frozen_new rfl 1)) | (have f2_3_1 : q3.frozen? ⟨q2.heap.size, 1, none⟩ = false := frozen_be hb3 (by simp) (frozen_dr (frozen_new rfl 1)))))))
    · go_wp2_with fail
      go_meet
      have b0 := (Below.refl W0.heap.size W0).drew
      have b1 := bel_step b0 (Nat.le_refl _) hb1
      have b2 := bel_step b1 (Nat.le_refl _) hb2
      have b3 := bel_step b2 (Nat.le_refl _) hb3
      have bf := b3.alloc b3.size (.cells #[.int .i64 (hiW (d)), .int .u64 (loW (d))] 72)
      exact ⟨rfl, _, rfl, bf, cell_new0 rfl, cell_new1 rfl⟩
    · go_wp2_with fail
      go_meet
      have b0 := (Below.refl W0.heap.size W0).drew
      have b1 := bel_step b0 (Nat.le_refl _) hb1
      have b2 := bel_step b1 (Nat.le_refl _) hb2
      have zz := b2.size
      replace b2 := b2.alloc b2.size (.cells #[.int .i64 0, .int .u64 0] 72)
      have b3 := bel_step b2 (Nat.le_refl _) hb3
      have t := two_set (x := .int .i64 (hiW (d))) (y := .int .u64 (loW (d))) a2_3_0 a2_3_1
      exact ⟨rfl, _, rfl, (b3.setCell zz _).setCell zz _, t.1, t.2⟩
    · go_wp2_with fail
      go_meet
      have b0 := (Below.refl W0.heap.size W0).drew
      have b1 := bel_step b0 (Nat.le_refl _) hb1
      have zz := b1.size
      replace b1 := b1.alloc b1.size (.cells #[.int .i64 0, .int .u64 0] 72)
      have b2 := bel_step b1 (Nat.le_refl _) hb2
      have b3 := bel_step b2 (Nat.le_refl _) hb3
      have t := two_set (x := .int .i64 (hiW (d))) (y := .int .u64 (loW (d))) a1_3_0 a1_3_1
      exact ⟨rfl, _, rfl, (b3.setCell zz _).setCell zz _, t.1, t.2⟩
    · go_wp2_with fail
      go_meet
      have b0 := ((Below.refl W0.heap.size W0).alloc (Nat.le_refl _) (.cells #[.int .i64 0, .int .u64 0] 72)).drew
      have b1 := bel_step b0 (Nat.le_refl _) hb1
      have b2 := bel_step b1 (Nat.le_refl _) hb2
      have b3 := bel_step b2 (Nat.le_refl _) hb3
      have t := two_set (x := .int .i64 (hiW (d))) (y := .int .u64 (loW (d))) a0_3_0 a0_3_1
      exact ⟨rfl, _, rfl, (b3.setCell (Nat.le_refl _) _).setCell (Nat.le_refl _) _, t.1, t.2⟩
  case rest =>
    obtain ⟨rfl, g4, rfl, hb4, d0, d1⟩ := hcut
    have L1 := L0.be hb4
    clear L0 h0 h1 h2 h3 h4 h5 h6 hf p0 p3 p4 n0 n3 n4 hbl hbel lp ln lh hb4
    obtain ⟨W1, rfl⟩ : ∃ W, W = wc := ⟨wc, rfl⟩
    have L1' := L1
    obtain ⟨h0, h1, h2, h3, h4, h5, h6, hf, p0, p3, p4, n0, n3, n4, hbl, hbel⟩ := L1'; have lp : bp < W1.heap.size := World.block_lt_of_cell? W1 _ p0; have ln : bn < W1.heap.size := World.block_lt_of_cell? W1 _ n0; have lh : w.heap.size + 1 < W1.heap.size := hbl.lt
    cases k1 with
    | false =>
      have hres : nullRow f t = res := HR.out
      have HRN := Lib.hid hres; clear hres HR
      go_wp2_with fail
      with_reducible refine (HN.out _).mono ?_
      rintro e wz ⟨rfl, hbz⟩
      have B := hbl.be hbz
      have hz := B.lt
      obtain ⟨q0, q1, q2, q3, q4⟩ := B.set (.int .i64 f) (.int .i64 t) (.bool true) (.int .i64 0) (.int .u64 0)
      have hB := bel_setRow (bel_step hbel (Nat.le_refl _) hbz) (g := w.heap.size + 1) (by omega) (.int .i64 f) (.int .i64 t) (.bool true) (.int .i64 0) (.int .u64 0)
      unfold setRow at q0 q1 q2 q3 q4 hB
      obtain ⟨r0, r1, r2, r3, r4, rf, _⟩ := B
      have f0 := rf 0; have f1 := rf 1; have f2 := rf 2; have f3 := rf 3; have f4 := rf 4
      clear rf hbz hf
      have HB := Lib.hid hB; clear hB
      go_wp2
      exact bodyPost_ret (v := .agg #[.int .i64 f, .int .i64 t, .bool true, .int .i64 0, .int .u64 0]) (by simp [results, Try.results14, go_sem, q0, q1, q2, q3, q4]) rfl ⟨by rw [← HRN.out, null_val], HB.out⟩
    | true =>
      have lg : g4 < W1.heap.size := World.block_lt_of_cell? W1 _ d0
      go_upto_region 7 with fail
      go_cut [5, 6] (fun s5 s6 wx => s5 = .bool k2 ∧ ∃ g, s6 = .pointer (some ⟨g, 0, none⟩) ∧ Below W1.heap.size W1 wx ∧ wx.cell? ⟨g, 0, none⟩ = some (.int .i64 (hiW x)) ∧ wx.cell? ⟨g, 1, none⟩ = some (.int .u64 (loW x)))
      case first =>
        have b1 := B1.out
        go_region_held3 (fun w' => w'.cell? ⟨w.heap.size, 0, none⟩ = some (.int .i64 f) ∧ w'.cell? ⟨w.heap.size, 5, none⟩ = some (.pointer (some ⟨bp, op, none⟩)) ∧ w'.cell? ⟨bp, op, none⟩ = some (.int .i64 p.f) ∧ w'.cell? ⟨g4, 0, none⟩ = some (.int .i64 (hiW d)) ∧ w'.cell? ⟨g4, 1, none⟩ = some (.int .u64 (loW d))) ((refine ⟨?_, ?_, ?_, ?_, ?_⟩ <;> (repeat (first | (with_reducible refine cell_dr ?_) | (with_reducible refine cell_al ?_) | (with_reducible refine cell_be hb1 ?_) | (with_reducible refine cell_set ?_ (by omega)))) <;> (with_reducible first | exact h0 | exact h5 | exact p0 | exact d0 | exact d1))) (first | (go_at_call 28; refine (HT.out _).mono ?_; rintro e q1 ⟨rfl, hb1⟩; have hz1 := hb1.size; (try simp at hz1); (try (with_reducible first | (have a0_1_0 : q1.cell? ⟨W1.heap.size, 0, none⟩ = some (.int .i64 0) := cell_be hb1 (cell_new0 rfl)) | (have a0_1_0 : q1.cell? ⟨W1.heap.size, 0, none⟩ = some (.int .i64 0) := cell_be hb1 (cell_dr (cell_new0 rfl))))); (try (with_reducible first | (have a0_1_1 : q1.cell? ⟨W1.heap.size, 1, none⟩ = some (.int .u64 0) := cell_be hb1 (cell_new1 rfl)) | (have a0_1_1 : q1.cell? ⟨W1.heap.size, 1, none⟩ = some (.int .u64 0) := cell_be hb1 (cell_dr (cell_new1 rfl))))); (try (with_reducible first | (have f0_1_0 : q1.frozen? ⟨W1.heap.size, 0, none⟩ = false := frozen_be hb1 (by simp) (frozen_new rfl 0)) | (have f0_1_0 : q1.frozen? ⟨W1.heap.size, 0, none⟩ = false := frozen_be hb1 (by simp) (frozen_dr (frozen_new rfl 0))))); (try (with_reducible first | (have f0_1_1 : q1.frozen? ⟨W1.heap.size, 1, none⟩ = false := frozen_be hb1 (by simp) (frozen_new rfl 1)) | (have f0_1_1 : q1.frozen? ⟨W1.heap.size, 1, none⟩ = false := frozen_be hb1 (by simp) (frozen_dr (frozen_new rfl 1)))))))
        · go_wp2_with fail
          go_meet
          have b0 := (Below.refl W1.heap.size W1).drew
          have b1 := bel_step b0 (Nat.le_refl _) hb1
          have bf := b1.alloc b1.size (.cells #[.int .i64 (hiW (x)), .int .u64 (loW (x))] 72)
          exact ⟨rfl, _, rfl, bf, cell_new0 rfl, cell_new1 rfl⟩
        · go_wp2_with fail
          go_meet
          have b0 := ((Below.refl W1.heap.size W1).alloc (Nat.le_refl _) (.cells #[.int .i64 0, .int .u64 0] 72)).drew
          have b1 := bel_step b0 (Nat.le_refl _) hb1
          have t := two_set (x := .int .i64 (hiW (x))) (y := .int .u64 (loW (x))) a0_1_0 a0_1_1
          exact ⟨rfl, _, rfl, (b1.setCell (Nat.le_refl _) _).setCell (Nat.le_refl _) _, t.1, t.2⟩
      case rest =>
        obtain ⟨rfl, g6, rfl, hb6, x0, x1⟩ := hcut
        have L2 := L1.be hb6
        clear L1 h0 h1 h2 h3 h4 h5 h6 hf p0 p3 p4 n0 n3 n4 hbl hbel lp ln lh hb6 d0 d1 lg
        obtain ⟨W2, rfl⟩ : ∃ W, W = wc := ⟨wc, rfl⟩
        have L2' := L2
        obtain ⟨h0, h1, h2, h3, h4, h5, h6, hf, p0, p3, p4, n0, n3, n4, hbl, hbel⟩ := L2'; have lp : bp < W2.heap.size := World.block_lt_of_cell? W2 _ p0; have ln : bn < W2.heap.size := World.block_lt_of_cell? W2 _ n0; have lh : w.heap.size + 1 < W2.heap.size := hbl.lt
        cases k2 with
        | false =>
          have hres : nullRow f t = res := HR.out
          have HRN := Lib.hid hres; clear hres HR
          go_wp2_with fail
          with_reducible refine (HN.out _).mono ?_
          rintro e wz ⟨rfl, hbz⟩
          have B := hbl.be hbz
          have hz := B.lt
          obtain ⟨q0, q1, q2, q3, q4⟩ := B.set (.int .i64 f) (.int .i64 t) (.bool true) (.int .i64 0) (.int .u64 0)
          have hB := bel_setRow (bel_step hbel (Nat.le_refl _) hbz) (g := w.heap.size + 1) (by omega) (.int .i64 f) (.int .i64 t) (.bool true) (.int .i64 0) (.int .u64 0)
          unfold setRow at q0 q1 q2 q3 q4 hB
          obtain ⟨r0, r1, r2, r3, r4, rf, _⟩ := B
          have f0 := rf 0; have f1 := rf 1; have f2 := rf 2; have f3 := rf 3; have f4 := rf 4
          clear rf hbz hf
          have HB := Lib.hid hB; clear hB
          go_wp2
          exact bodyPost_ret (v := .agg #[.int .i64 f, .int .i64 t, .bool true, .int .i64 0, .int .u64 0]) (by simp [results, Try.results14, go_sem, q0, q1, q2, q3, q4]) rfl ⟨by rw [← HRN.out, null_val], HB.out⟩
        | true =>
          have hres : (⟨f, t, false, s⟩ : Rw) = res := HR.out
          have HRS := Lib.hid hres; clear hres HR
          have lg : g6 < W2.heap.size := World.block_lt_of_cell? W2 _ x0
          go_upto_region 10 with fail
          go_cut [7] (fun s7 wx => ∃ g, s7 = .pointer (some ⟨g, 0, none⟩) ∧ Below W2.heap.size W2 wx ∧ wx.cell? ⟨g, 0, none⟩ = some (.int .i64 (hiW q)) ∧ wx.cell? ⟨g, 1, none⟩ = some (.int .u64 (loW q)))
          case first =>
            have b2 := B2.out
            go_region_held3 (fun w' => w'.cell? ⟨w.heap.size, 5, none⟩ = some (.pointer (some ⟨bp, op, none⟩)) ∧ w'.cell? ⟨w.heap.size, 6, none⟩ = some (.pointer (some ⟨bn, on, none⟩)) ∧ w'.cell? ⟨bp, op, none⟩ = some (.int .i64 p.f) ∧ w'.cell? ⟨bn, on, none⟩ = some (.int .i64 n.f) ∧ w'.cell? ⟨g6, 0, none⟩ = some (.int .i64 (hiW x)) ∧ w'.cell? ⟨g6, 1, none⟩ = some (.int .u64 (loW x))) ((refine ⟨?_, ?_, ?_, ?_, ?_, ?_⟩ <;> (repeat (first | (with_reducible refine cell_dr ?_) | (with_reducible refine cell_al ?_) | (with_reducible refine cell_be hb1 ?_) | (with_reducible refine cell_set ?_ (by omega)))) <;> (with_reducible first | exact h5 | exact h6 | exact p0 | exact n0 | exact x0 | exact x1))) (first | (go_at_call 29; refine (HDV.out _).mono ?_; rintro e q1 ⟨rfl, hb1⟩; have hz1 := hb1.size; (try simp at hz1); (try (with_reducible first | (have a0_1_0 : q1.cell? ⟨W2.heap.size, 0, none⟩ = some (.int .i64 0) := cell_be hb1 (cell_new0 rfl)) | (have a0_1_0 : q1.cell? ⟨W2.heap.size, 0, none⟩ = some (.int .i64 0) := cell_be hb1 (cell_dr (cell_new0 rfl))))); (try (with_reducible first | (have a0_1_1 : q1.cell? ⟨W2.heap.size, 1, none⟩ = some (.int .u64 0) := cell_be hb1 (cell_new1 rfl)) | (have a0_1_1 : q1.cell? ⟨W2.heap.size, 1, none⟩ = some (.int .u64 0) := cell_be hb1 (cell_dr (cell_new1 rfl))))); (try (with_reducible first | (have f0_1_0 : q1.frozen? ⟨W2.heap.size, 0, none⟩ = false := frozen_be hb1 (by simp) (frozen_new rfl 0)) | (have f0_1_0 : q1.frozen? ⟨W2.heap.size, 0, none⟩ = false := frozen_be hb1 (by simp) (frozen_dr (frozen_new rfl 0))))); (try (with_reducible first | (have f0_1_1 : q1.frozen? ⟨W2.heap.size, 1, none⟩ = false := frozen_be hb1 (by simp) (frozen_new rfl 1)) | (have f0_1_1 : q1.frozen? ⟨W2.heap.size, 1, none⟩ = false := frozen_be hb1 (by simp) (frozen_dr (frozen_new rfl 1)))))))
            · go_wp2_with fail
              go_meet
              have b0 := (Below.refl W2.heap.size W2).drew
              have b1 := bel_step b0 (Nat.le_refl _) hb1
              have bf := b1.alloc b1.size (.cells #[.int .i64 (hiW (q)), .int .u64 (loW (q))] 72)
              exact ⟨_, rfl, bf, cell_new0 rfl, cell_new1 rfl⟩
            · go_wp2_with fail
              go_meet
              have b0 := ((Below.refl W2.heap.size W2).alloc (Nat.le_refl _) (.cells #[.int .i64 0, .int .u64 0] 72)).drew
              have b1 := bel_step b0 (Nat.le_refl _) hb1
              have t := two_set (x := .int .i64 (hiW (q))) (y := .int .u64 (loW (q))) a0_1_0 a0_1_1
              exact ⟨_, rfl, (b1.setCell (Nat.le_refl _) _).setCell (Nat.le_refl _) _, t.1, t.2⟩
          case rest =>
            obtain ⟨g7, rfl, hb7, y0, y1⟩ := hcut
            have L3 := L2.be hb7
            clear L2 h0 h1 h2 h3 h4 h5 h6 hf p0 p3 p4 n0 n3 n4 hbl hbel lp ln lh hb7 x0 x1 lg
            obtain ⟨W3, rfl⟩ : ∃ W, W = wc := ⟨wc, rfl⟩
            have L3' := L3
            obtain ⟨h0, h1, h2, h3, h4, h5, h6, hf, p0, p3, p4, n0, n3, n4, hbl, hbel⟩ := L3'; have lp : bp < W3.heap.size := World.block_lt_of_cell? W3 _ p0; have ln : bn < W3.heap.size := World.block_lt_of_cell? W3 _ n0; have lh : w.heap.size + 1 < W3.heap.size := hbl.lt
            have lg : g7 < W3.heap.size := World.block_lt_of_cell? W3 _ y0
            go_upto_region 11 with fail
            go_cut [10] (fun s10 wx => ∃ g, s10 = .pointer (some ⟨g, 0, none⟩) ∧ Below W3.heap.size W3 wx ∧ wx.cell? ⟨g, 0, none⟩ = some (.int .i64 (hiW s)) ∧ wx.cell? ⟨g, 1, none⟩ = some (.int .u64 (loW s)))
            case first =>
              go_region_held3 (fun w' => w'.cell? ⟨w.heap.size, 5, none⟩ = some (.pointer (some ⟨bp, op, none⟩)) ∧ w'.cell? ⟨bp, op + 3, none⟩ = some (.int .i64 (hiW p.v)) ∧ w'.cell? ⟨bp, op + 4, none⟩ = some (.int .u64 (loW p.v)) ∧ w'.cell? ⟨g7, 0, none⟩ = some (.int .i64 (hiW q)) ∧ w'.cell? ⟨g7, 1, none⟩ = some (.int .u64 (loW q))) ((refine ⟨?_, ?_, ?_, ?_, ?_⟩ <;> (repeat (first | (with_reducible refine cell_dr ?_) | (with_reducible refine cell_al ?_) | (with_reducible refine cell_be hb2 ?_) | (with_reducible refine cell_be hb1 ?_) | (with_reducible refine cell_set ?_ (by omega)))) <;> (with_reducible first | exact h5 | exact p3 | exact p4 | exact y0 | exact y1))) (first | (go_at_call_of 26 (Value.agg #[Value.int IntKind.i64 (hiW p.v), Value.int IntKind.u64 (loW p.v)]); refine (HLp.out _).mono ?_; rintro e q1 ⟨rfl, hb1⟩; have hz1 := hb1.size; (try simp at hz1); (try (with_reducible first | (have a0_1_0 : q1.cell? ⟨W3.heap.size, 0, none⟩ = some (.int .i64 0) := cell_be hb1 (cell_new0 rfl)) | (have a0_1_0 : q1.cell? ⟨W3.heap.size, 0, none⟩ = some (.int .i64 0) := cell_be hb1 (cell_dr (cell_new0 rfl))))); (try (with_reducible first | (have a0_1_1 : q1.cell? ⟨W3.heap.size, 1, none⟩ = some (.int .u64 0) := cell_be hb1 (cell_new1 rfl)) | (have a0_1_1 : q1.cell? ⟨W3.heap.size, 1, none⟩ = some (.int .u64 0) := cell_be hb1 (cell_dr (cell_new1 rfl))))); (try (with_reducible first | (have f0_1_0 : q1.frozen? ⟨W3.heap.size, 0, none⟩ = false := frozen_be hb1 (by simp) (frozen_new rfl 0)) | (have f0_1_0 : q1.frozen? ⟨W3.heap.size, 0, none⟩ = false := frozen_be hb1 (by simp) (frozen_dr (frozen_new rfl 0))))); (try (with_reducible first | (have f0_1_1 : q1.frozen? ⟨W3.heap.size, 1, none⟩ = false := frozen_be hb1 (by simp) (frozen_new rfl 1)) | (have f0_1_1 : q1.frozen? ⟨W3.heap.size, 1, none⟩ = false := frozen_be hb1 (by simp) (frozen_dr (frozen_new rfl 1)))))) | (go_at_call 30; refine (HA.out _).mono ?_; rintro e q2 ⟨rfl, hb2⟩; have hz2 := hb2.size; (try simp at hz2); (try (with_reducible (have a0_2_0 : q2.cell? ⟨W3.heap.size, 0, none⟩ = some (.int .i64 0) := cell_be hb2 a0_1_0))); (try (with_reducible (have a0_2_1 : q2.cell? ⟨W3.heap.size, 1, none⟩ = some (.int .u64 0) := cell_be hb2 a0_1_1))); (try (with_reducible (have f0_2_0 : q2.frozen? ⟨W3.heap.size, 0, none⟩ = false := frozen_be hb2 (World.block_lt_of_cell? _ _ a0_1_0) f0_1_0))); (try (with_reducible (have f0_2_1 : q2.frozen? ⟨W3.heap.size, 1, none⟩ = false := frozen_be hb2 (World.block_lt_of_cell? _ _ a0_1_0) f0_1_1))); (try (with_reducible first | (have a1_2_0 : q2.cell? ⟨q1.heap.size, 0, none⟩ = some (.int .i64 0) := cell_be hb2 (cell_new0 rfl)) | (have a1_2_0 : q2.cell? ⟨q1.heap.size, 0, none⟩ = some (.int .i64 0) := cell_be hb2 (cell_dr (cell_new0 rfl))))); (try (with_reducible first | (have a1_2_1 : q2.cell? ⟨q1.heap.size, 1, none⟩ = some (.int .u64 0) := cell_be hb2 (cell_new1 rfl)) | (have a1_2_1 : q2.cell? ⟨q1.heap.size, 1, none⟩ = some (.int .u64 0) := cell_be hb2 (cell_dr (cell_new1 rfl))))); (try (with_reducible first | (have f1_2_0 : q2.frozen? ⟨q1.heap.size, 0, none⟩ = false := frozen_be hb2 (by simp) (frozen_new rfl 0)) | (have f1_2_0 : q2.frozen? ⟨q1.heap.size, 0, none⟩ = false := frozen_be hb2 (by simp) (frozen_dr (frozen_new rfl 0))))); (try (with_reducible first | (have f1_2_1 : q2.frozen? ⟨q1.heap.size, 1, none⟩ = false := frozen_be hb2 (by simp) (frozen_new rfl 1)) | (have f1_2_1 : q2.frozen? ⟨q1.heap.size, 1, none⟩ = false := frozen_be hb2 (by simp) (frozen_dr (frozen_new rfl 1)))))))
              · go_wp2_with fail
                go_meet
                have b0 := (Below.refl W3.heap.size W3).drew
                have b1 := bel_step b0 (Nat.le_refl _) hb1
                have b2 := bel_step b1 (Nat.le_refl _) hb2
                have bf := b2.alloc b2.size (.cells #[.int .i64 (hiW (s)), .int .u64 (loW (s))] 72)
                exact ⟨_, rfl, bf, cell_new0 rfl, cell_new1 rfl⟩
              · go_wp2_with fail
                go_meet
                have b0 := (Below.refl W3.heap.size W3).drew
                have b1 := bel_step b0 (Nat.le_refl _) hb1
                have zz := b1.size
                replace b1 := b1.alloc b1.size (.cells #[.int .i64 0, .int .u64 0] 72)
                have b2 := bel_step b1 (Nat.le_refl _) hb2
                have t := two_set (x := .int .i64 (hiW (s))) (y := .int .u64 (loW (s))) a1_2_0 a1_2_1
                exact ⟨_, rfl, (b2.setCell zz _).setCell zz _, t.1, t.2⟩
              · go_wp2_with fail
                go_meet
                have b0 := ((Below.refl W3.heap.size W3).alloc (Nat.le_refl _) (.cells #[.int .i64 0, .int .u64 0] 72)).drew
                have b1 := bel_step b0 (Nat.le_refl _) hb1
                have b2 := bel_step b1 (Nat.le_refl _) hb2
                have t := two_set (x := .int .i64 (hiW (s))) (y := .int .u64 (loW (s))) a0_2_0 a0_2_1
                exact ⟨_, rfl, (b2.setCell (Nat.le_refl _) _).setCell (Nat.le_refl _) _, t.1, t.2⟩
            case rest =>
              obtain ⟨g10, rfl, hb10, s0, s1⟩ := hcut
              have L4 := L3.be hb10
              clear L3 h0 h1 h2 h3 h4 h5 h6 hf p0 p3 p4 n0 n3 n4 hbl hbel lp ln lh hb10 y0 y1 lg
              obtain ⟨W4, rfl⟩ : ∃ W, W = wc := ⟨wc, rfl⟩
              obtain ⟨h0, h1, h2, h3, h4, h5, h6, hf, p0, p3, p4, n0, n3, n4, hbl, hbel⟩ := L4; have lp : bp < W4.heap.size := World.block_lt_of_cell? W4 _ p0; have ln : bn < W4.heap.size := World.block_lt_of_cell? W4 _ n0; have lh : w.heap.size + 1 < W4.heap.size := hbl.lt
              have lh2 : w.heap.size < W4.heap.size := by omega
              have k3 := hf 3
              have k4 := hf 4
              have B := (hbl.put (b := w.heap.size) (by omega) 3 (.int .i64 (hiW s))).put (b := w.heap.size) (by omega) 4 (.int .u64 (loW s))
              obtain ⟨t0, t1, t2, t3, t4⟩ := B.set (.int .i64 f) (.int .i64 t) (.bool false) (.int .i64 (hiW s)) (.int .u64 (loW s))
              have hB := bel_setRow ((hbel.setCell (p := ⟨w.heap.size, 3, none⟩) (Nat.le_refl _) (.int .i64 (hiW s))).setCell (p := ⟨w.heap.size, 4, none⟩) (Nat.le_refl _) (.int .u64 (loW s))) (g := w.heap.size + 1) (by omega) (.int .i64 f) (.int .i64 t) (.bool false) (.int .i64 (hiW s)) (.int .u64 (loW s))
              unfold setRow at t0 t1 t2 t3 t4 hB
              obtain ⟨r0, r1, r2, r3, r4, rf, lb⟩ := B
              have f0 := rf 0; have f1 := rf 1; have f2 := rf 2; have f3 := rf 3; have f4 := rf 4
              clear rf hf
              have HB := Lib.hid hB; clear hB
              go_wp2
              exact bodyPost_ret (v := .agg #[.int .i64 f, .int .i64 t, .bool false, .int .i64 (hiW s), .int .u64 (loW s)]) (by simp [results, Try.results14, go_sem, t0, t1, t2, t3, t4]) rfl ⟨by rw [← HRS.out]; rfl, HB.out⟩
end Go.Proofs.Ytljepnonigjcbaa

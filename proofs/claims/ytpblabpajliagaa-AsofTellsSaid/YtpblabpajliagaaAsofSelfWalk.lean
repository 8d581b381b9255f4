/- The walk of AsofSelf: it returns true for any list and tolerance. -/
import Derived.Test.YtpblabpajliagaaAsofRows
import Derived.Test.YtpblabpajliagaaAsofNo
import Derived.Test.YtpblabpajliagaaWordMath
namespace Go.Proofs.Ytpblabpajliagaa
open Go.RowKit
set_option linter.unusedVariables false

theorem pt_one (w : World) (t v s : Int) : Pts (w.alloc (.cells #[.int .i64 t, .int .i64 v, .int .i64 s] 29)) (some ⟨w.heap.size, 0, none⟩) 1 (fun _ => ⟨t, v, s⟩) := by
  intro _
  refine ⟨w.heap.size, 0, rfl, by simp, fun j hj => ?_⟩
  rcases (show j = 0 ∨ j = 1 ∨ j = 2 by omega) with rfl | rfl | rfl <;> simp [ptCell]
theorem joinP_self (a : Nat → Pt) (n : Nat) (T : Int) (hr : rises n a) (hT : 0 ≤ T) (i : Nat) (hi : i < n) : joinP a n T (a i) = ⟨a i, a i, true⟩ := by
  have e : nxt a n (a i).t = i + 1 := by
    refine nxt_of a n (i + 1) _ (by omega) (fun _ => by rw [Nat.add_sub_cancel]; exact Int.le_refl _) (fun j h1 h2 => rises_lt hr i j (by omega) h2)
  unfold joinP
  rw [e, Nat.add_sub_cancel, if_pos ⟨by omega, by omega⟩]
theorem joinP_none (b : Nat → Pt) (T : Int) (p : Pt) : joinP b 0 T p = ⟨p, ⟨0, 0, 0⟩, false⟩ := by
  unfold joinP; rw [if_neg (by simp [nxt])]
theorem rises_c (p : Pt) (h : isTime p.t) : rises 1 (fun _ => p) := fun i hi => ⟨h, fun h0 => by omega⟩
theorem ok_of {n : Nat} {a : Nat → Pt} {m : Nat} {b : Nat → Pt} {T : Int} (h1 : rises n a) (h2 : rises m b) (h3 : 0 ≤ T) (h4 : T ≤ 1152921504606846976) : joinOk n a m b T := ⟨h1, h2, h3, h4⟩
theorem no_of {n : Nat} {a : Nat → Pt} {m : Nat} {b : Nat → Pt} {T : Int} (h : ¬ rises n a) : ¬ joinOk n a m b T := fun k => h k.1
theorem rises_0 (a : Nat → Pt) : rises 0 a := fun i hi => by omega
theorem Pts.zero (w : World) (A : Option Addr) (a : Nat → Pt) : Pts w A 0 a := Cells.zero _ _ _
theorem join_two (A B : Option Addr) (w : World) (hA : Pts w A 1 (fun _ => ⟨1, 3, 0⟩)) (hB : Pts w B 1 (fun _ => ⟨1, 5, 0⟩)) :
    Calls Try.prog 6 #[.slice A 1 1, .slice B 1 1, .int .i64 0] w (JoinPost w [⟨⟨1, 3, 0⟩, ⟨1, 5, 0⟩, true⟩] 0) := by
  have h := join_yes A B 1 1 1 1 (fun _ => ⟨1, 3, 0⟩) (fun _ => ⟨1, 5, 0⟩) 0 w hA hB (by omega) (by omega) ⟨rises_c _ ⟨by decide, by decide⟩, rises_c _ ⟨by decide, by decide⟩, by omega, by omega⟩
  have e : joinL (fun _ => ⟨1, 3, 0⟩) (fun _ => ⟨1, 5, 0⟩) 1 0 1 = [⟨⟨1, 3, 0⟩, ⟨1, 5, 0⟩, true⟩] := by
    simp [joinL, joinP, nxt]
  rw [e] at h
  exact h
def IdxAt (w1 : World) (n : Nat) (i : Value) (wr : World) : Prop := ∃ k nn : Nat, k ≤ n ∧ i = .int .i64 k ∧ wr = w1.drewN nn
set_option maxRecDepth 100000 in
set_option maxHeartbeats 4000000 in
theorem self_at (w : World) (A : Option Addr) (n c : Nat) (a : Nat → Pt) (hA : Pts w A n a) (hn : n ≤ 150) (hbd : ∀ j, j < n → in64 (a j).t ∧ in64 (a j).v ∧ in64 (a j).s) (t T : Int) (e0 : bits BinOp.and IntKind.i64 t 65535 = T) (h0 : 0 ≤ T) (h1 : T ≤ 65535) :
    Calls Try.prog 5 #[.slice A n c, .int .i64 t] w fun e w' => e = .returned (.bool true) ∧ Below w.heap.size w w' := by
  have DA := Lib.hid hbd; clear hbd
  have PA := Lib.hid hA; clear hA
  have d0 : decide (150 < (n : Int)) = false := by simp; omega
  by_cases hr : rises n a
  · have RA := Lib.hid hr; clear hr
    go_enter Try.func5, Try.ntmps5
    go_wp2_with fail
    with_reducible refine (join_yes A A n c n c a a T w (PA.out) (PA.out) (by omega) (by omega) (ok_of RA.out RA.out (by omega) (by omega))).mono ?_
    rintro e w1 ⟨Ax, cx, rfl, hx, hb1⟩
    rw [joinL_length] at hx ⊢
    go_wp2_with fail
    with_reducible refine (join_yes A none n c 0 0 a (fun _ => ⟨0, 0, 0⟩) T w1 (PA.out.below hb1) (Pts.zero _ _ _) (by omega) (by omega) (ok_of RA.out (rises_0 _) (by omega) (by omega))).mono ?_
    rintro e w2 ⟨Ay, cy, rfl, hy, hb2⟩
    rw [joinL_length] at hy ⊢
    have hbw2 := bel_step hb1 (Nat.le_refl _) hb2
    have hx2 := own_below hx hb2
    clear hx hb1 hb2
    go_wp2_with fail
    obtain ⟨W, hW⟩ : ∃ W, W = (w2.alloc (.cells #[.int .i64 1, .int .i64 3, .int .i64 0] 29)).alloc (.cells #[.int .i64 1, .int .i64 5, .int .i64 0] 29) := ⟨_, rfl⟩
    have hbW : Below w2.heap.size w2 W := by rw [hW]; exact ((Below.refl _ _).alloc (Nat.le_refl _) _).alloc (by simp) _
    have pa : Pts W (some ⟨w2.heap.size, 0, none⟩) 1 (fun _ => ⟨1, 3, 0⟩) := by rw [hW]; exact (pt_one w2 1 3 0).below ((Below.refl _ _).alloc (Nat.le_refl _) _)
    have pb : Pts W (some ⟨w2.heap.size + 1, 0, none⟩) 1 (fun _ => ⟨1, 5, 0⟩) := by
      rw [hW]
      have := pt_one (w2.alloc (.cells #[.int .i64 1, .int .i64 3, .int .i64 0] 29)) 1 5 0
      simpa using this
    rw [← hW]
    clear hW
    with_reducible refine (join_two _ _ W pa pb).mono ?_
    rintro e w3 ⟨Ao, co, rfl, ho, hb3⟩
    have hb3' := bel_step hbW (Nat.le_refl _) hb3
    have hbw3 := bel_step hbw2 (Nat.le_refl _) hb3'
    have o0 := own_cells ho (fun j => ((prCells ⟨⟨1, 3, 0⟩, ⟨1, 5, 0⟩, true⟩)[j]?).getD undef) (fun j hj => by rcases (show j = 0 ∨ j = 1 ∨ j = 2 ∨ j = 3 ∨ j = 4 ∨ j = 5 ∨ j = 6 by simp at hj; omega) with rfl | rfl | rfl | rfl | rfl | rfl | rfl <;> rfl) (by decide)
    obtain ⟨go, oo, hAo, hgo, hco⟩ := o0
    obtain rfl := hAo
    have o6 : w3.cell? ⟨go, oo + 6, none⟩ = some (.bool true) := hco 6 (by decide)
    clear hco hgo ho hb3 hbW pa pb
    simp only [List.length_cons, List.length_nil, Nat.zero_add]
    have hx3 := own_below hx2 hb3'
    have hy3 := own_below hy hb3'
    clear hx2 hy hb3' hbw2
    have hX : Prs w3 Ax n (fun i => ⟨a i, a i, true⟩) := Prs.of_own (fun i hi => by rw [joinL_at a a n T n i hi, joinP_self a n T RA.out (by omega) i hi]) hx3
    have hY : Prs w3 Ay n (fun i => ⟨a i, ⟨0, 0, 0⟩, false⟩) := Prs.of_own (fun i hi => by rw [joinL_at a _ 0 T n i hi, joinP_none]) hy3
    have PX := Lib.hid hX; clear hX hx3
    have PY := Lib.hid hY; clear hY hy3
    go_wp2_with fail
    with_reducible refine (rows_any Ax n cx (fun i => ⟨a i, a i, true⟩) w3 PX.out (by omega) (fun i hi => ⟨(DA.out i hi).2.1, (DA.out i hi).2.1⟩)).mono ?_
    rintro e w4 ⟨Ar, cr, rfl, hr, hb4⟩
    have hbw4 := bel_step hbw3 (Nat.le_refl _) hb4
    have PX4 := Lib.hid (PX.out.below hb4)
    have PY4 := Lib.hid (PY.out.below hb4)
    have PA4 := Lib.hid (PA.out.below hbw4)
    have PR4 := Lib.hid (show Rws w4 Ar n (fun i => ⟨(a i).t, (a i).t, false, 0⟩) from Rws.of_own (fun i hi => by
      rw [rowsL_at _ n i hi]
      unfold rowOf
      simp) hr)
    clear PX PY PA hr hb4 hbw3 o6
    go_wp2_with fail
    go_loopw [12] (IdxAt w4 n) (fun i _ => n - (intOf i).toNat)
    case atStart => exact ⟨0, 0, by omega, rfl, rfl⟩
    case round =>
      obtain ⟨k, nn, hk, rfl, rfl⟩ := hrel
      by_cases hlt : k < n
      · obtain ⟨gx, ox, hAX, hgx, hcx⟩ := PX4.out (by omega)
        obtain ⟨gy, oy, hAY, hgy, hcy⟩ := PY4.out (by omega)
        obtain ⟨gr, or_, hAR, hgr, hcr⟩ := PR4.out (by omega)
        obtain ⟨ga, oa, hAA, hga, hca⟩ := PA4.out (by omega)
        subst hAX hAY hAR hAA
        obtain ⟨x0, x1, x2, x3, x4, x5, x6⟩ := Prs.at_ hcx hlt
        obtain ⟨y0, y1, y2, y3, y4, y5, y6⟩ := Prs.at_ hcy hlt
        obtain ⟨r0, r1, r2, r3, r4⟩ := Rws.at_ hcr hlt
        obtain ⟨a0, a1, a2⟩ := Pts.at_ hca hlt
        clear hcx hcy hcr hca
        have i0 : (0 : Int) ≤ (k : Int) := Int.natCast_nonneg _
        have i1 : (k : Int) < (n : Int) := by omega
        simp only [hiW_zero, loW_zero] at r3 r4
        obtain ⟨p, hp⟩ : ∃ p, p = a k := ⟨_, rfl⟩
        simp only [← hp] at x0 x1 x2 x3 x4 x5 x6 y0 y1 y2 y3 y4 y5 y6 r0 r1 r2 r3 r4 a0 a1 a2
        clear hp
        go_wp2_with fail
        go_quiet (fail)
        go_wp2
        exact ⟨⟨k + 1, _, by omega, by go_num, by first | rfl | (simp only [World.drewN_drewN]; rfl)⟩, by simp [intOf]; omega⟩
      · go_wp2
        go_ret
        exact ⟨rfl, bel_drewN hbw4 _⟩
  · have NO := Lib.hid hr; clear hr
    go_enter Try.func5, Try.ntmps5
    go_wp2_with fail
    with_reducible refine (join_no A A n c n c a a T w (PA.out) (PA.out) (by omega) (by omega) (no_of NO.out)).mono ?_
    rintro e w1 ⟨Ax, cx, rfl, hx, hb1⟩
    simp only [List.length_nil]
    go_wp2_with fail
    with_reducible refine (join_no A none n c 0 0 a (fun _ => ⟨0, 0, 0⟩) T w1 (PA.out.below hb1) (Pts.zero _ _ _) (by omega) (by omega) (no_of NO.out)).mono ?_
    rintro e w2 ⟨Ay, cy, rfl, hy, hb2⟩
    simp only [List.length_nil]
    have hbw2 := bel_step hb1 (Nat.le_refl _) hb2
    clear hx hb1 hb2 hy
    go_wp2_with fail
    obtain ⟨W, hW⟩ : ∃ W, W = (w2.alloc (.cells #[.int .i64 1, .int .i64 3, .int .i64 0] 29)).alloc (.cells #[.int .i64 1, .int .i64 5, .int .i64 0] 29) := ⟨_, rfl⟩
    have hbW : Below w2.heap.size w2 W := by rw [hW]; exact ((Below.refl _ _).alloc (Nat.le_refl _) _).alloc (by simp) _
    have pa : Pts W (some ⟨w2.heap.size, 0, none⟩) 1 (fun _ => ⟨1, 3, 0⟩) := by rw [hW]; exact (pt_one w2 1 3 0).below ((Below.refl _ _).alloc (Nat.le_refl _) _)
    have pb : Pts W (some ⟨w2.heap.size + 1, 0, none⟩) 1 (fun _ => ⟨1, 5, 0⟩) := by
      rw [hW]
      have := pt_one (w2.alloc (.cells #[.int .i64 1, .int .i64 3, .int .i64 0] 29)) 1 5 0
      simpa using this
    rw [← hW]
    clear hW
    with_reducible refine (join_two _ _ W pa pb).mono ?_
    rintro e w3 ⟨Ao, co, rfl, ho, hb3⟩
    have hb3' := bel_step hbW (Nat.le_refl _) hb3
    have hbw3 := bel_step hbw2 (Nat.le_refl _) hb3'
    have o0 := own_cells ho (fun j => ((prCells ⟨⟨1, 3, 0⟩, ⟨1, 5, 0⟩, true⟩)[j]?).getD undef) (fun j hj => by rcases (show j = 0 ∨ j = 1 ∨ j = 2 ∨ j = 3 ∨ j = 4 ∨ j = 5 ∨ j = 6 by simp at hj; omega) with rfl | rfl | rfl | rfl | rfl | rfl | rfl <;> rfl) (by decide)
    obtain ⟨go, oo, hAo, hgo, hco⟩ := o0
    obtain rfl := hAo
    have o6 : w3.cell? ⟨go, oo + 6, none⟩ = some (.bool true) := hco 6 (by decide)
    clear hco hgo ho hb3 hbW pa pb
    simp only [List.length_cons, List.length_nil, Nat.zero_add]
    go_wp2
    go_ret
    exact ⟨rfl, hbw3⟩
set_option maxRecDepth 100000 in
set_option maxHeartbeats 4000000 in
theorem self_more (w : World) (A : Option Addr) (m c : Nat) (a : Nat → Pt) (hA : Pts w A 150 a) (hm : 150 < m) (hmc : m ≤ c) (hc : c ≤ 9223372036854775807) (hbd : ∀ j, j < 150 → in64 (a j).t ∧ in64 (a j).v ∧ in64 (a j).s) (t T : Int) (e0 : bits BinOp.and IntKind.i64 t 65535 = T) (h0 : 0 ≤ T) (h1 : T ≤ 65535) :
    Calls Try.prog 5 #[.slice A m c, .int .i64 t] w fun e w' => e = .returned (.bool true) ∧ Below w.heap.size w w' := by
  obtain ⟨n, hN⟩ : ∃ n : Nat, n = 150 := ⟨_, rfl⟩
  have DA := Lib.hid (show ∀ j, j < n → in64 (a j).t ∧ in64 (a j).v ∧ in64 (a j).s by rw [hN]; exact hbd); clear hbd
  have PA := Lib.hid (show Pts w A n a by rw [hN]; exact hA); clear hA
  have hn : n ≤ 150 := by omega
  have HN := Lib.hid hN; clear hN
  have d0 : decide (150 < (m : Int)) = true := by simp; omega
  have d1 : (150 : Int) ≤ (c : Int) := by omega
  have d2 : 150 ≤ c := by omega
  by_cases hr : rises n a
  · have RA := Lib.hid hr; clear hr
    go_enter Try.func5, Try.ntmps5
    go_wp2_with fail
    rw [← HN.out]
    with_reducible refine (join_yes A A n c n c a a T w (PA.out) (PA.out) (by omega) (by omega) (ok_of RA.out RA.out (by omega) (by omega))).mono ?_
    rintro e w1 ⟨Ax, cx, rfl, hx, hb1⟩
    rw [joinL_length] at hx ⊢
    go_wp2_with fail
    with_reducible refine (join_yes A none n c 0 0 a (fun _ => ⟨0, 0, 0⟩) T w1 (PA.out.below hb1) (Pts.zero _ _ _) (by omega) (by omega) (ok_of RA.out (rises_0 _) (by omega) (by omega))).mono ?_
    rintro e w2 ⟨Ay, cy, rfl, hy, hb2⟩
    rw [joinL_length] at hy ⊢
    have hbw2 := bel_step hb1 (Nat.le_refl _) hb2
    have hx2 := own_below hx hb2
    clear hx hb1 hb2
    go_wp2_with fail
    obtain ⟨W, hW⟩ : ∃ W, W = (w2.alloc (.cells #[.int .i64 1, .int .i64 3, .int .i64 0] 29)).alloc (.cells #[.int .i64 1, .int .i64 5, .int .i64 0] 29) := ⟨_, rfl⟩
    have hbW : Below w2.heap.size w2 W := by rw [hW]; exact ((Below.refl _ _).alloc (Nat.le_refl _) _).alloc (by simp) _
    have pa : Pts W (some ⟨w2.heap.size, 0, none⟩) 1 (fun _ => ⟨1, 3, 0⟩) := by rw [hW]; exact (pt_one w2 1 3 0).below ((Below.refl _ _).alloc (Nat.le_refl _) _)
    have pb : Pts W (some ⟨w2.heap.size + 1, 0, none⟩) 1 (fun _ => ⟨1, 5, 0⟩) := by
      rw [hW]
      have := pt_one (w2.alloc (.cells #[.int .i64 1, .int .i64 3, .int .i64 0] 29)) 1 5 0
      simpa using this
    rw [← hW]
    clear hW
    with_reducible refine (join_two _ _ W pa pb).mono ?_
    rintro e w3 ⟨Ao, co, rfl, ho, hb3⟩
    have hb3' := bel_step hbW (Nat.le_refl _) hb3
    have hbw3 := bel_step hbw2 (Nat.le_refl _) hb3'
    have o0 := own_cells ho (fun j => ((prCells ⟨⟨1, 3, 0⟩, ⟨1, 5, 0⟩, true⟩)[j]?).getD undef) (fun j hj => by rcases (show j = 0 ∨ j = 1 ∨ j = 2 ∨ j = 3 ∨ j = 4 ∨ j = 5 ∨ j = 6 by simp at hj; omega) with rfl | rfl | rfl | rfl | rfl | rfl | rfl <;> rfl) (by decide)
    obtain ⟨go, oo, hAo, hgo, hco⟩ := o0
    obtain rfl := hAo
    have o6 : w3.cell? ⟨go, oo + 6, none⟩ = some (.bool true) := hco 6 (by decide)
    clear hco hgo ho hb3 hbW pa pb
    simp only [List.length_cons, List.length_nil, Nat.zero_add]
    have hx3 := own_below hx2 hb3'
    have hy3 := own_below hy hb3'
    clear hx2 hy hb3' hbw2
    have hX : Prs w3 Ax n (fun i => ⟨a i, a i, true⟩) := Prs.of_own (fun i hi => by rw [joinL_at a a n T n i hi, joinP_self a n T RA.out (by omega) i hi]) hx3
    have hY : Prs w3 Ay n (fun i => ⟨a i, ⟨0, 0, 0⟩, false⟩) := Prs.of_own (fun i hi => by rw [joinL_at a _ 0 T n i hi, joinP_none]) hy3
    have PX := Lib.hid hX; clear hX hx3
    have PY := Lib.hid hY; clear hY hy3
    go_wp2_with fail
    with_reducible refine (rows_any Ax n cx (fun i => ⟨a i, a i, true⟩) w3 PX.out (by omega) (fun i hi => ⟨(DA.out i hi).2.1, (DA.out i hi).2.1⟩)).mono ?_
    rintro e w4 ⟨Ar, cr, rfl, hr, hb4⟩
    have hbw4 := bel_step hbw3 (Nat.le_refl _) hb4
    have PX4 := Lib.hid (PX.out.below hb4)
    have PY4 := Lib.hid (PY.out.below hb4)
    have PA4 := Lib.hid (PA.out.below hbw4)
    have PR4 := Lib.hid (show Rws w4 Ar n (fun i => ⟨(a i).t, (a i).t, false, 0⟩) from Rws.of_own (fun i hi => by
      rw [rowsL_at _ n i hi]
      unfold rowOf
      simp) hr)
    clear PX PY PA hr hb4 hbw3 o6
    go_wp2_with fail
    go_loopw [12] (IdxAt w4 n) (fun i _ => n - (intOf i).toNat)
    case atStart => exact ⟨0, 0, by omega, rfl, rfl⟩
    case round =>
      obtain ⟨k, nn, hk, rfl, rfl⟩ := hrel
      by_cases hlt : k < n
      · obtain ⟨gx, ox, hAX, hgx, hcx⟩ := PX4.out (by omega)
        obtain ⟨gy, oy, hAY, hgy, hcy⟩ := PY4.out (by omega)
        obtain ⟨gr, or_, hAR, hgr, hcr⟩ := PR4.out (by omega)
        obtain ⟨ga, oa, hAA, hga, hca⟩ := PA4.out (by omega)
        subst hAX hAY hAR hAA
        obtain ⟨x0, x1, x2, x3, x4, x5, x6⟩ := Prs.at_ hcx hlt
        obtain ⟨y0, y1, y2, y3, y4, y5, y6⟩ := Prs.at_ hcy hlt
        obtain ⟨r0, r1, r2, r3, r4⟩ := Rws.at_ hcr hlt
        obtain ⟨a0, a1, a2⟩ := Pts.at_ hca hlt
        clear hcx hcy hcr hca
        have i0 : (0 : Int) ≤ (k : Int) := Int.natCast_nonneg _
        have i1 : (k : Int) < (n : Int) := by omega
        simp only [hiW_zero, loW_zero] at r3 r4
        obtain ⟨p, hp⟩ : ∃ p, p = a k := ⟨_, rfl⟩
        simp only [← hp] at x0 x1 x2 x3 x4 x5 x6 y0 y1 y2 y3 y4 y5 y6 r0 r1 r2 r3 r4 a0 a1 a2
        clear hp
        go_wp2_with fail
        go_quiet (fail)
        go_wp2
        exact ⟨⟨k + 1, _, by omega, by go_num, by first | rfl | (simp only [World.drewN_drewN]; rfl)⟩, by simp [intOf]; omega⟩
      · go_wp2
        go_ret
        exact ⟨rfl, bel_drewN hbw4 _⟩
  · have NO := Lib.hid hr; clear hr
    go_enter Try.func5, Try.ntmps5
    go_wp2_with fail
    rw [← HN.out]
    with_reducible refine (join_no A A n c n c a a T w (PA.out) (PA.out) (by omega) (by omega) (no_of NO.out)).mono ?_
    rintro e w1 ⟨Ax, cx, rfl, hx, hb1⟩
    simp only [List.length_nil]
    go_wp2_with fail
    with_reducible refine (join_no A none n c 0 0 a (fun _ => ⟨0, 0, 0⟩) T w1 (PA.out.below hb1) (Pts.zero _ _ _) (by omega) (by omega) (no_of NO.out)).mono ?_
    rintro e w2 ⟨Ay, cy, rfl, hy, hb2⟩
    simp only [List.length_nil]
    have hbw2 := bel_step hb1 (Nat.le_refl _) hb2
    clear hx hb1 hb2 hy
    go_wp2_with fail
    obtain ⟨W, hW⟩ : ∃ W, W = (w2.alloc (.cells #[.int .i64 1, .int .i64 3, .int .i64 0] 29)).alloc (.cells #[.int .i64 1, .int .i64 5, .int .i64 0] 29) := ⟨_, rfl⟩
    have hbW : Below w2.heap.size w2 W := by rw [hW]; exact ((Below.refl _ _).alloc (Nat.le_refl _) _).alloc (by simp) _
    have pa : Pts W (some ⟨w2.heap.size, 0, none⟩) 1 (fun _ => ⟨1, 3, 0⟩) := by rw [hW]; exact (pt_one w2 1 3 0).below ((Below.refl _ _).alloc (Nat.le_refl _) _)
    have pb : Pts W (some ⟨w2.heap.size + 1, 0, none⟩) 1 (fun _ => ⟨1, 5, 0⟩) := by
      rw [hW]
      have := pt_one (w2.alloc (.cells #[.int .i64 1, .int .i64 3, .int .i64 0] 29)) 1 5 0
      simpa using this
    rw [← hW]
    clear hW
    with_reducible refine (join_two _ _ W pa pb).mono ?_
    rintro e w3 ⟨Ao, co, rfl, ho, hb3⟩
    have hb3' := bel_step hbW (Nat.le_refl _) hb3
    have hbw3 := bel_step hbw2 (Nat.le_refl _) hb3'
    have o0 := own_cells ho (fun j => ((prCells ⟨⟨1, 3, 0⟩, ⟨1, 5, 0⟩, true⟩)[j]?).getD undef) (fun j hj => by rcases (show j = 0 ∨ j = 1 ∨ j = 2 ∨ j = 3 ∨ j = 4 ∨ j = 5 ∨ j = 6 by simp at hj; omega) with rfl | rfl | rfl | rfl | rfl | rfl | rfl <;> rfl) (by decide)
    obtain ⟨go, oo, hAo, hgo, hco⟩ := o0
    obtain rfl := hAo
    have o6 : w3.cell? ⟨go, oo + 6, none⟩ = some (.bool true) := hco 6 (by decide)
    clear hco hgo ho hb3 hbW pa pb
    simp only [List.length_cons, List.length_nil, Nat.zero_add]
    go_wp2
    go_ret
    exact ⟨rfl, hbw3⟩
theorem asofSelf_walk (w : World) (A : Option Addr) (n c : Nat) (a : Nat → Pt) (hA : PtsArg w A n c a) (t : Int) (ht : -9223372036854775808 ≤ t ∧ t ≤ 9223372036854775807) :
    Calls Try.prog 5 #[.slice A n c, .int .i64 t] w fun e w' => e = .returned (.bool true) ∧ Below w.heap.size w w' := by
  have e0 := WordMath.and_mask_i64 t 65535 16 (by omega) (by decide)
  rcases Nat.lt_or_ge 150 n with h | h
  · exact self_more w A n c a (Cells.take hA.pts (by omega)) h hA.le hA.max (fun j hj => hA.bd j (by omega)) t _ e0 (by omega) (by omega)
  · exact self_at w A n c a hA.pts h hA.bd t _ e0 (by omega) (by omega)
end Go.Proofs.Ytpblabpajliagaa

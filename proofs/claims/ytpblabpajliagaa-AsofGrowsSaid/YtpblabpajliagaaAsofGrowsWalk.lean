/- The walk of AsofGrows: it returns true for any two lists and any two tolerances. -/
import Derived.Test.YtpblabpajliagaaAsofGrowsMath
import Derived.Test.YtpblabpajliagaaWordMath
import Derived.Outline
namespace Go.Proofs.Ytpblabpajliagaa
open Go.RowKit
set_option linter.unusedVariables false

theorem one_pt (w : World) (t v s : Int) : Pts (w.alloc (.cells #[.int .i64 t, .int .i64 v, .int .i64 s] 29)) (some ⟨w.heap.size, 0, none⟩) 1 (fun _ => ⟨t, v, s⟩) := by
  intro _
  refine ⟨w.heap.size, 0, rfl, by simp, fun j hj => ?_⟩
  rcases (show j = 0 ∨ j = 1 ∨ j = 2 by omega) with rfl | rfl | rfl <;> simp [ptCell]
/-- the first loop's state, and the third one's -/
def IdxRel (w1 : World) (n : Nat) (i : Value) (wr : World) : Prop := ∃ k nn : Nat, k ≤ n ∧ i = .int .i64 k ∧ wr = w1.drewN nn
def FewRel (w1 : World) (B0 m K : Nat) (b : Nat → Pt) (v i : Value) (wr : World) : Prop :=
  ∃ (k k1 : Nat) (A : Option Addr) (c : Nat), k ≤ m ∧ k1 = min k K ∧ i = .int .i64 k ∧ v = .slice A k1 c ∧ wr.ownsRow w1.heap.size 29 3 (.slice A k1 c) k1 (cells3 b k1) ∧ Below w1.heap.size w1 wr

theorem rises_one (p : Pt) (h : isTime p.t) : rises 1 (fun _ => p) := fun i hi => ⟨h, fun h0 => by omega⟩
theorem join_one (A : Option Addr) (w : World) (hA : Pts w A 1 (fun _ => ⟨5, 0, 0⟩)) :
    Calls Try.prog 6 #[.slice A 1 1, .slice none 0 0, .int .i64 2] w (JoinPost w [⟨⟨5, 0, 0⟩, ⟨0, 0, 0⟩, false⟩] 0) :=
  join_yes A none 1 1 0 0 (fun _ => ⟨5, 0, 0⟩) (fun _ => ⟨0, 0, 0⟩) 2 w hA (Cells.zero _ _ _) (by omega) (by omega) ⟨rises_one _ ⟨by decide, by decide⟩, fun i hi => by omega, by omega, by omega⟩
theorem grows_ok {n m : Nat} {a b : Nat → Pt} {S : Int} (h1 : rises n a) (h2 : rises m b) (h3 : 0 ≤ S) (h4 : S ≤ 255) : joinOk n a m b S := ⟨h1, h2, h3, by omega⟩
set_option maxRecDepth 100000 in
set_option maxHeartbeats 4000000 in
theorem asofGrows_at (w : World) (A : Option Addr) (n ca : Nat) (a : Nat → Pt) (hA : PtsArg w A n ca a) (B : Option Addr) (m cb : Nat) (b : Nat → Pt) (hB : PtsArg w B m cb b) (t0 t1 u0 u1 : Int)
    (e0 : bits BinOp.and IntKind.i64 t0 255 = u0) (e1 : bits BinOp.and IntKind.i64 t1 255 = u1) (hu0 : 0 ≤ u0 ∧ u0 ≤ 255) (hu1 : 0 ≤ u1 ∧ u1 ≤ 255) :
    Calls Try.prog 3 #[.slice A n ca, .slice B m cb, .agg #[.int .i64 t0, .int .i64 t1]] w fun e w' => e = .returned (.bool true) ∧ Below w.heap.size w w' := by
  obtain ⟨pA, lA, mA, dA⟩ := hA
  obtain ⟨pB, lB, mB, dB⟩ := hB
  by_cases hn : n ≤ 150
  · by_cases hm : m ≤ 150
    · obtain ⟨u00, u01⟩ := hu0
      obtain ⟨u10, u11⟩ := hu1
      have DA := Lib.hid dA; clear dA
      have PA := Lib.hid pA; clear pA
      have PB := Lib.hid pB; clear pB
      have hst : u1 < u0 ∨ u0 ≤ u1 := by omega
      clear dB
      by_cases hr : rises n a ∧ rises m b
      · obtain ⟨hra, hrb⟩ := hr
        have RA := Lib.hid hra; clear hra
        have RB := Lib.hid hrb; clear hrb
        rcases hst with hst | hst
        · obtain ⟨S, rfl⟩ : ∃ S, S = u1 := ⟨_, rfl⟩
          obtain ⟨T, rfl⟩ : ∃ T, T = u0 := ⟨_, rfl⟩
          have hst : S ≤ T := by omega
          go_enter Try.func3, Try.ntmps3
          go_wp2_with fail
          go_quiet (fail)
          go_wp2_with fail
          obtain ⟨w1, hw1⟩ : ∃ w1, w1 = (w.alloc (.cells #[.int .i64 t0, .int .i64 t1] 23)).drewN nq := ⟨_, rfl⟩
          have hb1 : Below w.heap.size w w1 := by rw [hw1]; exact bel_drewN ((Below.refl _ _).alloc (Nat.le_refl _) _) _
          rw [← hw1]
          clear hw1
          with_reducible refine (join_yes A B n ca m cb a b S w1 (PA.out.below hb1) (PB.out.below hb1) (by omega) (by omega) (grows_ok RA.out RB.out (by omega) (by omega))).mono ?_
          rintro e w2 ⟨Ax, cx, rfl, hx, hb2⟩
          rw [joinL_length] at hx ⊢
          have hb2' := bel_step hb1 (Nat.le_refl _) hb2
          go_wp2_with fail
          with_reducible refine (join_yes A B n ca m cb a b T w2 (PA.out.below hb2') (PB.out.below hb2') (by omega) (by omega) (grows_ok RA.out RB.out (by omega) (by omega))).mono ?_
          rintro e w3 ⟨Ay, cy, rfl, hy, hb3⟩
          rw [joinL_length] at hy ⊢
          have hb3' := bel_step hb2' (Nat.le_refl _) hb3
          have hx3 := own_below hx hb3
          have hs2 := hb2.size
          have hs3 := hb3.size
          have hs1 := hb1.size
          clear hb1 hb2 hb2' hx
          go_wp2_with fail
          with_reducible refine (join_one (some ⟨w3.heap.size, 0, none⟩) _ (one_pt w3 5 0 0)).mono ?_
          rintro e w4 ⟨Ao, co, rfl, ho, hb4⟩
          have hal3 : Below w3.heap.size w3 (w3.alloc (.cells #[.int .i64 5, .int .i64 0, .int .i64 0] 29)) := (Below.refl _ _).alloc (Nat.le_refl _) _
          have hb4' := bel_step hal3 (Nat.le_refl _) hb4
          have hx4 := own_below hx3 hb4'
          have hy4 := own_below hy hb4'
          have hb4w := bel_step hb3' (Nat.le_refl _) hb4'
          have hs4 := hb4'.size
          have o0 := own_cells ho (fun j => ((prCells ⟨⟨5, 0, 0⟩, ⟨0, 0, 0⟩, false⟩)[j]?).getD undef) (fun j hj => by rcases (show j = 0 ∨ j = 1 ∨ j = 2 ∨ j = 3 ∨ j = 4 ∨ j = 5 ∨ j = 6 by simp at hj; omega) with rfl | rfl | rfl | rfl | rfl | rfl | rfl <;> rfl) (by decide)
          obtain ⟨go, oo, hAo, hgo, hco⟩ := o0
          obtain rfl := hAo
          have o6 : w4.cell? ⟨go, oo + 6, none⟩ = some (.bool false) := hco 6 (by decide)
          clear hco hgo ho hb4 hb4' hal3 hx3 hy hb3 hb3'
          simp only [List.length_cons, List.length_nil, Nat.zero_add]
          go_wp2_with fail
          have hX : Prs w4 Ax n (fun i => joinP b m S (a i)) := Prs.of_own (fun i hi => joinL_at a b m S n i hi) hx4
          have hY : Prs w4 Ay n (fun i => joinP b m T (a i)) := Prs.of_own (fun i hi => joinL_at a b m T n i hi) hy4
          have PX := Lib.hid hX; clear hX hx4
          have PY := Lib.hid hY; clear hY hy4
          have PA4 := Lib.hid (PA.out.below hb4w)
          have PB4 := Lib.hid (PB.out.below hb4w)
          clear PA PB o6
          go_loopw [15] (IdxRel w4 n) (fun i _ => n - (intOf i).toNat)
          case atStart => exact ⟨0, 0, by omega, rfl, rfl⟩
          case round =>
            obtain ⟨k, nn, hk, rfl, rfl⟩ := hrel
            by_cases hlt : k < n
            · obtain ⟨gx, ox, rfl, hgx, hcx⟩ := PX.out (by omega)
              obtain ⟨x0, x1, x2, x3, x4, x5, x6⟩ := Prs.at_ hcx hlt
              obtain ⟨gy, oy, rfl, hgy, hcy⟩ := PY.out (by omega)
              obtain ⟨y0, y1, y2, y3, y4, y5, y6⟩ := Prs.at_ hcy hlt
              obtain ⟨ga, oa, rfl, hga, hca⟩ := PA4.out (by omega)
              obtain ⟨a0, a1, a2⟩ := Pts.at_ hca hlt
              clear hcx hcy hca
              have i0 : (0 : Int) ≤ (k : Int) := Int.natCast_nonneg _
              have i1 : (k : Int) < (n : Int) := by omega
              have ht := (RA.out k hlt).1
              obtain ⟨ht1, ht2⟩ := ht
              have es : IntKind.i64.wrap ((a k).t - T) = (a k).t - T := IntWalk.i64_in _ (by omega)
              by_cases h1 : (joinP b m S (a k)).has = true
              · rw [joinP_grow b m S T (a k) hst h1] at y0 y1 y2 y3 y4 y5 y6
                obtain ⟨ej, _, f1, f2⟩ := joinP_yes b m S (a k) h1
                rw [ej] at x0 x1 x2 x3 x4 x5 x6 y0 y1 y2 y3 y4 y5 y6
                obtain ⟨p, hp⟩ : ∃ p, p = a k := ⟨_, rfl⟩
                obtain ⟨r, hr⟩ : ∃ r, r = b (nxt b m (a k).t - 1) := ⟨_, rfl⟩
                rw [← hr] at x0 x1 x2 x3 x4 x5 x6 y0 y1 y2 y3 y4 y5 y6 f1 f2
                rw [← hp] at x0 x1 x2 x3 x4 x5 x6 y0 y1 y2 y3 y4 y5 y6 f1 f2 es a0 a1 a2
                clear hp hr ej h1
                have d1 : decide (p.t < r.t) = false := by simp; omega
                have d2 : decide (r.t < p.t - T) = false := by simp; omega
                simp only at x0 x1 x2 x3 x4 x5 x6 y0 y1 y2 y3 y4 y5 y6
                go_wp2_with fail
                refine wp_region_quiet_lit (by kernel_rfl) (by kernel_rfl) ?_
                simp only [List.append]
                repeat (go_big_quiet_step (fail))
                refine wpQuiet_nil ?_
                intro _ hw'
                obtain ⟨nq, hw''⟩ := hw'
                subst hw''
                go_wp2
                exact ⟨⟨k + 1, _, by omega, by go_num, by first | rfl | (simp only [World.drewN_drewN]; rfl)⟩, by simp [intOf]; omega⟩
              · have h1' : (joinP b m S (a k)).has = false := by simpa using h1
                rw [joinP_no b m S (a k) h1'] at x0 x1 x2 x3 x4 x5 x6
                by_cases h2 : (joinP b m T (a k)).has = true
                · obtain ⟨ej, _, f1, f2⟩ := joinP_yes b m T (a k) h2
                  rw [ej] at y0 y1 y2 y3 y4 y5 y6
                  obtain ⟨p, hp⟩ : ∃ p, p = a k := ⟨_, rfl⟩
                  obtain ⟨r, hr⟩ : ∃ r, r = b (nxt b m (a k).t - 1) := ⟨_, rfl⟩
                  rw [← hr] at y0 y1 y2 y3 y4 y5 y6 f1 f2
                  rw [← hp] at x0 x1 x2 x3 x4 x5 x6 y0 y1 y2 y3 y4 y5 y6 f1 f2 es a0 a1 a2
                  clear hp hr ej h1 h2 h1'
                  have d1 : decide (p.t < r.t) = false := by simp; omega
                  have d2 : decide (r.t < p.t - T) = false := by simp; omega
                  simp only at x0 x1 x2 x3 x4 x5 x6 y0 y1 y2 y3 y4 y5 y6
                  go_wp2_with fail
                  refine wp_region_quiet_lit (by kernel_rfl) (by kernel_rfl) ?_
                  simp only [List.append]
                  repeat (go_big_quiet_step (fail))
                  refine wpQuiet_nil ?_
                  intro _ hw'
                  obtain ⟨nq, hw''⟩ := hw'
                  subst hw''
                  go_wp2
                  exact ⟨⟨k + 1, _, by omega, by go_num, by first | rfl | (simp only [World.drewN_drewN]; rfl)⟩, by simp [intOf]; omega⟩
                · have h2' : (joinP b m T (a k)).has = false := by simpa using h2
                  rw [joinP_no b m T (a k) h2'] at y0 y1 y2 y3 y4 y5 y6
                  obtain ⟨p, hp⟩ : ∃ p, p = a k := ⟨_, rfl⟩
                  rw [← hp] at x0 x1 x2 x3 x4 x5 x6 y0 y1 y2 y3 y4 y5 y6 es a0 a1 a2
                  clear hp h1 h2 h1' h2'
                  simp only at x0 x1 x2 x3 x4 x5 x6 y0 y1 y2 y3 y4 y5 y6
                  go_wp2_with fail
                  refine wp_region_quiet_lit (by kernel_rfl) (by kernel_rfl) ?_
                  simp only [List.append]
                  repeat (go_big_quiet_step (fail))
                  refine wpQuiet_nil ?_
                  intro _ hw'
                  obtain ⟨nq, hw''⟩ := hw'
                  subst hw''
                  go_wp2
                  exact ⟨⟨k + 1, _, by omega, by go_num, by first | rfl | (simp only [World.drewN_drewN]; rfl)⟩, by simp [intOf]; omega⟩
            · obtain ⟨w5, hw5⟩ : ∃ w5, w5 = w4.drewN nn := ⟨_, rfl⟩
              have hb5 : Below w.heap.size w w5 := by rw [hw5]; exact bel_drewN hb4w nn
              have PY5 := Lib.hid (show Prs w5 Ay n (fun i => joinP b m T (a i)) by rw [hw5]; exact PY.out)
              have PA5 := Lib.hid (show Pts w5 A n a by rw [hw5]; exact PA4.out)
              have PB5 := Lib.hid (show Pts w5 B m b by rw [hw5]; exact PB4.out)
              rw [← hw5]
              clear hw5 PX PY PA4 PB4 hb4w
              obtain ⟨K, hK⟩ : ∃ K, K = few n a m b := ⟨_, rfl⟩
              have hKm : K ≤ m := by rw [hK]; exact few_le n a m b
              have HK := Lib.hid hK; clear hK
              go_wp2_with fail
              go_loopw [16, 17] (FewRel w5 0 m K b) (fun _ i _ => m - (intOf i).toNat)
              case atStart => exact ⟨0, 0, none, 0, by omega, by omega, rfl, rfl, World.ownsRow_nil _ _ _ _, Below.refl _ _⟩
              case round =>
                obtain ⟨k, k1, Af, cf, hk, hk1, rfl, rfl, hown, hbel⟩ := hrel
                have HK1 := Lib.hid hk1; clear hk1
                by_cases hlt : k < m
                · obtain ⟨gb, ob, hBB, hgb, hcb⟩ := PB5.out (by omega)
                  subst hBB
                  obtain ⟨b0, b1, b2⟩ := Pts.at_ hcb hlt
                  have c0 := (hbel.cell (p := ⟨gb, ob + k * 3, none⟩) hgb).trans b0
                  have c1 := (hbel.cell (p := ⟨gb, ob + k * 3 + 1, none⟩) hgb).trans b1
                  have c2 := (hbel.cell (p := ⟨gb, ob + k * 3 + 2, none⟩) hgb).trans b2
                  clear hcb b0 b1 b2
                  have hsz := hbel.size
                  have hgb' : gb < wr.heap.size := by omega
                  have i0 : (0 : Int) ≤ (k : Int) := Int.natCast_nonneg _
                  have i1 : (k : Int) < (m : Int) := by omega
                  by_cases hn0 : 0 < n
                  · obtain ⟨n1, hn1⟩ : ∃ n1, n = n1 + 1 := ⟨n - 1, by omega⟩
                    obtain ⟨ga, oa, hAA, hga, hca⟩ := PA5.out (by omega)
                    subst hAA
                    obtain ⟨a0, _, _⟩ := Pts.at_ hca (i := n1) (by omega)
                    have c3 := (hbel.cell (p := ⟨ga, oa + n1 * 3, none⟩) hga).trans a0
                    have hga' : ga < wr.heap.size := by omega
                    have en : IntKind.i64.wrap ((n : Int) - 1) = (n1 : Int) := by rw [hn1]; rw [IntWalk.i64_in _ (by omega)]; omega
                    have p0 : (0 : Int) < (n : Int) := by omega
                    have p1 : (0 : Int) ≤ (n1 : Int) := by omega
                    have p2 : (n1 : Int) < (n : Int) := by omega
                    have htest : (b k).t ≤ (a n1).t ↔ k < K := by
                      rw [HK.out]; unfold few; rw [if_pos hn0, hn1, Nat.add_sub_cancel]; exact nxt_test b m RB.out _ k hlt
                    have HN1 := Lib.hid hn1; clear hn1 hca a0
                    by_cases hin : k < K
                    · have d1 : decide ((b k).t ≤ (a n1).t) = true := by simpa using htest.2 hin
                      have hk1 : k1 = k := by have := HK1.out; omega
                      subst hk1
                      clear htest
                      go_wp2_with fail
                      go_quiet (fail)
                      obtain ⟨wq, hwq⟩ : ∃ wq, wq = wr.drewN nq := ⟨_, rfl⟩
                      have r0 : wq.cell? ⟨gb, ob + k1 * 3, none⟩ = some (.int .i64 (b k1).t) := by rw [hwq]; exact c0
                      have r1 : wq.cell? ⟨gb, ob + k1 * 3 + 1, none⟩ = some (.int .i64 (b k1).v) := by rw [hwq]; exact c1
                      have r2 : wq.cell? ⟨gb, ob + k1 * 3 + 2, none⟩ = some (.int .i64 (b k1).s) := by rw [hwq]; exact c2
                      have hownq : wq.ownsRow w5.heap.size 29 3 (.slice Af k1 cf) k1 (cells3 b k1) := by rw [hwq]; exact own_drewN hown nq
                      have hbelq : Below w5.heap.size w5 wq := by rw [hwq]; exact bel_drewN hbel nq
                      have hszq : w5.heap.size ≤ wq.heap.size := hbelq.size
                      have hgbq : gb < wq.heap.size := by omega
                      rw [← hwq]
                      clear hwq c0 c1 c2 c3 hown hbel
                      go_wp2_with (at_builtin; refine wpList_append_new pointElem hownq hbelq (Nat.le_refl _) (by omega) rfl _ _ rfl [.int .i64 (b k1).t, .int .i64 (b k1).v, .int .i64 (b k1).s] rfl rfl rfl (by simp [Value.oneCell']) (by unfold maxLen; omega) (by omega) ?_; intro A1 c1 w6 ho1 hb1 hg1)
                      refine ⟨⟨k1 + 1, k1 + 1, A1, c1, by omega, by omega, by go_num, rfl, ?_, hb1⟩, by simp [intOf]; omega⟩
                      rw [cells3_succ]; exact ho1
                    · have d1 : decide ((b k).t ≤ (a n1).t) = false := by simpa using fun h => hin (htest.1 h)
                      clear htest
                      go_wp2_with fail
                      go_quiet (fail)
                      go_wp2
                      exact ⟨⟨k + 1, k1, Af, cf, by omega, by have := HK1.out; omega, by go_num, rfl, own_drewN hown _, bel_drewN hbel _⟩, by simp [intOf]; omega⟩
                  · have d0 : decide (0 < (n : Int)) = false := by simp; omega
                    have hK0 : K = 0 := by rw [HK.out]; unfold few; rw [if_neg hn0]
                    have HK0 := Lib.hid hK0; clear hK0
                    go_wp2_with fail
                    go_quiet (fail)
                    go_wp2
                    exact ⟨⟨k + 1, k1, Af, cf, by omega, by have := HK1.out; have := HK0.out; omega, by go_num, rfl, own_drewN hown _, bel_drewN hbel _⟩, by simp [intOf]; omega⟩
                · have hk1 : k1 = K := by have := HK1.out; omega
                  subst hk1
                  have hb5r := bel_step hb5 (Nat.le_refl _) hbel
                  have hPf := Pts.of_own hown
                  go_wp2_with fail
                  with_reducible refine (join_yes A Af n ca k1 cf a b T wr (PA5.out.below hbel) hPf (by omega) (by omega) (grows_ok RA.out (rises_take RB.out hKm) (by omega) (by omega))).mono ?_
                  rintro e w6 ⟨Az, cz, rfl, hz, hb6⟩
                  rw [joinL_length] at hz ⊢
                  have hb6' := bel_step hb5r (Nat.le_refl _) hb6
                  have PZ := Lib.hid (show Prs w6 Az n (fun i => joinP b m T (a i)) from Prs.of_own (fun i hi => by rw [joinL_at a b k1 T n i hi]; congr 1; rw [HK.out]; exact joinP_few n a m b T RA.out i hi) hz)
                  have PY6 := Lib.hid ((PY5.out.below hbel).below hb6)
                  clear hz PY5 PA5 PB5 hb5 hb5r hPf hb6 hown hbel HK HK1
                  go_wp2_with fail
                  go_loopw [19] (IdxRel w6 n) (fun i _ => n - (intOf i).toNat)
                  case atStart => exact ⟨0, 0, by omega, rfl, rfl⟩
                  case round =>
                    obtain ⟨k, nn, hk, rfl, rfl⟩ := hrel
                    by_cases hlt : k < n
                    · obtain ⟨gz, oz, hAZ, hgz, hcz⟩ := PZ.out (by omega)
                      obtain ⟨gy, oy, hAY, hgy, hcy⟩ := PY6.out (by omega)
                      subst hAZ hAY
                      obtain ⟨x0, x1, x2, x3, x4, x5, x6⟩ := Prs.at_ hcz hlt
                      obtain ⟨y0, y1, y2, y3, y4, y5, y6⟩ := Prs.at_ hcy hlt
                      clear hcz hcy
                      have i0 : (0 : Int) ≤ (k : Int) := Int.natCast_nonneg _
                      have i1 : (k : Int) < (n : Int) := by omega
                      obtain ⟨q, hq⟩ : ∃ q, q = joinP b m T (a k) := ⟨_, rfl⟩
                      simp only [← hq] at x0 x1 x2 x3 x4 x5 x6 y0 y1 y2 y3 y4 y5 y6
                      clear hq
                      go_wp2_with fail
                      go_quiet (fail)
                      go_wp2
                      exact ⟨⟨k + 1, _, by omega, by go_num, by first | rfl | (simp only [World.drewN_drewN]; rfl)⟩, by simp [intOf]; omega⟩
                    · go_wp2
                      go_ret
                      exact ⟨rfl, bel_drewN hb6' _⟩
        · obtain ⟨S, rfl⟩ : ∃ S, S = u0 := ⟨_, rfl⟩
          obtain ⟨T, rfl⟩ : ∃ T, T = u1 := ⟨_, rfl⟩
          go_enter Try.func3, Try.ntmps3
          go_wp2_with fail
          go_quiet (fail)
          go_wp2_with fail
          obtain ⟨w1, hw1⟩ : ∃ w1, w1 = (w.alloc (.cells #[.int .i64 t0, .int .i64 t1] 23)).drewN nq := ⟨_, rfl⟩
          have hb1 : Below w.heap.size w w1 := by rw [hw1]; exact bel_drewN ((Below.refl _ _).alloc (Nat.le_refl _) _) _
          rw [← hw1]
          clear hw1
          with_reducible refine (join_yes A B n ca m cb a b S w1 (PA.out.below hb1) (PB.out.below hb1) (by omega) (by omega) (grows_ok RA.out RB.out (by omega) (by omega))).mono ?_
          rintro e w2 ⟨Ax, cx, rfl, hx, hb2⟩
          rw [joinL_length] at hx ⊢
          have hb2' := bel_step hb1 (Nat.le_refl _) hb2
          go_wp2_with fail
          with_reducible refine (join_yes A B n ca m cb a b T w2 (PA.out.below hb2') (PB.out.below hb2') (by omega) (by omega) (grows_ok RA.out RB.out (by omega) (by omega))).mono ?_
          rintro e w3 ⟨Ay, cy, rfl, hy, hb3⟩
          rw [joinL_length] at hy ⊢
          have hb3' := bel_step hb2' (Nat.le_refl _) hb3
          have hx3 := own_below hx hb3
          have hs2 := hb2.size
          have hs3 := hb3.size
          have hs1 := hb1.size
          clear hb1 hb2 hb2' hx
          go_wp2_with fail
          with_reducible refine (join_one (some ⟨w3.heap.size, 0, none⟩) _ (one_pt w3 5 0 0)).mono ?_
          rintro e w4 ⟨Ao, co, rfl, ho, hb4⟩
          have hal3 : Below w3.heap.size w3 (w3.alloc (.cells #[.int .i64 5, .int .i64 0, .int .i64 0] 29)) := (Below.refl _ _).alloc (Nat.le_refl _) _
          have hb4' := bel_step hal3 (Nat.le_refl _) hb4
          have hx4 := own_below hx3 hb4'
          have hy4 := own_below hy hb4'
          have hb4w := bel_step hb3' (Nat.le_refl _) hb4'
          have hs4 := hb4'.size
          have o0 := own_cells ho (fun j => ((prCells ⟨⟨5, 0, 0⟩, ⟨0, 0, 0⟩, false⟩)[j]?).getD undef) (fun j hj => by rcases (show j = 0 ∨ j = 1 ∨ j = 2 ∨ j = 3 ∨ j = 4 ∨ j = 5 ∨ j = 6 by simp at hj; omega) with rfl | rfl | rfl | rfl | rfl | rfl | rfl <;> rfl) (by decide)
          obtain ⟨go, oo, hAo, hgo, hco⟩ := o0
          obtain rfl := hAo
          have o6 : w4.cell? ⟨go, oo + 6, none⟩ = some (.bool false) := hco 6 (by decide)
          clear hco hgo ho hb4 hb4' hal3 hx3 hy hb3 hb3'
          simp only [List.length_cons, List.length_nil, Nat.zero_add]
          go_wp2_with fail
          have hX : Prs w4 Ax n (fun i => joinP b m S (a i)) := Prs.of_own (fun i hi => joinL_at a b m S n i hi) hx4
          have hY : Prs w4 Ay n (fun i => joinP b m T (a i)) := Prs.of_own (fun i hi => joinL_at a b m T n i hi) hy4
          have PX := Lib.hid hX; clear hX hx4
          have PY := Lib.hid hY; clear hY hy4
          have PA4 := Lib.hid (PA.out.below hb4w)
          have PB4 := Lib.hid (PB.out.below hb4w)
          clear PA PB o6
          go_loopw [15] (IdxRel w4 n) (fun i _ => n - (intOf i).toNat)
          case atStart => exact ⟨0, 0, by omega, rfl, rfl⟩
          case round =>
            obtain ⟨k, nn, hk, rfl, rfl⟩ := hrel
            by_cases hlt : k < n
            · obtain ⟨gx, ox, rfl, hgx, hcx⟩ := PX.out (by omega)
              obtain ⟨x0, x1, x2, x3, x4, x5, x6⟩ := Prs.at_ hcx hlt
              obtain ⟨gy, oy, rfl, hgy, hcy⟩ := PY.out (by omega)
              obtain ⟨y0, y1, y2, y3, y4, y5, y6⟩ := Prs.at_ hcy hlt
              obtain ⟨ga, oa, rfl, hga, hca⟩ := PA4.out (by omega)
              obtain ⟨a0, a1, a2⟩ := Pts.at_ hca hlt
              clear hcx hcy hca
              have i0 : (0 : Int) ≤ (k : Int) := Int.natCast_nonneg _
              have i1 : (k : Int) < (n : Int) := by omega
              have ht := (RA.out k hlt).1
              obtain ⟨ht1, ht2⟩ := ht
              have es : IntKind.i64.wrap ((a k).t - T) = (a k).t - T := IntWalk.i64_in _ (by omega)
              by_cases h1 : (joinP b m S (a k)).has = true
              · rw [joinP_grow b m S T (a k) hst h1] at y0 y1 y2 y3 y4 y5 y6
                obtain ⟨ej, _, f1, f2⟩ := joinP_yes b m S (a k) h1
                rw [ej] at x0 x1 x2 x3 x4 x5 x6 y0 y1 y2 y3 y4 y5 y6
                obtain ⟨p, hp⟩ : ∃ p, p = a k := ⟨_, rfl⟩
                obtain ⟨r, hr⟩ : ∃ r, r = b (nxt b m (a k).t - 1) := ⟨_, rfl⟩
                rw [← hr] at x0 x1 x2 x3 x4 x5 x6 y0 y1 y2 y3 y4 y5 y6 f1 f2
                rw [← hp] at x0 x1 x2 x3 x4 x5 x6 y0 y1 y2 y3 y4 y5 y6 f1 f2 es a0 a1 a2
                clear hp hr ej h1
                have d1 : decide (p.t < r.t) = false := by simp; omega
                have d2 : decide (r.t < p.t - T) = false := by simp; omega
                simp only at x0 x1 x2 x3 x4 x5 x6 y0 y1 y2 y3 y4 y5 y6
                go_wp2_with fail
                refine wp_region_quiet_lit (by kernel_rfl) (by kernel_rfl) ?_
                simp only [List.append]
                repeat (go_big_quiet_step (fail))
                refine wpQuiet_nil ?_
                intro _ hw'
                obtain ⟨nq, hw''⟩ := hw'
                subst hw''
                go_wp2
                exact ⟨⟨k + 1, _, by omega, by go_num, by first | rfl | (simp only [World.drewN_drewN]; rfl)⟩, by simp [intOf]; omega⟩
              · have h1' : (joinP b m S (a k)).has = false := by simpa using h1
                rw [joinP_no b m S (a k) h1'] at x0 x1 x2 x3 x4 x5 x6
                by_cases h2 : (joinP b m T (a k)).has = true
                · obtain ⟨ej, _, f1, f2⟩ := joinP_yes b m T (a k) h2
                  rw [ej] at y0 y1 y2 y3 y4 y5 y6
                  obtain ⟨p, hp⟩ : ∃ p, p = a k := ⟨_, rfl⟩
                  obtain ⟨r, hr⟩ : ∃ r, r = b (nxt b m (a k).t - 1) := ⟨_, rfl⟩
                  rw [← hr] at y0 y1 y2 y3 y4 y5 y6 f1 f2
                  rw [← hp] at x0 x1 x2 x3 x4 x5 x6 y0 y1 y2 y3 y4 y5 y6 f1 f2 es a0 a1 a2
                  clear hp hr ej h1 h2 h1'
                  have d1 : decide (p.t < r.t) = false := by simp; omega
                  have d2 : decide (r.t < p.t - T) = false := by simp; omega
                  simp only at x0 x1 x2 x3 x4 x5 x6 y0 y1 y2 y3 y4 y5 y6
                  go_wp2_with fail
                  refine wp_region_quiet_lit (by kernel_rfl) (by kernel_rfl) ?_
                  simp only [List.append]
                  repeat (go_big_quiet_step (fail))
                  refine wpQuiet_nil ?_
                  intro _ hw'
                  obtain ⟨nq, hw''⟩ := hw'
                  subst hw''
                  go_wp2
                  exact ⟨⟨k + 1, _, by omega, by go_num, by first | rfl | (simp only [World.drewN_drewN]; rfl)⟩, by simp [intOf]; omega⟩
                · have h2' : (joinP b m T (a k)).has = false := by simpa using h2
                  rw [joinP_no b m T (a k) h2'] at y0 y1 y2 y3 y4 y5 y6
                  obtain ⟨p, hp⟩ : ∃ p, p = a k := ⟨_, rfl⟩
                  rw [← hp] at x0 x1 x2 x3 x4 x5 x6 y0 y1 y2 y3 y4 y5 y6 es a0 a1 a2
                  clear hp h1 h2 h1' h2'
                  simp only at x0 x1 x2 x3 x4 x5 x6 y0 y1 y2 y3 y4 y5 y6
                  go_wp2_with fail
                  refine wp_region_quiet_lit (by kernel_rfl) (by kernel_rfl) ?_
                  simp only [List.append]
                  repeat (go_big_quiet_step (fail))
                  refine wpQuiet_nil ?_
                  intro _ hw'
                  obtain ⟨nq, hw''⟩ := hw'
                  subst hw''
                  go_wp2
                  exact ⟨⟨k + 1, _, by omega, by go_num, by first | rfl | (simp only [World.drewN_drewN]; rfl)⟩, by simp [intOf]; omega⟩
            · obtain ⟨w5, hw5⟩ : ∃ w5, w5 = w4.drewN nn := ⟨_, rfl⟩
              have hb5 : Below w.heap.size w w5 := by rw [hw5]; exact bel_drewN hb4w nn
              have PY5 := Lib.hid (show Prs w5 Ay n (fun i => joinP b m T (a i)) by rw [hw5]; exact PY.out)
              have PA5 := Lib.hid (show Pts w5 A n a by rw [hw5]; exact PA4.out)
              have PB5 := Lib.hid (show Pts w5 B m b by rw [hw5]; exact PB4.out)
              rw [← hw5]
              clear hw5 PX PY PA4 PB4 hb4w
              obtain ⟨K, hK⟩ : ∃ K, K = few n a m b := ⟨_, rfl⟩
              have hKm : K ≤ m := by rw [hK]; exact few_le n a m b
              have HK := Lib.hid hK; clear hK
              go_wp2_with fail
              go_loopw [16, 17] (FewRel w5 0 m K b) (fun _ i _ => m - (intOf i).toNat)
              case atStart => exact ⟨0, 0, none, 0, by omega, by omega, rfl, rfl, World.ownsRow_nil _ _ _ _, Below.refl _ _⟩
              case round =>
                obtain ⟨k, k1, Af, cf, hk, hk1, rfl, rfl, hown, hbel⟩ := hrel
                have HK1 := Lib.hid hk1; clear hk1
                by_cases hlt : k < m
                · obtain ⟨gb, ob, hBB, hgb, hcb⟩ := PB5.out (by omega)
                  subst hBB
                  obtain ⟨b0, b1, b2⟩ := Pts.at_ hcb hlt
                  have c0 := (hbel.cell (p := ⟨gb, ob + k * 3, none⟩) hgb).trans b0
                  have c1 := (hbel.cell (p := ⟨gb, ob + k * 3 + 1, none⟩) hgb).trans b1
                  have c2 := (hbel.cell (p := ⟨gb, ob + k * 3 + 2, none⟩) hgb).trans b2
                  clear hcb b0 b1 b2
                  have hsz := hbel.size
                  have hgb' : gb < wr.heap.size := by omega
                  have i0 : (0 : Int) ≤ (k : Int) := Int.natCast_nonneg _
                  have i1 : (k : Int) < (m : Int) := by omega
                  by_cases hn0 : 0 < n
                  · obtain ⟨n1, hn1⟩ : ∃ n1, n = n1 + 1 := ⟨n - 1, by omega⟩
                    obtain ⟨ga, oa, hAA, hga, hca⟩ := PA5.out (by omega)
                    subst hAA
                    obtain ⟨a0, _, _⟩ := Pts.at_ hca (i := n1) (by omega)
                    have c3 := (hbel.cell (p := ⟨ga, oa + n1 * 3, none⟩) hga).trans a0
                    have hga' : ga < wr.heap.size := by omega
                    have en : IntKind.i64.wrap ((n : Int) - 1) = (n1 : Int) := by rw [hn1]; rw [IntWalk.i64_in _ (by omega)]; omega
                    have p0 : (0 : Int) < (n : Int) := by omega
                    have p1 : (0 : Int) ≤ (n1 : Int) := by omega
                    have p2 : (n1 : Int) < (n : Int) := by omega
                    have htest : (b k).t ≤ (a n1).t ↔ k < K := by
                      rw [HK.out]; unfold few; rw [if_pos hn0, hn1, Nat.add_sub_cancel]; exact nxt_test b m RB.out _ k hlt
                    have HN1 := Lib.hid hn1; clear hn1 hca a0
                    by_cases hin : k < K
                    · have d1 : decide ((b k).t ≤ (a n1).t) = true := by simpa using htest.2 hin
                      have hk1 : k1 = k := by have := HK1.out; omega
                      subst hk1
                      clear htest
                      go_wp2_with fail
                      go_quiet (fail)
                      obtain ⟨wq, hwq⟩ : ∃ wq, wq = wr.drewN nq := ⟨_, rfl⟩
                      have r0 : wq.cell? ⟨gb, ob + k1 * 3, none⟩ = some (.int .i64 (b k1).t) := by rw [hwq]; exact c0
                      have r1 : wq.cell? ⟨gb, ob + k1 * 3 + 1, none⟩ = some (.int .i64 (b k1).v) := by rw [hwq]; exact c1
                      have r2 : wq.cell? ⟨gb, ob + k1 * 3 + 2, none⟩ = some (.int .i64 (b k1).s) := by rw [hwq]; exact c2
                      have hownq : wq.ownsRow w5.heap.size 29 3 (.slice Af k1 cf) k1 (cells3 b k1) := by rw [hwq]; exact own_drewN hown nq
                      have hbelq : Below w5.heap.size w5 wq := by rw [hwq]; exact bel_drewN hbel nq
                      have hszq : w5.heap.size ≤ wq.heap.size := hbelq.size
                      have hgbq : gb < wq.heap.size := by omega
                      rw [← hwq]
                      clear hwq c0 c1 c2 c3 hown hbel
                      go_wp2_with (at_builtin; refine wpList_append_new pointElem hownq hbelq (Nat.le_refl _) (by omega) rfl _ _ rfl [.int .i64 (b k1).t, .int .i64 (b k1).v, .int .i64 (b k1).s] rfl rfl rfl (by simp [Value.oneCell']) (by unfold maxLen; omega) (by omega) ?_; intro A1 c1 w6 ho1 hb1 hg1)
                      refine ⟨⟨k1 + 1, k1 + 1, A1, c1, by omega, by omega, by go_num, rfl, ?_, hb1⟩, by simp [intOf]; omega⟩
                      rw [cells3_succ]; exact ho1
                    · have d1 : decide ((b k).t ≤ (a n1).t) = false := by simpa using fun h => hin (htest.1 h)
                      clear htest
                      go_wp2_with fail
                      go_quiet (fail)
                      go_wp2
                      exact ⟨⟨k + 1, k1, Af, cf, by omega, by have := HK1.out; omega, by go_num, rfl, own_drewN hown _, bel_drewN hbel _⟩, by simp [intOf]; omega⟩
                  · have d0 : decide (0 < (n : Int)) = false := by simp; omega
                    have hK0 : K = 0 := by rw [HK.out]; unfold few; rw [if_neg hn0]
                    have HK0 := Lib.hid hK0; clear hK0
                    go_wp2_with fail
                    go_quiet (fail)
                    go_wp2
                    exact ⟨⟨k + 1, k1, Af, cf, by omega, by have := HK1.out; have := HK0.out; omega, by go_num, rfl, own_drewN hown _, bel_drewN hbel _⟩, by simp [intOf]; omega⟩
                · have hk1 : k1 = K := by have := HK1.out; omega
                  subst hk1
                  have hb5r := bel_step hb5 (Nat.le_refl _) hbel
                  have hPf := Pts.of_own hown
                  go_wp2_with fail
                  with_reducible refine (join_yes A Af n ca k1 cf a b T wr (PA5.out.below hbel) hPf (by omega) (by omega) (grows_ok RA.out (rises_take RB.out hKm) (by omega) (by omega))).mono ?_
                  rintro e w6 ⟨Az, cz, rfl, hz, hb6⟩
                  rw [joinL_length] at hz ⊢
                  have hb6' := bel_step hb5r (Nat.le_refl _) hb6
                  have PZ := Lib.hid (show Prs w6 Az n (fun i => joinP b m T (a i)) from Prs.of_own (fun i hi => by rw [joinL_at a b k1 T n i hi]; congr 1; rw [HK.out]; exact joinP_few n a m b T RA.out i hi) hz)
                  have PY6 := Lib.hid ((PY5.out.below hbel).below hb6)
                  clear hz PY5 PA5 PB5 hb5 hb5r hPf hb6 hown hbel HK HK1
                  go_wp2_with fail
                  go_loopw [19] (IdxRel w6 n) (fun i _ => n - (intOf i).toNat)
                  case atStart => exact ⟨0, 0, by omega, rfl, rfl⟩
                  case round =>
                    obtain ⟨k, nn, hk, rfl, rfl⟩ := hrel
                    by_cases hlt : k < n
                    · obtain ⟨gz, oz, hAZ, hgz, hcz⟩ := PZ.out (by omega)
                      obtain ⟨gy, oy, hAY, hgy, hcy⟩ := PY6.out (by omega)
                      subst hAZ hAY
                      obtain ⟨x0, x1, x2, x3, x4, x5, x6⟩ := Prs.at_ hcz hlt
                      obtain ⟨y0, y1, y2, y3, y4, y5, y6⟩ := Prs.at_ hcy hlt
                      clear hcz hcy
                      have i0 : (0 : Int) ≤ (k : Int) := Int.natCast_nonneg _
                      have i1 : (k : Int) < (n : Int) := by omega
                      obtain ⟨q, hq⟩ : ∃ q, q = joinP b m T (a k) := ⟨_, rfl⟩
                      simp only [← hq] at x0 x1 x2 x3 x4 x5 x6 y0 y1 y2 y3 y4 y5 y6
                      clear hq
                      go_wp2_with fail
                      go_quiet (fail)
                      go_wp2
                      exact ⟨⟨k + 1, _, by omega, by go_num, by first | rfl | (simp only [World.drewN_drewN]; rfl)⟩, by simp [intOf]; omega⟩
                    · go_wp2
                      go_ret
                      exact ⟨rfl, bel_drewN hb6' _⟩
      · have NO := Lib.hid (fun S : Int => show ¬ joinOk n a m b S from fun h => hr ⟨h.1, h.2.1⟩); clear hr
        rcases hst with hst | hst
        · obtain ⟨S, rfl⟩ : ∃ S, S = u1 := ⟨_, rfl⟩
          obtain ⟨T, rfl⟩ : ∃ T, T = u0 := ⟨_, rfl⟩
          go_enter Try.func3, Try.ntmps3
          go_wp2_with fail
          go_quiet (fail)
          go_wp2_with fail
          obtain ⟨w1, hw1⟩ : ∃ w1, w1 = (w.alloc (.cells #[.int .i64 t0, .int .i64 t1] 23)).drewN nq := ⟨_, rfl⟩
          have hb1 : Below w.heap.size w w1 := by rw [hw1]; exact bel_drewN ((Below.refl _ _).alloc (Nat.le_refl _) _) _
          rw [← hw1]
          clear hw1
          with_reducible refine (join_no A B n ca m cb a b S w1 (PA.out.below hb1) (PB.out.below hb1) (by omega) (by omega) (NO.out S)).mono ?_
          rintro e w2 ⟨Ax, cx, rfl, hx, hb2⟩
          have hb2' := bel_step hb1 (Nat.le_refl _) hb2
          simp only [List.length_nil]
          go_wp2_with fail
          with_reducible refine (join_no A B n ca m cb a b T w2 (PA.out.below hb2') (PB.out.below hb2') (by omega) (by omega) (NO.out T)).mono ?_
          rintro e w3 ⟨Ay, cy, rfl, hy, hb3⟩
          have hb3' := bel_step hb2' (Nat.le_refl _) hb3
          simp only [List.length_nil]
          have hs2 := hb2.size
          have hs3 := hb3.size
          have hs1 := hb1.size
          clear hb1 hb2 hb2' hx
          go_wp2_with fail
          with_reducible refine (join_one (some ⟨w3.heap.size, 0, none⟩) _ (one_pt w3 5 0 0)).mono ?_
          rintro e w4 ⟨Ao, co, rfl, ho, hb4⟩
          have hal3 : Below w3.heap.size w3 (w3.alloc (.cells #[.int .i64 5, .int .i64 0, .int .i64 0] 29)) := (Below.refl _ _).alloc (Nat.le_refl _) _
          have hb4' := bel_step hal3 (Nat.le_refl _) hb4
          have hb4w := bel_step hb3' (Nat.le_refl _) hb4'
          have o0 := own_cells ho (fun j => ((prCells ⟨⟨5, 0, 0⟩, ⟨0, 0, 0⟩, false⟩)[j]?).getD undef) (fun j hj => by rcases (show j = 0 ∨ j = 1 ∨ j = 2 ∨ j = 3 ∨ j = 4 ∨ j = 5 ∨ j = 6 by simp at hj; omega) with rfl | rfl | rfl | rfl | rfl | rfl | rfl <;> rfl) (by decide)
          obtain ⟨go, oo, hAo, hgo, hco⟩ := o0
          obtain rfl := hAo
          have o6 : w4.cell? ⟨go, oo + 6, none⟩ = some (.bool false) := hco 6 (by decide)
          clear hco hgo ho hb4 hb4' hal3 hy hb3 hb3'
          simp only [List.length_cons, List.length_nil, Nat.zero_add]
          go_wp2
          go_ret
          exact ⟨rfl, hb4w⟩
        · obtain ⟨S, rfl⟩ : ∃ S, S = u0 := ⟨_, rfl⟩
          obtain ⟨T, rfl⟩ : ∃ T, T = u1 := ⟨_, rfl⟩
          go_enter Try.func3, Try.ntmps3
          go_wp2_with fail
          go_quiet (fail)
          go_wp2_with fail
          obtain ⟨w1, hw1⟩ : ∃ w1, w1 = (w.alloc (.cells #[.int .i64 t0, .int .i64 t1] 23)).drewN nq := ⟨_, rfl⟩
          have hb1 : Below w.heap.size w w1 := by rw [hw1]; exact bel_drewN ((Below.refl _ _).alloc (Nat.le_refl _) _) _
          rw [← hw1]
          clear hw1
          with_reducible refine (join_no A B n ca m cb a b S w1 (PA.out.below hb1) (PB.out.below hb1) (by omega) (by omega) (NO.out S)).mono ?_
          rintro e w2 ⟨Ax, cx, rfl, hx, hb2⟩
          have hb2' := bel_step hb1 (Nat.le_refl _) hb2
          simp only [List.length_nil]
          go_wp2_with fail
          with_reducible refine (join_no A B n ca m cb a b T w2 (PA.out.below hb2') (PB.out.below hb2') (by omega) (by omega) (NO.out T)).mono ?_
          rintro e w3 ⟨Ay, cy, rfl, hy, hb3⟩
          have hb3' := bel_step hb2' (Nat.le_refl _) hb3
          simp only [List.length_nil]
          have hs2 := hb2.size
          have hs3 := hb3.size
          have hs1 := hb1.size
          clear hb1 hb2 hb2' hx
          go_wp2_with fail
          with_reducible refine (join_one (some ⟨w3.heap.size, 0, none⟩) _ (one_pt w3 5 0 0)).mono ?_
          rintro e w4 ⟨Ao, co, rfl, ho, hb4⟩
          have hal3 : Below w3.heap.size w3 (w3.alloc (.cells #[.int .i64 5, .int .i64 0, .int .i64 0] 29)) := (Below.refl _ _).alloc (Nat.le_refl _) _
          have hb4' := bel_step hal3 (Nat.le_refl _) hb4
          have hb4w := bel_step hb3' (Nat.le_refl _) hb4'
          have o0 := own_cells ho (fun j => ((prCells ⟨⟨5, 0, 0⟩, ⟨0, 0, 0⟩, false⟩)[j]?).getD undef) (fun j hj => by rcases (show j = 0 ∨ j = 1 ∨ j = 2 ∨ j = 3 ∨ j = 4 ∨ j = 5 ∨ j = 6 by simp at hj; omega) with rfl | rfl | rfl | rfl | rfl | rfl | rfl <;> rfl) (by decide)
          obtain ⟨go, oo, hAo, hgo, hco⟩ := o0
          obtain rfl := hAo
          have o6 : w4.cell? ⟨go, oo + 6, none⟩ = some (.bool false) := hco 6 (by decide)
          clear hco hgo ho hb4 hb4' hal3 hy hb3 hb3'
          simp only [List.length_cons, List.length_nil, Nat.zero_add]
          go_wp2
          go_ret
          exact ⟨rfl, hb4w⟩
    · clear dA dB
      have h1 : 150 < m := by omega
      go_enter Try.func3, Try.ntmps3
      go_wp2
      go_ret
      exact ⟨rfl, (Below.refl _ _).alloc (Nat.le_refl _) _⟩
  · clear dA dB
    have h1 : 150 < n := by omega
    go_enter Try.func3, Try.ntmps3
    go_wp2
    go_ret
    exact ⟨rfl, (Below.refl _ _).alloc (Nat.le_refl _) _⟩
theorem asofGrows_walk (w : World) (A : Option Addr) (n ca : Nat) (a : Nat → Pt) (hA : PtsArg w A n ca a) (B : Option Addr) (m cb : Nat) (b : Nat → Pt) (hB : PtsArg w B m cb b) (t0 : Int) (b0 : -9223372036854775808 ≤ t0 ∧ t0 ≤ 9223372036854775807) (t1 : Int) (b1 : -9223372036854775808 ≤ t1 ∧ t1 ≤ 9223372036854775807) :
    Calls Try.prog 3 #[.slice A n ca, .slice B m cb, .agg #[.int .i64 t0, .int .i64 t1]] w fun e w' => e = .returned (.bool true) ∧ Below w.heap.size w w' := by
  have e0 := WordMath.and_mask_i64 t0 255 8 (by omega) (by decide)
  have e1 := WordMath.and_mask_i64 t1 255 8 (by omega) (by decide)
  exact asofGrows_at w A n ca a hA B m cb b hB t0 t1 (t0 % (255 + 1)) (t1 % (255 + 1)) e0 e1 (by omega) (by omega)
end Go.Proofs.Ytpblabpajliagaa

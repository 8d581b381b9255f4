/- Contracts of wide.parts and wide.Div (cut out of the texts of law07). -/
import Derived.Test.YtohgpllonbplfaaDoorDWide
import Derived.Test.YtohgpllonbplfaaDoorDiv64
import Derived.Test.YtohgpllonbplfaaDoorWideDivMath
import Derived.Deep.RegionHeld3
import Derived.Deep.RegionWith
namespace Go.Proofs.YtohgpllonbplfaaDoor
open Go.RowKit
set_option linter.unusedVariables false

set_option maxRecDepth 100000 in
theorem parts_any (v n : Int) (w : World) (h0 : 0 ≤ v) (h1 : v < 340282366920938463463374607431768211456) (hn : 0 < n) (hn1 : n ≤ 18446744073709551615) :
    Calls Tryd.prog 14 #[.agg #[.int .u64 (upW v), .int .u64 (loW v)], .int .u64 n] w fun e w' => e = .returned (.tuple #[.agg #[.int .u64 (upW (v / n)), .int .u64 (loW (v / n))], .int .u64 (v % n)]) ∧ Below w.heap.size w w' := by
  obtain ⟨p1, p2, p3, p4, p5⟩ := parts_div v n h0 h1 hn hn1
  obtain ⟨u0, u1⟩ := upW_bd v
  obtain ⟨l0, l1⟩ := loW_bd v
  have HD := Lib.hid (fun w => div64_any (upW v % n) (loW v) n w l0 l1 hn hn1 p4 p5)
  have hq0 : 0 ≤ upW v / n := Int.ediv_nonneg u0 (by omega)
  have hq1 : upW v / n ≤ upW v := Int.ediv_le_self _ u0
  obtain ⟨r, hr⟩ : ∃ r, upW v % n = r := ⟨_, rfl⟩
  rw [hr] at HD p2 p3 p4 p5
  have HP2 := Lib.hid p2
  have HP3 := Lib.hid p3
  rw [p1] at hq0 hq1
  clear p2 p3
  have e0 : (n == 0) = false := by simp; omega
  have ed : IntKind.u64.wrap ((upW v).tdiv n) = upW (v / n) := by rw [Int.tdiv_eq_ediv_of_nonneg u0, p1, IntKind.wrap_u64]; omega
  have em : (upW v).tmod n = r := by rw [Int.tmod_eq_emod_of_nonneg u0, hr]
  obtain ⟨W, hW⟩ : ∃ W, W = (w.alloc (.cells #[.int .u64 (upW v), .int .u64 (loW v)] 41)).alloc (.cells #[.int .u64 0, .int .u64 0] 41) := ⟨_, rfl⟩
  have c1 : W.cell? ⟨w.heap.size, 0, none⟩ = some (.int .u64 (upW v)) := by rw [hW]; exact cell_al (cell_new0 rfl)
  have c2 : W.cell? ⟨w.heap.size, 1, none⟩ = some (.int .u64 (loW v)) := by rw [hW]; exact cell_al (cell_new1 rfl)
  have c3 : W.cell? ⟨w.heap.size + 1, 0, none⟩ = some (.int .u64 0) := by rw [hW]; exact cell_new0 (by simp)
  have c4 : W.cell? ⟨w.heap.size + 1, 1, none⟩ = some (.int .u64 0) := by rw [hW]; exact cell_new1 (by simp)
  have f3 : W.frozen? ⟨w.heap.size + 1, 0, none⟩ = false := by rw [hW]; exact frozen_new (by simp) 0
  have f4 : W.frozen? ⟨w.heap.size + 1, 1, none⟩ = false := by rw [hW]; exact frozen_new (by simp) 1
  have hB : Below w.heap.size w W := by rw [hW]; exact ((Below.refl _ _).alloc (Nat.le_refl _) _).alloc (by simp) _
  have hsz : w.heap.size + 1 < W.heap.size := by rw [hW]; simp
  have HW := Lib.hid hW; clear hW
  go_enter Tryd.func14, Tryd.ntmps14
  go_wp2_with fail
  rw [← HW.out]
  clear HW
  go_quiet (fail)
  go_wp2_with fail
  with_reducible refine (HD.out _).mono ?_
  rintro e w1 ⟨rfl, hb⟩
  rw [HP2.out, HP3.out]
  have z3 := cell_be hb (cell_drN c3)
  have z4 := cell_be hb (cell_drN c4)
  have g3 := frozen_be hb hsz f3
  have g4 := frozen_be hb hsz f4
  have hB1 := bel_step (bel_drewN hB nq) (Nat.le_refl _) hb
  clear hb hB
  go_wp2
  exact bodyPost_ret (v := .tuple #[.agg #[.int .u64 (upW (v / n)), .int .u64 (loW (v / n))], .int .u64 (v % n)]) (by simp [results, Tryd.results14, go_sem, z3, z4]) rfl ⟨rfl, (hB1.setCell (by simp) _).setCell (by simp) _⟩
theorem wdiv_bad (a n : Int) (w : World) (hn : n ≤ 0) :
    Calls Tryd.prog 10 #[.agg #[.int .i64 (hiW a), .int .u64 (loW a)], .int .i64 n] w fun e w' => e = .returned (.tuple #[.agg #[.int .i64 0, .int .u64 0], .int .i64 0, .int .i64 2]) ∧ Below w.heap.size w w' := by
  go_enter Tryd.func10, Tryd.ntmps10
  go_wp2
  exact bodyPost_ret (v := .tuple #[.agg #[.int .i64 0, .int .u64 0], .int .i64 0, .int .i64 2]) (by simp [results, Tryd.results10, go_sem]) rfl ⟨rfl, ((Below.refl _ _).alloc (Nat.le_refl _) _).alloc (by simp) _⟩
set_option maxRecDepth 100000 in
set_option maxHeartbeats 4000000 in
theorem div_any (a n : Int) (w : World) (ha : fits a) (hn : 0 < n) (hn1 : n ≤ 9223372036854775807) :
    Calls Tryd.prog 10 #[.agg #[.int .i64 (hiW a), .int .u64 (loW a)], .int .i64 n] w fun e w' => e = .returned (.tuple #[.agg #[.int .i64 (hiW (a / n)), .int .u64 (loW (a / n))], .int .i64 (a % n), .int .i64 0]) ∧ Below w.heap.size w w' := by
  have hw := fits_int n (by omega) hn1
  have HA := Lib.hid (fun w => amount_any a w ha)
  have ab := absI_bd a ha
  obtain ⟨p, hp⟩ : ∃ p, p = absI a := ⟨_, rfl⟩
  rw [← hp] at HA ab
  obtain ⟨ab0, ab1⟩ := ab
  have HP := Lib.hid (fun w => parts_any p n w ab0 (by omega) hn (by omega))
  obtain ⟨q0, q1, r0', r1'⟩ := div_bd p n ab0 hn
  have hneg := hiW_neg a ha
  have en : IntKind.u64.wrap n = n := by rw [IntKind.wrap_u64]; omega
  obtain ⟨Q, hQ⟩ : ∃ Q, Q = p / n := ⟨_, rfl⟩
  obtain ⟨R, hR⟩ : ∃ R, R = p % n := ⟨_, rfl⟩
  rw [← hQ] at q0 q1 HP
  rw [← hR] at r0' r1' HP
  have eh : wrap64 (upW Q) = hiW Q := by unfold wrap64; exact hiW_up Q
  have er : wrap64 R = R := IntWalk.wrap64_in R (by omega)
  by_cases h : a < 0
  · have hpa : a = -p := by rw [hp, absI_neg a h]; omega
    have d1 : decide (hiW a < 0) = true := decide_eq_true (hneg.2 h)
    have d2 : hiW a < 0 := hneg.2 h
    by_cases hz : R = 0
    · have e := div_neg_zero p n hn (by rw [← hR]; exact hz)
      rw [hpa, e.1, e.2, ← hQ]
      rw [hz] at HP
      rw [← hpa]
      clear hp hneg hpa hQ hR ha hw e h r0' r1' er hz
      go_enter Tryd.func10, Tryd.ntmps10
      go_wp2_with fail
      with_reducible refine (HA.out _).mono ?_
      rintro e w1 ⟨rfl, hb⟩
      have a0 := cell_be hb (cell_al (cell_new0 (n := w.heap.size) rfl))
      have a1 := cell_be hb (cell_al (cell_new1 (n := w.heap.size) rfl))
      have r0 := cell_be hb (cell_new0 (n := w.heap.size + 1) (by simp))
      have r1 := cell_be hb (cell_new1 (n := w.heap.size + 1) (by simp))
      have f0 := frozen_be hb (by simp) (frozen_new (n := w.heap.size + 1) (by simp) 0)
      have f1 := frozen_be hb (by simp) (frozen_new (n := w.heap.size + 1) (by simp) 1)
      have hB := (((Below.refl _ _).alloc (Nat.le_refl _) _).alloc (by simp) _).trans (hb.mono (by simp; omega))
      have s1 : w.heap.size + 1 < w1.heap.size := by have := hb.size; simp at this; omega
      clear hb
      go_wp2_with fail
      with_reducible refine (HP.out _).mono ?_
      rintro e w2 ⟨rfl, hb⟩
      replace a0 := cell_be hb a0
      replace a1 := cell_be hb a1
      replace r0 := cell_be hb r0
      replace r1 := cell_be hb r1
      replace f0 := frozen_be hb s1 f0
      replace f1 := frozen_be hb s1 f1
      replace hB := bel_step hB (Nat.le_refl _) hb
      have s2 : w.heap.size + 1 < w2.heap.size := by have := hb.size; omega
      have s3 : w.heap.size < w2.heap.size := by omega
      clear hb
      go_wp2_with fail
      obtain ⟨w3, hW⟩ : ∃ W, W = ((w2.setCell ⟨w.heap.size + 1, 0, none⟩ (.int .i64 (hiW Q))).setCell ⟨w.heap.size + 1, 1, none⟩ (.int .u64 (loW Q))).alloc (.cells #[.int .u64 (upW Q), .int .u64 (loW Q)] 41) := ⟨_, rfl⟩
      have t := two_set (x := .int .i64 (hiW Q)) (y := .int .u64 (loW Q)) r0 r1
      have q0 : w3.cell? ⟨w.heap.size + 1, 0, none⟩ = some (.int .i64 (hiW Q)) := by rw [hW]; exact cell_al t.1
      have q1 : w3.cell? ⟨w.heap.size + 1, 1, none⟩ = some (.int .u64 (loW Q)) := by rw [hW]; exact cell_al t.2
      have g0 : w3.frozen? ⟨w.heap.size + 1, 0, none⟩ = false := by rw [hW]; exact frozen_al (by simpa using s2) (by simp only [World.frozen?_setCell]; exact f0)
      have g1 : w3.frozen? ⟨w.heap.size + 1, 1, none⟩ = false := by rw [hW]; exact frozen_al (by simpa using s2) (by simp only [World.frozen?_setCell]; exact f1)
      replace a0 := cell_al (o := .cells #[.int .u64 (upW Q), .int .u64 (loW Q)] 41) (cell_set (b' := w.heap.size + 1) (o' := 1) (u := .int .u64 (loW Q)) (cell_set (b' := w.heap.size + 1) (o' := 0) (u := .int .i64 (hiW Q)) a0 (by omega)) (by omega))
      replace a1 := cell_al (o := .cells #[.int .u64 (upW Q), .int .u64 (loW Q)] 41) (cell_set (b' := w.heap.size + 1) (o' := 1) (u := .int .u64 (loW Q)) (cell_set (b' := w.heap.size + 1) (o' := 0) (u := .int .i64 (hiW Q)) a1 (by omega)) (by omega))
      rw [← hW] at a0 a1
      replace hB := ((hB.setCell (p := ⟨w.heap.size + 1, 0, none⟩) (by simp) (.int .i64 (hiW Q))).setCell (p := ⟨w.heap.size + 1, 1, none⟩) (by simp) (.int .u64 (loW Q))).alloc (by simp; exact hB.size) (.cells #[.int .u64 (upW Q), .int .u64 (loW Q)] 41)
      rw [← hW] at hB
      have s4 : w.heap.size + 1 < w3.heap.size := by rw [hW]; simp; omega
      rw [← hW]
      clear hW t r0 r1 f0 f1
      with_reducible refine (below_any _ _ _).mono ?_
      rintro e w' ⟨rfl, rfl⟩
      go_wp2_with fail
      with_reducible refine (minus_any Q _).mono ?_
      rintro e w4 ⟨rfl, hb⟩
      have z0 := cell_be hb (cell_al q0)
      have z1 := cell_be hb (cell_al q1)
      have g0 := frozen_be hb (by simp; omega) (frozen_al s4 g0)
      have g1 := frozen_be hb (by simp; omega) (frozen_al s4 g1)
      replace hB := bel_step (hB.alloc hB.size _) (Nat.le_refl _) hb
      have s5 : w.heap.size + 1 < w4.heap.size := by have := hb.size; simp at this; omega
      clear hb
      go_wp2
      exact bodyPost_ret (v := .tuple #[.agg #[.int .i64 (hiW (-Q)), .int .u64 (loW (-Q))], .int .i64 0, .int .i64 0]) (by simp [results, Tryd.results10, go_sem, z0, z1]) rfl ⟨rfl, (hB.setCell (by simp) _).setCell (by simp) _⟩
    · have e := div_neg_more p n hn (by rw [← hR]; exact hz)
      rw [hpa, e.1, e.2, ← hQ, ← hR]
      rw [← hpa]
      have hz2 : (R == 0) = false := by simpa using hz
      have ew : IntKind.i64.wrap R = R := IntWalk.i64_in _ (by omega)
      have ew2 : IntKind.i64.wrap (n - R) = n - R := IntWalk.i64_in _ (by omega)
      clear hp hneg hpa hQ hR ha hw e h hz
      go_enter Tryd.func10, Tryd.ntmps10
      go_wp2_with fail
      with_reducible refine (HA.out _).mono ?_
      rintro e w1 ⟨rfl, hb⟩
      have a0 := cell_be hb (cell_al (cell_new0 (n := w.heap.size) rfl))
      have a1 := cell_be hb (cell_al (cell_new1 (n := w.heap.size) rfl))
      have r0 := cell_be hb (cell_new0 (n := w.heap.size + 1) (by simp))
      have r1 := cell_be hb (cell_new1 (n := w.heap.size + 1) (by simp))
      have f0 := frozen_be hb (by simp) (frozen_new (n := w.heap.size + 1) (by simp) 0)
      have f1 := frozen_be hb (by simp) (frozen_new (n := w.heap.size + 1) (by simp) 1)
      have hB := (((Below.refl _ _).alloc (Nat.le_refl _) _).alloc (by simp) _).trans (hb.mono (by simp; omega))
      have s1 : w.heap.size + 1 < w1.heap.size := by have := hb.size; simp at this; omega
      clear hb
      go_wp2_with fail
      with_reducible refine (HP.out _).mono ?_
      rintro e w2 ⟨rfl, hb⟩
      replace a0 := cell_be hb a0
      replace a1 := cell_be hb a1
      replace r0 := cell_be hb r0
      replace r1 := cell_be hb r1
      replace f0 := frozen_be hb s1 f0
      replace f1 := frozen_be hb s1 f1
      replace hB := bel_step hB (Nat.le_refl _) hb
      have s2 : w.heap.size + 1 < w2.heap.size := by have := hb.size; omega
      have s3 : w.heap.size < w2.heap.size := by omega
      clear hb
      go_wp2_with fail
      obtain ⟨w3, hW⟩ : ∃ W, W = ((w2.setCell ⟨w.heap.size + 1, 0, none⟩ (.int .i64 (hiW Q))).setCell ⟨w.heap.size + 1, 1, none⟩ (.int .u64 (loW Q))).alloc (.cells #[.int .u64 (upW Q), .int .u64 (loW Q)] 41) := ⟨_, rfl⟩
      have t := two_set (x := .int .i64 (hiW Q)) (y := .int .u64 (loW Q)) r0 r1
      have q0 : w3.cell? ⟨w.heap.size + 1, 0, none⟩ = some (.int .i64 (hiW Q)) := by rw [hW]; exact cell_al t.1
      have q1 : w3.cell? ⟨w.heap.size + 1, 1, none⟩ = some (.int .u64 (loW Q)) := by rw [hW]; exact cell_al t.2
      have g0 : w3.frozen? ⟨w.heap.size + 1, 0, none⟩ = false := by rw [hW]; exact frozen_al (by simpa using s2) (by simp only [World.frozen?_setCell]; exact f0)
      have g1 : w3.frozen? ⟨w.heap.size + 1, 1, none⟩ = false := by rw [hW]; exact frozen_al (by simpa using s2) (by simp only [World.frozen?_setCell]; exact f1)
      replace a0 := cell_al (o := .cells #[.int .u64 (upW Q), .int .u64 (loW Q)] 41) (cell_set (b' := w.heap.size + 1) (o' := 1) (u := .int .u64 (loW Q)) (cell_set (b' := w.heap.size + 1) (o' := 0) (u := .int .i64 (hiW Q)) a0 (by omega)) (by omega))
      replace a1 := cell_al (o := .cells #[.int .u64 (upW Q), .int .u64 (loW Q)] 41) (cell_set (b' := w.heap.size + 1) (o' := 1) (u := .int .u64 (loW Q)) (cell_set (b' := w.heap.size + 1) (o' := 0) (u := .int .i64 (hiW Q)) a1 (by omega)) (by omega))
      rw [← hW] at a0 a1
      replace hB := ((hB.setCell (p := ⟨w.heap.size + 1, 0, none⟩) (by simp) (.int .i64 (hiW Q))).setCell (p := ⟨w.heap.size + 1, 1, none⟩) (by simp) (.int .u64 (loW Q))).alloc (by simp; exact hB.size) (.cells #[.int .u64 (upW Q), .int .u64 (loW Q)] 41)
      rw [← hW] at hB
      have s4 : w.heap.size + 1 < w3.heap.size := by rw [hW]; simp; omega
      rw [← hW]
      clear hW t r0 r1 f0 f1
      with_reducible refine (below_any _ _ _).mono ?_
      rintro e w' ⟨rfl, rfl⟩
      obtain ⟨W5, hW5⟩ : ∃ W5, W5 = w3.alloc (.cells #[.int .i64 (hiW a), .int .u64 (loW a)] 24) := ⟨_, rfl⟩
      have b0 : W5.cell? ⟨w.heap.size + 1, 0, none⟩ = some (.int .i64 (hiW Q)) := by rw [hW5]; exact cell_al q0
      have b1 : W5.cell? ⟨w.heap.size + 1, 1, none⟩ = some (.int .u64 (loW Q)) := by rw [hW5]; exact cell_al q1
      have b2 : W5.frozen? ⟨w.heap.size + 1, 0, none⟩ = false := by rw [hW5]; exact frozen_al s4 g0
      have b3 : W5.frozen? ⟨w.heap.size + 1, 1, none⟩ = false := by rw [hW5]; exact frozen_al s4 g1
      have bs : w.heap.size + 1 < W5.heap.size := by rw [hW5]; simp; omega
      have hB5 : Below w.heap.size w W5 := by rw [hW5]; exact hB.alloc hB.size _
      go_wp2_with fail
      rw [← hW5]
      clear hW5 hB q0 q1 g0 g1 s4 a0 a1
      go_region_with (first | (go_at_call 6; refine (of_any 1 _ (by decide) (by decide)).mono ?_; rintro e wo ⟨rfl, hbo⟩; (have o0 := cell_be hbo b0); (have o1 := cell_be hbo b1); (have o2 := frozen_be hbo bs b2); (have o3 := frozen_be hbo bs b3); (have os : w.heap.size + 1 < wo.heap.size := by have := hbo.size; have := bs; (try simp at *); omega)) | (go_at_call 21; refine (plus_any Q 1 _).mono ?_; rintro e wp ⟨rfl, hbp⟩; (have p0 := cell_be hbp o0); (have p1 := cell_be hbp o1); (have p2 := frozen_be hbp os o2); (have p3 := frozen_be hbp os o3); (have ps : w.heap.size + 1 < wp.heap.size := by have := hbp.size; have := os; (try simp at *); omega)) | (go_at_call 20; refine (minus_any (Q + 1) _).mono ?_; rintro e wm ⟨rfl, hbm⟩; (have m0 := cell_be hbm p0); (have m1 := cell_be hbm p1); (have m2 := frozen_be hbm ps p2); (have m3 := frozen_be hbm ps p3); (have ms : w.heap.size + 1 < wm.heap.size := by have := hbm.size; have := ps; (try simp at *); omega)))
      all_goals go_wp2_with fail
      all_goals
        have hB6 := bel_step (bel_step (bel_step hB5.drew (Nat.le_refl _) hbo) (Nat.le_refl _) hbp) (Nat.le_refl _) hbm
        exact bodyPost_ret (v := .tuple #[.agg #[.int .i64 (hiW (-(Q + 1))), .int .u64 (loW (-(Q + 1)))], .int .i64 (n - R), .int .i64 0]) (by simp [results, Tryd.results10, go_sem, m0, m1]) rfl ⟨rfl, (hB6.setCell (by simp) _).setCell (by simp) _⟩
  · have hpa : p = a := by rw [hp]; exact absI_pos a h
    rw [hpa] at hQ hR
    rw [← hQ, ← hR]
    have d1 : decide (hiW a < 0) = false := decide_eq_false (fun h2 => h (hneg.1 h2))
    have d2 : ¬ hiW a < 0 := fun h2 => h (hneg.1 h2)
    clear hp hneg hpa hQ hR ha hw
    go_enter Tryd.func10, Tryd.ntmps10
    go_wp2_with fail
    with_reducible refine (HA.out _).mono ?_
    rintro e w1 ⟨rfl, hb⟩
    have a0 := cell_be hb (cell_al (cell_new0 (n := w.heap.size) rfl))
    have a1 := cell_be hb (cell_al (cell_new1 (n := w.heap.size) rfl))
    have r0 := cell_be hb (cell_new0 (n := w.heap.size + 1) (by simp))
    have r1 := cell_be hb (cell_new1 (n := w.heap.size + 1) (by simp))
    have f0 := frozen_be hb (by simp) (frozen_new (n := w.heap.size + 1) (by simp) 0)
    have f1 := frozen_be hb (by simp) (frozen_new (n := w.heap.size + 1) (by simp) 1)
    have hB := (((Below.refl _ _).alloc (Nat.le_refl _) _).alloc (by simp) _).trans (hb.mono (by simp; omega))
    have s1 : w.heap.size + 1 < w1.heap.size := by have := hb.size; simp at this; omega
    clear hb
    go_wp2_with fail
    with_reducible refine (HP.out _).mono ?_
    rintro e w2 ⟨rfl, hb⟩
    replace a0 := cell_be hb a0
    replace a1 := cell_be hb a1
    replace r0 := cell_be hb r0
    replace r1 := cell_be hb r1
    replace f0 := frozen_be hb s1 f0
    replace f1 := frozen_be hb s1 f1
    replace hB := bel_step hB (Nat.le_refl _) hb
    have s2 : w.heap.size + 1 < w2.heap.size := by have := hb.size; omega
    have s3 : w.heap.size < w2.heap.size := by omega
    clear hb
    go_wp2_with fail
    obtain ⟨w3, hW⟩ : ∃ W, W = ((w2.setCell ⟨w.heap.size + 1, 0, none⟩ (.int .i64 (hiW Q))).setCell ⟨w.heap.size + 1, 1, none⟩ (.int .u64 (loW Q))).alloc (.cells #[.int .u64 (upW Q), .int .u64 (loW Q)] 41) := ⟨_, rfl⟩
    have t := two_set (x := .int .i64 (hiW Q)) (y := .int .u64 (loW Q)) r0 r1
    have q0 : w3.cell? ⟨w.heap.size + 1, 0, none⟩ = some (.int .i64 (hiW Q)) := by rw [hW]; exact cell_al t.1
    have q1 : w3.cell? ⟨w.heap.size + 1, 1, none⟩ = some (.int .u64 (loW Q)) := by rw [hW]; exact cell_al t.2
    have g0 : w3.frozen? ⟨w.heap.size + 1, 0, none⟩ = false := by rw [hW]; exact frozen_al (by simpa using s2) (by simp only [World.frozen?_setCell]; exact f0)
    have g1 : w3.frozen? ⟨w.heap.size + 1, 1, none⟩ = false := by rw [hW]; exact frozen_al (by simpa using s2) (by simp only [World.frozen?_setCell]; exact f1)
    replace a0 := cell_al (o := .cells #[.int .u64 (upW Q), .int .u64 (loW Q)] 41) (cell_set (b' := w.heap.size + 1) (o' := 1) (u := .int .u64 (loW Q)) (cell_set (b' := w.heap.size + 1) (o' := 0) (u := .int .i64 (hiW Q)) a0 (by omega)) (by omega))
    replace a1 := cell_al (o := .cells #[.int .u64 (upW Q), .int .u64 (loW Q)] 41) (cell_set (b' := w.heap.size + 1) (o' := 1) (u := .int .u64 (loW Q)) (cell_set (b' := w.heap.size + 1) (o' := 0) (u := .int .i64 (hiW Q)) a1 (by omega)) (by omega))
    rw [← hW] at a0 a1
    replace hB := ((hB.setCell (p := ⟨w.heap.size + 1, 0, none⟩) (by simp) (.int .i64 (hiW Q))).setCell (p := ⟨w.heap.size + 1, 1, none⟩) (by simp) (.int .u64 (loW Q))).alloc (by simp; exact hB.size) (.cells #[.int .u64 (upW Q), .int .u64 (loW Q)] 41)
    rw [← hW] at hB
    have s4 : w.heap.size + 1 < w3.heap.size := by rw [hW]; simp; omega
    rw [← hW]
    clear hW t r0 r1 f0 f1
    with_reducible refine (below_any _ _ _).mono ?_
    rintro e w' ⟨rfl, rfl⟩
    go_wp2
    exact bodyPost_ret (v := .tuple #[.agg #[.int .i64 (hiW Q), .int .u64 (loW Q)], .int .i64 R, .int .i64 0]) (by simp [results, Tryd.results10, go_sem, q0, q1, s4]) rfl ⟨rfl, ((hB.setCell (by simp) _).setCell (by simp) _).alloc (by simp; exact hB.size) _⟩
end Go.Proofs.YtohgpllonbplfaaDoor

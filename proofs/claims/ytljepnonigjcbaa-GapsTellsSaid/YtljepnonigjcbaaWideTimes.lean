/- The contract of wide.Times. -/
import Derived.Test.YtljepnonigjcbaaWideMul
namespace Go.Proofs.Ytljepnonigjcbaa
open Go.RowKit
set_option linter.unusedVariables false

theorem absI_int (n : Int) (h0 : -9223372036854775808 ≤ n) (h1 : n ≤ 9223372036854775807) : 0 ≤ absI n ∧ absI n ≤ 9223372036854775808 := by unfold absI; split <;> omega
theorem fits_int (n : Int) (h0 : -9223372036854775808 ≤ n) (h1 : n ≤ 9223372036854775807) : fits n := by unfold fits; omega
theorem index_one (x y : Value) (w : World) : (Instr.index 96 (.agg #[x, y]) (.int .i64 1)).run Try.prog w = .ok y w := by kernel_rfl
set_option maxRecDepth 100000 in
set_option maxHeartbeats 4000000 in
theorem times_any (a n : Int) (w : World) (ha : fits a) (h0 : -9223372036854775808 ≤ n) (h1 : n ≤ 9223372036854775807) :
    Calls Try.prog 28 #[.agg #[.int .i64 (hiW a), .int .u64 (loW a)], .int .i64 n] w fun e w' => e = .returned (.tuple #[.agg #[.int .i64 (hiW (sumOf (a * n))), .int .u64 (loW (sumOf (a * n)))], .bool (decide (fits (a * n)))]) ∧ Below w.heap.size w w' := by
  obtain ⟨x0, x1⟩ := absI_bd a ha
  obtain ⟨y0, y1⟩ := absI_int n h0 h1
  obtain ⟨sp1, sp2⟩ := small_parts (absI n) y0 y1
  have tp := times_parts (absI a) (absI n) x0 (by omega) y0 (by omega)
  have HA := Lib.hid (fun w => amount_any a w ha)
  have HN := Lib.hid (fun w => amount_any n w (fits_int n h0 h1))
  have HO := Lib.hid (fun w => of_any n w h0 h1)
  rw [sp1, sp2] at HN
  have hfar := times_far a n
  have hsg := times_sign a n
  have hneg : (hiW a < 0 ↔ a < 0) := hiW_neg a ha
  obtain ⟨x, hx⟩ : ∃ x, x = absI a := ⟨_, rfl⟩
  obtain ⟨y, hy⟩ : ∃ y, y = absI n := ⟨_, rfl⟩
  rw [← hx] at x0 x1 tp HA hfar hsg
  rw [← hy] at y0 y1 tp HN hfar hsg
  clear hx hy sp1 sp2
  obtain ⟨P, hP⟩ : ∃ P, P = x * y := ⟨_, rfl⟩
  simp only [← hP] at tp hfar hsg
  have hP0 : 0 ≤ P := by rw [hP]; exact Int.mul_nonneg x0 y0
  have hyb : y ≤ 18446744073709551615 := by omega
  have HM1 := Lib.hid (fun w => mul64_any (upW x) y w (upW_bd x).1 (upW_bd x).2 y0 hyb)
  have HM2 := Lib.hid (fun w => mul64_any (loW x) y w (loW_bd x).1 (loW_bd x).2 y0 hyb)
  obtain ⟨o, ho⟩ : ∃ o, o = upW x * y / 18446744073709551616 := ⟨_, rfl⟩
  obtain ⟨h, hh⟩ : ∃ h, h = upW x * y % 18446744073709551616 := ⟨_, rfl⟩
  obtain ⟨k, hk⟩ : ∃ k, k = loW x * y / 18446744073709551616 := ⟨_, rfl⟩
  simp only [← ho, ← hh, ← hk] at tp HM1 HM2
  obtain ⟨t1, t2, t3, t4, t5, t6, t7⟩ := tp
  rw [t6] at HM2
  have hh0 : 0 ≤ h := by rw [hh]; omega
  have hk0 : 0 ≤ k := by rw [hk]; exact Int.ediv_nonneg (Int.mul_nonneg (loW_bd x).1 y0) (by omega)
  have ea := add64_run h k 0 hh0 hk0 (by omega) (by omega)
  simp only [Int.add_zero] at ea
  obtain ⟨c, hc⟩ : ∃ c, c = (h + k) / 18446744073709551616 := ⟨_, rfl⟩
  obtain ⟨g, hg⟩ : ∃ g, g = (h + k) % 18446744073709551616 := ⟨_, rfl⟩
  rw [← hc] at t1 t3 t4 t5
  rw [← hg] at t7
  simp only [← hc, ← hg] at ea
  clear hc hg ho hh hk hh0 hk0 t6 hyb x0 x1 y0 y1
  have HT7 := Lib.hid t7
  have HT1 := Lib.hid t1
  have HFAR := Lib.hid hfar
  have HSG := Lib.hid hsg
  have HNEG := Lib.hid hneg
  clear t1 t7 hfar hsg hneg hP
  have HF := Lib.hid ha
  clear ha
  by_cases hbig : 340282366920938463463374607431768211456 ≤ P
  · have hnf := HFAR.out hbig
    rw [sumOf_no hnf, decide_eq_false hnf, hiW_zero, loW_zero]
    have hoc : ¬ o + c = 0 := fun h => by have := HT1.out.1 h; omega
    have d1 : (o + c != 0) = true := by simpa using hoc
    clear hnf hoc
    have ix := index_one (.int .u64 0) (.int .u64 y)
    go_enter Try.func28, Try.ntmps28
    go_wp2_with fail
    with_reducible refine (HA.out _).mono ?_
    rintro e w1 ⟨rfl, hb1⟩
    go_wp2_with fail
    with_reducible refine (HO.out _).mono ?_
    rintro e w2 ⟨rfl, hb2⟩
    go_wp2_with fail
    with_reducible refine (HN.out _).mono ?_
    rintro e w3 ⟨rfl, hb3⟩
    have hb := bel_step (bel_step hb1 (Nat.le_refl _) hb2) (Nat.le_refl _) hb3
    obtain ⟨W4, hW4⟩ : ∃ W4, W4 = w3.alloc (.cells #[.int .u64 (upW x), .int .u64 (loW x)] 96) := ⟨_, rfl⟩
    have s4 : w.heap.size + 1 < W4.heap.size := by have := hb.size; rw [hW4]; simp at this; simp; omega
    have s3 : w3.heap.size < W4.heap.size := by rw [hW4]; simp
    have s0 : w.heap.size < W4.heap.size := by omega
    have a0 : W4.cell? ⟨w.heap.size, 0, none⟩ = some (.int .i64 (hiW a)) := by rw [hW4]; exact cell_al (cell_be hb (cell_al (cell_new0 (n := w.heap.size) rfl)))
    have a1 : W4.cell? ⟨w.heap.size, 1, none⟩ = some (.int .u64 (loW a)) := by rw [hW4]; exact cell_al (cell_be hb (cell_al (cell_new1 (n := w.heap.size) rfl)))
    have r0 : W4.cell? ⟨w.heap.size + 1, 0, none⟩ = some (.int .i64 0) := by rw [hW4]; exact cell_al (cell_be hb (cell_new0 (n := w.heap.size + 1) (by simp)))
    have r1 : W4.cell? ⟨w.heap.size + 1, 1, none⟩ = some (.int .u64 0) := by rw [hW4]; exact cell_al (cell_be hb (cell_new1 (n := w.heap.size + 1) (by simp)))
    have f0 : W4.frozen? ⟨w.heap.size + 1, 0, none⟩ = false := by rw [hW4]; exact frozen_al (by have := hb.size; simp at this; omega) (frozen_be hb (by simp) (frozen_new (n := w.heap.size + 1) (by simp) 0))
    have f1 : W4.frozen? ⟨w.heap.size + 1, 1, none⟩ = false := by rw [hW4]; exact frozen_al (by have := hb.size; simp at this; omega) (frozen_be hb (by simp) (frozen_new (n := w.heap.size + 1) (by simp) 1))
    have x0 : W4.cell? ⟨w3.heap.size, 0, none⟩ = some (.int .u64 (upW x)) := by rw [hW4]; exact cell_new0 rfl
    have x1 : W4.cell? ⟨w3.heap.size, 1, none⟩ = some (.int .u64 (loW x)) := by rw [hW4]; exact cell_new1 rfl
    have hB : Below w.heap.size w W4 := by rw [hW4]; exact ((((Below.refl _ _).alloc (Nat.le_refl _) _).alloc (by simp) _).trans (hb.mono (by simp; omega))).alloc (by have := hb.size; simp at this; omega) _
    clear hb hb1 hb2 hb3
    go_wp2_with fail
    rw [← hW4]
    clear hW4
    with_reducible refine (HM1.out _).mono ?_
    rintro e w' ⟨rfl, rfl⟩
    go_wp2_with fail
    with_reducible refine (HM2.out _).mono ?_
    rintro e w' ⟨rfl, rfl⟩
    go_wp2
    exact bodyPost_ret (v := .tuple #[.agg #[.int .i64 0, .int .u64 0], .bool false]) (by simp [results, Try.results28, go_sem, r0, r1]) rfl ⟨rfl, (hB.setCell (by simp) _).setCell (by simp) _⟩
  · have hlt : P < 340282366920938463463374607431768211456 := by omega
    obtain rfl : g = upW P := HT7.out hlt
    have d1 : (o + c != 0) = false := by simpa using HT1.out.2 hlt
    clear hbig
    by_cases ga : a < 0 <;> by_cases gn : n < 0
    · have hv : a * n = P := by rw [HSG.out]; simp [withSign, ga, gn]
      rw [hv]
      have HS := Lib.hid (fun w => signed_no P w hP0 hlt)
      have ea2 : decide (hiW a < 0) = true := by rw [decide_eq_true_iff, HNEG.out]; exact ga
      have en2 : decide (n < 0) = true := by simpa using gn
      clear ga gn hv
      have ix := index_one (.int .u64 0) (.int .u64 y)
      go_enter Try.func28, Try.ntmps28
      go_wp2_with fail
      with_reducible refine (HA.out _).mono ?_
      rintro e w1 ⟨rfl, hb1⟩
      go_wp2_with fail
      with_reducible refine (HO.out _).mono ?_
      rintro e w2 ⟨rfl, hb2⟩
      go_wp2_with fail
      with_reducible refine (HN.out _).mono ?_
      rintro e w3 ⟨rfl, hb3⟩
      have hb := bel_step (bel_step hb1 (Nat.le_refl _) hb2) (Nat.le_refl _) hb3
      obtain ⟨W4, hW4⟩ : ∃ W4, W4 = w3.alloc (.cells #[.int .u64 (upW x), .int .u64 (loW x)] 96) := ⟨_, rfl⟩
      have s4 : w.heap.size + 1 < W4.heap.size := by have := hb.size; rw [hW4]; simp at this; simp; omega
      have s3 : w3.heap.size < W4.heap.size := by rw [hW4]; simp
      have s0 : w.heap.size < W4.heap.size := by omega
      have a0 : W4.cell? ⟨w.heap.size, 0, none⟩ = some (.int .i64 (hiW a)) := by rw [hW4]; exact cell_al (cell_be hb (cell_al (cell_new0 (n := w.heap.size) rfl)))
      have a1 : W4.cell? ⟨w.heap.size, 1, none⟩ = some (.int .u64 (loW a)) := by rw [hW4]; exact cell_al (cell_be hb (cell_al (cell_new1 (n := w.heap.size) rfl)))
      have r0 : W4.cell? ⟨w.heap.size + 1, 0, none⟩ = some (.int .i64 0) := by rw [hW4]; exact cell_al (cell_be hb (cell_new0 (n := w.heap.size + 1) (by simp)))
      have r1 : W4.cell? ⟨w.heap.size + 1, 1, none⟩ = some (.int .u64 0) := by rw [hW4]; exact cell_al (cell_be hb (cell_new1 (n := w.heap.size + 1) (by simp)))
      have f0 : W4.frozen? ⟨w.heap.size + 1, 0, none⟩ = false := by rw [hW4]; exact frozen_al (by have := hb.size; simp at this; omega) (frozen_be hb (by simp) (frozen_new (n := w.heap.size + 1) (by simp) 0))
      have f1 : W4.frozen? ⟨w.heap.size + 1, 1, none⟩ = false := by rw [hW4]; exact frozen_al (by have := hb.size; simp at this; omega) (frozen_be hb (by simp) (frozen_new (n := w.heap.size + 1) (by simp) 1))
      have x0 : W4.cell? ⟨w3.heap.size, 0, none⟩ = some (.int .u64 (upW x)) := by rw [hW4]; exact cell_new0 rfl
      have x1 : W4.cell? ⟨w3.heap.size, 1, none⟩ = some (.int .u64 (loW x)) := by rw [hW4]; exact cell_new1 rfl
      have hB : Below w.heap.size w W4 := by rw [hW4]; exact ((((Below.refl _ _).alloc (Nat.le_refl _) _).alloc (by simp) _).trans (hb.mono (by simp; omega))).alloc (by have := hb.size; simp at this; omega) _
      clear hb hb1 hb2 hb3
      go_wp2_with fail
      rw [← hW4]
      clear hW4
      with_reducible refine (HM1.out _).mono ?_
      rintro e w' ⟨rfl, rfl⟩
      go_wp2_with fail
      with_reducible refine (HM2.out _).mono ?_
      rintro e w' ⟨rfl, rfl⟩
      go_wp2_with fail
      with_reducible refine (below_any _ _ _).mono ?_
      rintro e w' ⟨rfl, rfl⟩
      go_wp2_with fail
      with_reducible refine (HS.out _).mono ?_
      rintro e w5 ⟨rfl, hb5⟩
      have s5 : w.heap.size + 1 < w5.heap.size := by have := hb5.size; simp at this; omega
      have q0 := cell_be hb5 (cell_al r0)
      have q1 := cell_be hb5 (cell_al r1)
      have q2 := frozen_be hb5 (by simp; omega) (frozen_al s4 f0)
      have q3 := frozen_be hb5 (by simp; omega) (frozen_al s4 f1)
      have hB5 := bel_step (hB.alloc hB.size _) (Nat.le_refl _) hb5
      clear hb5 hB
      go_wp2
      exact bodyPost_ret (v := .tuple #[.agg #[.int .i64 (hiW (sumOf P)), .int .u64 (loW (sumOf P))], .bool (decide (fits P))]) (by simp [results, Try.results28, go_sem, q0, q1]) rfl ⟨rfl, (hB5.setCell (by simp) _).setCell (by simp) _⟩
    · by_cases hz : P = 0
      · subst hz
        have hv : a * n = 0 := by rw [HSG.out]; simp [withSign]
        rw [hv]
        have HS := Lib.hid (fun w => signed_no 0 w hP0 hlt)
        rw [show upW 0 = 0 by decide] at HS ea
        rw [loW_zero] at HM2
        simp only [show loW 0 = 0 from loW_zero] at HS
        have ea2 : decide (hiW a < 0) = true := by rw [decide_eq_true_iff, HNEG.out]; exact ga
        have en2 : decide (n < 0) = false := by simpa using gn
        clear ga gn hv
        have ix := index_one (.int .u64 0) (.int .u64 y)
        go_enter Try.func28, Try.ntmps28
        go_wp2_with fail
        with_reducible refine (HA.out _).mono ?_
        rintro e w1 ⟨rfl, hb1⟩
        go_wp2_with fail
        with_reducible refine (HO.out _).mono ?_
        rintro e w2 ⟨rfl, hb2⟩
        go_wp2_with fail
        with_reducible refine (HN.out _).mono ?_
        rintro e w3 ⟨rfl, hb3⟩
        have hb := bel_step (bel_step hb1 (Nat.le_refl _) hb2) (Nat.le_refl _) hb3
        obtain ⟨W4, hW4⟩ : ∃ W4, W4 = w3.alloc (.cells #[.int .u64 (upW x), .int .u64 (loW x)] 96) := ⟨_, rfl⟩
        have s4 : w.heap.size + 1 < W4.heap.size := by have := hb.size; rw [hW4]; simp at this; simp; omega
        have s3 : w3.heap.size < W4.heap.size := by rw [hW4]; simp
        have s0 : w.heap.size < W4.heap.size := by omega
        have a0 : W4.cell? ⟨w.heap.size, 0, none⟩ = some (.int .i64 (hiW a)) := by rw [hW4]; exact cell_al (cell_be hb (cell_al (cell_new0 (n := w.heap.size) rfl)))
        have a1 : W4.cell? ⟨w.heap.size, 1, none⟩ = some (.int .u64 (loW a)) := by rw [hW4]; exact cell_al (cell_be hb (cell_al (cell_new1 (n := w.heap.size) rfl)))
        have r0 : W4.cell? ⟨w.heap.size + 1, 0, none⟩ = some (.int .i64 0) := by rw [hW4]; exact cell_al (cell_be hb (cell_new0 (n := w.heap.size + 1) (by simp)))
        have r1 : W4.cell? ⟨w.heap.size + 1, 1, none⟩ = some (.int .u64 0) := by rw [hW4]; exact cell_al (cell_be hb (cell_new1 (n := w.heap.size + 1) (by simp)))
        have f0 : W4.frozen? ⟨w.heap.size + 1, 0, none⟩ = false := by rw [hW4]; exact frozen_al (by have := hb.size; simp at this; omega) (frozen_be hb (by simp) (frozen_new (n := w.heap.size + 1) (by simp) 0))
        have f1 : W4.frozen? ⟨w.heap.size + 1, 1, none⟩ = false := by rw [hW4]; exact frozen_al (by have := hb.size; simp at this; omega) (frozen_be hb (by simp) (frozen_new (n := w.heap.size + 1) (by simp) 1))
        have x0 : W4.cell? ⟨w3.heap.size, 0, none⟩ = some (.int .u64 (upW x)) := by rw [hW4]; exact cell_new0 rfl
        have x1 : W4.cell? ⟨w3.heap.size, 1, none⟩ = some (.int .u64 (loW x)) := by rw [hW4]; exact cell_new1 rfl
        have hB : Below w.heap.size w W4 := by rw [hW4]; exact ((((Below.refl _ _).alloc (Nat.le_refl _) _).alloc (by simp) _).trans (hb.mono (by simp; omega))).alloc (by have := hb.size; simp at this; omega) _
        clear hb hb1 hb2 hb3
        go_wp2_with fail
        rw [← hW4]
        clear hW4
        with_reducible refine (HM1.out _).mono ?_
        rintro e w' ⟨rfl, rfl⟩
        go_wp2_with fail
        with_reducible refine (HM2.out _).mono ?_
        rintro e w' ⟨rfl, rfl⟩
        go_wp2_with fail
        with_reducible refine (below_any _ _ _).mono ?_
        rintro e w' ⟨rfl, rfl⟩
        go_wp2_with fail
        with_reducible refine (HS.out _).mono ?_
        rintro e w5 ⟨rfl, hb5⟩
        have s5 : w.heap.size + 1 < w5.heap.size := by have := hb5.size; simp at this; omega
        have q0 := cell_be hb5 (cell_al r0)
        have q1 := cell_be hb5 (cell_al r1)
        have q2 := frozen_be hb5 (by simp; omega) (frozen_al s4 f0)
        have q3 := frozen_be hb5 (by simp; omega) (frozen_al s4 f1)
        have hB5 := bel_step (hB.alloc hB.size _) (Nat.le_refl _) hb5
        clear hb5 hB
        go_wp2
        exact bodyPost_ret (v := .tuple #[.agg #[.int .i64 (hiW (sumOf 0)), .int .u64 (loW (sumOf 0))], .bool (decide (fits 0))]) (by simp [results, Try.results28, go_sem, q0, q1]) rfl ⟨rfl, (hB5.setCell (by simp) _).setCell (by simp) _⟩
      · have hv : a * n = -P := by rw [HSG.out]; simp [withSign, ga, gn]
        rw [hv]
        have HS := Lib.hid (fun w => signed_yes P w (by omega) hlt)
        have ea2 : decide (hiW a < 0) = true := by rw [decide_eq_true_iff, HNEG.out]; exact ga
        have en2 : decide (n < 0) = false := by simpa using gn
        have hnz : ¬ (upW P = 0 ∧ loW P = 0) := fun h => hz (by have := up_lo P hP0 hlt; omega)
        clear ga gn hv
        by_cases hu : upW P = 0
        · have hl2 : (loW P != 0) = true := by simp; exact fun h => hnz ⟨hu, h⟩
          have hu2 : (upW P != 0) = false := by simp [hu]
          clear hu hnz hz
          have ix := index_one (.int .u64 0) (.int .u64 y)
          go_enter Try.func28, Try.ntmps28
          go_wp2_with fail
          with_reducible refine (HA.out _).mono ?_
          rintro e w1 ⟨rfl, hb1⟩
          go_wp2_with fail
          with_reducible refine (HO.out _).mono ?_
          rintro e w2 ⟨rfl, hb2⟩
          go_wp2_with fail
          with_reducible refine (HN.out _).mono ?_
          rintro e w3 ⟨rfl, hb3⟩
          have hb := bel_step (bel_step hb1 (Nat.le_refl _) hb2) (Nat.le_refl _) hb3
          obtain ⟨W4, hW4⟩ : ∃ W4, W4 = w3.alloc (.cells #[.int .u64 (upW x), .int .u64 (loW x)] 96) := ⟨_, rfl⟩
          have s4 : w.heap.size + 1 < W4.heap.size := by have := hb.size; rw [hW4]; simp at this; simp; omega
          have s3 : w3.heap.size < W4.heap.size := by rw [hW4]; simp
          have s0 : w.heap.size < W4.heap.size := by omega
          have a0 : W4.cell? ⟨w.heap.size, 0, none⟩ = some (.int .i64 (hiW a)) := by rw [hW4]; exact cell_al (cell_be hb (cell_al (cell_new0 (n := w.heap.size) rfl)))
          have a1 : W4.cell? ⟨w.heap.size, 1, none⟩ = some (.int .u64 (loW a)) := by rw [hW4]; exact cell_al (cell_be hb (cell_al (cell_new1 (n := w.heap.size) rfl)))
          have r0 : W4.cell? ⟨w.heap.size + 1, 0, none⟩ = some (.int .i64 0) := by rw [hW4]; exact cell_al (cell_be hb (cell_new0 (n := w.heap.size + 1) (by simp)))
          have r1 : W4.cell? ⟨w.heap.size + 1, 1, none⟩ = some (.int .u64 0) := by rw [hW4]; exact cell_al (cell_be hb (cell_new1 (n := w.heap.size + 1) (by simp)))
          have f0 : W4.frozen? ⟨w.heap.size + 1, 0, none⟩ = false := by rw [hW4]; exact frozen_al (by have := hb.size; simp at this; omega) (frozen_be hb (by simp) (frozen_new (n := w.heap.size + 1) (by simp) 0))
          have f1 : W4.frozen? ⟨w.heap.size + 1, 1, none⟩ = false := by rw [hW4]; exact frozen_al (by have := hb.size; simp at this; omega) (frozen_be hb (by simp) (frozen_new (n := w.heap.size + 1) (by simp) 1))
          have x0 : W4.cell? ⟨w3.heap.size, 0, none⟩ = some (.int .u64 (upW x)) := by rw [hW4]; exact cell_new0 rfl
          have x1 : W4.cell? ⟨w3.heap.size, 1, none⟩ = some (.int .u64 (loW x)) := by rw [hW4]; exact cell_new1 rfl
          have hB : Below w.heap.size w W4 := by rw [hW4]; exact ((((Below.refl _ _).alloc (Nat.le_refl _) _).alloc (by simp) _).trans (hb.mono (by simp; omega))).alloc (by have := hb.size; simp at this; omega) _
          clear hb hb1 hb2 hb3
          go_wp2_with fail
          rw [← hW4]
          clear hW4
          with_reducible refine (HM1.out _).mono ?_
          rintro e w' ⟨rfl, rfl⟩
          go_wp2_with fail
          with_reducible refine (HM2.out _).mono ?_
          rintro e w' ⟨rfl, rfl⟩
          go_wp2_with fail
          with_reducible refine (below_any _ _ _).mono ?_
          rintro e w' ⟨rfl, rfl⟩
          go_wp2_with fail
          with_reducible refine (HS.out _).mono ?_
          rintro e w5 ⟨rfl, hb5⟩
          have s5 : w.heap.size + 1 < w5.heap.size := by have := hb5.size; simp at this; omega
          have q0 := cell_be hb5 (cell_al r0)
          have q1 := cell_be hb5 (cell_al r1)
          have q2 := frozen_be hb5 (by simp; omega) (frozen_al s4 f0)
          have q3 := frozen_be hb5 (by simp; omega) (frozen_al s4 f1)
          have hB5 := bel_step (hB.alloc hB.size _) (Nat.le_refl _) hb5
          clear hb5 hB
          go_wp2
          exact bodyPost_ret (v := .tuple #[.agg #[.int .i64 (hiW (sumOf (-P))), .int .u64 (loW (sumOf (-P)))], .bool (decide (fits (-P)))]) (by simp [results, Try.results28, go_sem, q0, q1]) rfl ⟨rfl, (hB5.setCell (by simp) _).setCell (by simp) _⟩
        · have hu2 : (upW P != 0) = true := by simpa using hu
          clear hu hnz hz
          have ix := index_one (.int .u64 0) (.int .u64 y)
          go_enter Try.func28, Try.ntmps28
          go_wp2_with fail
          with_reducible refine (HA.out _).mono ?_
          rintro e w1 ⟨rfl, hb1⟩
          go_wp2_with fail
          with_reducible refine (HO.out _).mono ?_
          rintro e w2 ⟨rfl, hb2⟩
          go_wp2_with fail
          with_reducible refine (HN.out _).mono ?_
          rintro e w3 ⟨rfl, hb3⟩
          have hb := bel_step (bel_step hb1 (Nat.le_refl _) hb2) (Nat.le_refl _) hb3
          obtain ⟨W4, hW4⟩ : ∃ W4, W4 = w3.alloc (.cells #[.int .u64 (upW x), .int .u64 (loW x)] 96) := ⟨_, rfl⟩
          have s4 : w.heap.size + 1 < W4.heap.size := by have := hb.size; rw [hW4]; simp at this; simp; omega
          have s3 : w3.heap.size < W4.heap.size := by rw [hW4]; simp
          have s0 : w.heap.size < W4.heap.size := by omega
          have a0 : W4.cell? ⟨w.heap.size, 0, none⟩ = some (.int .i64 (hiW a)) := by rw [hW4]; exact cell_al (cell_be hb (cell_al (cell_new0 (n := w.heap.size) rfl)))
          have a1 : W4.cell? ⟨w.heap.size, 1, none⟩ = some (.int .u64 (loW a)) := by rw [hW4]; exact cell_al (cell_be hb (cell_al (cell_new1 (n := w.heap.size) rfl)))
          have r0 : W4.cell? ⟨w.heap.size + 1, 0, none⟩ = some (.int .i64 0) := by rw [hW4]; exact cell_al (cell_be hb (cell_new0 (n := w.heap.size + 1) (by simp)))
          have r1 : W4.cell? ⟨w.heap.size + 1, 1, none⟩ = some (.int .u64 0) := by rw [hW4]; exact cell_al (cell_be hb (cell_new1 (n := w.heap.size + 1) (by simp)))
          have f0 : W4.frozen? ⟨w.heap.size + 1, 0, none⟩ = false := by rw [hW4]; exact frozen_al (by have := hb.size; simp at this; omega) (frozen_be hb (by simp) (frozen_new (n := w.heap.size + 1) (by simp) 0))
          have f1 : W4.frozen? ⟨w.heap.size + 1, 1, none⟩ = false := by rw [hW4]; exact frozen_al (by have := hb.size; simp at this; omega) (frozen_be hb (by simp) (frozen_new (n := w.heap.size + 1) (by simp) 1))
          have x0 : W4.cell? ⟨w3.heap.size, 0, none⟩ = some (.int .u64 (upW x)) := by rw [hW4]; exact cell_new0 rfl
          have x1 : W4.cell? ⟨w3.heap.size, 1, none⟩ = some (.int .u64 (loW x)) := by rw [hW4]; exact cell_new1 rfl
          have hB : Below w.heap.size w W4 := by rw [hW4]; exact ((((Below.refl _ _).alloc (Nat.le_refl _) _).alloc (by simp) _).trans (hb.mono (by simp; omega))).alloc (by have := hb.size; simp at this; omega) _
          clear hb hb1 hb2 hb3
          go_wp2_with fail
          rw [← hW4]
          clear hW4
          with_reducible refine (HM1.out _).mono ?_
          rintro e w' ⟨rfl, rfl⟩
          go_wp2_with fail
          with_reducible refine (HM2.out _).mono ?_
          rintro e w' ⟨rfl, rfl⟩
          go_wp2_with fail
          with_reducible refine (below_any _ _ _).mono ?_
          rintro e w' ⟨rfl, rfl⟩
          go_wp2_with fail
          with_reducible refine (HS.out _).mono ?_
          rintro e w5 ⟨rfl, hb5⟩
          have s5 : w.heap.size + 1 < w5.heap.size := by have := hb5.size; simp at this; omega
          have q0 := cell_be hb5 (cell_al r0)
          have q1 := cell_be hb5 (cell_al r1)
          have q2 := frozen_be hb5 (by simp; omega) (frozen_al s4 f0)
          have q3 := frozen_be hb5 (by simp; omega) (frozen_al s4 f1)
          have hB5 := bel_step (hB.alloc hB.size _) (Nat.le_refl _) hb5
          clear hb5 hB
          go_wp2
          exact bodyPost_ret (v := .tuple #[.agg #[.int .i64 (hiW (sumOf (-P))), .int .u64 (loW (sumOf (-P)))], .bool (decide (fits (-P)))]) (by simp [results, Try.results28, go_sem, q0, q1]) rfl ⟨rfl, (hB5.setCell (by simp) _).setCell (by simp) _⟩
    · by_cases hz : P = 0
      · subst hz
        have hv : a * n = 0 := by rw [HSG.out]; simp [withSign]
        rw [hv]
        have HS := Lib.hid (fun w => signed_no 0 w hP0 hlt)
        rw [show upW 0 = 0 by decide] at HS ea
        rw [loW_zero] at HM2
        simp only [show loW 0 = 0 from loW_zero] at HS
        have ea2 : decide (hiW a < 0) = false := by rw [decide_eq_false_iff_not, HNEG.out]; exact ga
        have en2 : decide (n < 0) = true := by simpa using gn
        clear ga gn hv
        have ix := index_one (.int .u64 0) (.int .u64 y)
        go_enter Try.func28, Try.ntmps28
        go_wp2_with fail
        with_reducible refine (HA.out _).mono ?_
        rintro e w1 ⟨rfl, hb1⟩
        go_wp2_with fail
        with_reducible refine (HO.out _).mono ?_
        rintro e w2 ⟨rfl, hb2⟩
        go_wp2_with fail
        with_reducible refine (HN.out _).mono ?_
        rintro e w3 ⟨rfl, hb3⟩
        have hb := bel_step (bel_step hb1 (Nat.le_refl _) hb2) (Nat.le_refl _) hb3
        obtain ⟨W4, hW4⟩ : ∃ W4, W4 = w3.alloc (.cells #[.int .u64 (upW x), .int .u64 (loW x)] 96) := ⟨_, rfl⟩
        have s4 : w.heap.size + 1 < W4.heap.size := by have := hb.size; rw [hW4]; simp at this; simp; omega
        have s3 : w3.heap.size < W4.heap.size := by rw [hW4]; simp
        have s0 : w.heap.size < W4.heap.size := by omega
        have a0 : W4.cell? ⟨w.heap.size, 0, none⟩ = some (.int .i64 (hiW a)) := by rw [hW4]; exact cell_al (cell_be hb (cell_al (cell_new0 (n := w.heap.size) rfl)))
        have a1 : W4.cell? ⟨w.heap.size, 1, none⟩ = some (.int .u64 (loW a)) := by rw [hW4]; exact cell_al (cell_be hb (cell_al (cell_new1 (n := w.heap.size) rfl)))
        have r0 : W4.cell? ⟨w.heap.size + 1, 0, none⟩ = some (.int .i64 0) := by rw [hW4]; exact cell_al (cell_be hb (cell_new0 (n := w.heap.size + 1) (by simp)))
        have r1 : W4.cell? ⟨w.heap.size + 1, 1, none⟩ = some (.int .u64 0) := by rw [hW4]; exact cell_al (cell_be hb (cell_new1 (n := w.heap.size + 1) (by simp)))
        have f0 : W4.frozen? ⟨w.heap.size + 1, 0, none⟩ = false := by rw [hW4]; exact frozen_al (by have := hb.size; simp at this; omega) (frozen_be hb (by simp) (frozen_new (n := w.heap.size + 1) (by simp) 0))
        have f1 : W4.frozen? ⟨w.heap.size + 1, 1, none⟩ = false := by rw [hW4]; exact frozen_al (by have := hb.size; simp at this; omega) (frozen_be hb (by simp) (frozen_new (n := w.heap.size + 1) (by simp) 1))
        have x0 : W4.cell? ⟨w3.heap.size, 0, none⟩ = some (.int .u64 (upW x)) := by rw [hW4]; exact cell_new0 rfl
        have x1 : W4.cell? ⟨w3.heap.size, 1, none⟩ = some (.int .u64 (loW x)) := by rw [hW4]; exact cell_new1 rfl
        have hB : Below w.heap.size w W4 := by rw [hW4]; exact ((((Below.refl _ _).alloc (Nat.le_refl _) _).alloc (by simp) _).trans (hb.mono (by simp; omega))).alloc (by have := hb.size; simp at this; omega) _
        clear hb hb1 hb2 hb3
        go_wp2_with fail
        rw [← hW4]
        clear hW4
        with_reducible refine (HM1.out _).mono ?_
        rintro e w' ⟨rfl, rfl⟩
        go_wp2_with fail
        with_reducible refine (HM2.out _).mono ?_
        rintro e w' ⟨rfl, rfl⟩
        go_wp2_with fail
        with_reducible refine (below_any _ _ _).mono ?_
        rintro e w' ⟨rfl, rfl⟩
        go_wp2_with fail
        with_reducible refine (HS.out _).mono ?_
        rintro e w5 ⟨rfl, hb5⟩
        have s5 : w.heap.size + 1 < w5.heap.size := by have := hb5.size; simp at this; omega
        have q0 := cell_be hb5 (cell_al r0)
        have q1 := cell_be hb5 (cell_al r1)
        have q2 := frozen_be hb5 (by simp; omega) (frozen_al s4 f0)
        have q3 := frozen_be hb5 (by simp; omega) (frozen_al s4 f1)
        have hB5 := bel_step (hB.alloc hB.size _) (Nat.le_refl _) hb5
        clear hb5 hB
        go_wp2
        exact bodyPost_ret (v := .tuple #[.agg #[.int .i64 (hiW (sumOf 0)), .int .u64 (loW (sumOf 0))], .bool (decide (fits 0))]) (by simp [results, Try.results28, go_sem, q0, q1]) rfl ⟨rfl, (hB5.setCell (by simp) _).setCell (by simp) _⟩
      · have hv : a * n = -P := by rw [HSG.out]; simp [withSign, ga, gn]
        rw [hv]
        have HS := Lib.hid (fun w => signed_yes P w (by omega) hlt)
        have ea2 : decide (hiW a < 0) = false := by rw [decide_eq_false_iff_not, HNEG.out]; exact ga
        have en2 : decide (n < 0) = true := by simpa using gn
        have hnz : ¬ (upW P = 0 ∧ loW P = 0) := fun h => hz (by have := up_lo P hP0 hlt; omega)
        clear ga gn hv
        by_cases hu : upW P = 0
        · have hl2 : (loW P != 0) = true := by simp; exact fun h => hnz ⟨hu, h⟩
          have hu2 : (upW P != 0) = false := by simp [hu]
          clear hu hnz hz
          have ix := index_one (.int .u64 0) (.int .u64 y)
          go_enter Try.func28, Try.ntmps28
          go_wp2_with fail
          with_reducible refine (HA.out _).mono ?_
          rintro e w1 ⟨rfl, hb1⟩
          go_wp2_with fail
          with_reducible refine (HO.out _).mono ?_
          rintro e w2 ⟨rfl, hb2⟩
          go_wp2_with fail
          with_reducible refine (HN.out _).mono ?_
          rintro e w3 ⟨rfl, hb3⟩
          have hb := bel_step (bel_step hb1 (Nat.le_refl _) hb2) (Nat.le_refl _) hb3
          obtain ⟨W4, hW4⟩ : ∃ W4, W4 = w3.alloc (.cells #[.int .u64 (upW x), .int .u64 (loW x)] 96) := ⟨_, rfl⟩
          have s4 : w.heap.size + 1 < W4.heap.size := by have := hb.size; rw [hW4]; simp at this; simp; omega
          have s3 : w3.heap.size < W4.heap.size := by rw [hW4]; simp
          have s0 : w.heap.size < W4.heap.size := by omega
          have a0 : W4.cell? ⟨w.heap.size, 0, none⟩ = some (.int .i64 (hiW a)) := by rw [hW4]; exact cell_al (cell_be hb (cell_al (cell_new0 (n := w.heap.size) rfl)))
          have a1 : W4.cell? ⟨w.heap.size, 1, none⟩ = some (.int .u64 (loW a)) := by rw [hW4]; exact cell_al (cell_be hb (cell_al (cell_new1 (n := w.heap.size) rfl)))
          have r0 : W4.cell? ⟨w.heap.size + 1, 0, none⟩ = some (.int .i64 0) := by rw [hW4]; exact cell_al (cell_be hb (cell_new0 (n := w.heap.size + 1) (by simp)))
          have r1 : W4.cell? ⟨w.heap.size + 1, 1, none⟩ = some (.int .u64 0) := by rw [hW4]; exact cell_al (cell_be hb (cell_new1 (n := w.heap.size + 1) (by simp)))
          have f0 : W4.frozen? ⟨w.heap.size + 1, 0, none⟩ = false := by rw [hW4]; exact frozen_al (by have := hb.size; simp at this; omega) (frozen_be hb (by simp) (frozen_new (n := w.heap.size + 1) (by simp) 0))
          have f1 : W4.frozen? ⟨w.heap.size + 1, 1, none⟩ = false := by rw [hW4]; exact frozen_al (by have := hb.size; simp at this; omega) (frozen_be hb (by simp) (frozen_new (n := w.heap.size + 1) (by simp) 1))
          have x0 : W4.cell? ⟨w3.heap.size, 0, none⟩ = some (.int .u64 (upW x)) := by rw [hW4]; exact cell_new0 rfl
          have x1 : W4.cell? ⟨w3.heap.size, 1, none⟩ = some (.int .u64 (loW x)) := by rw [hW4]; exact cell_new1 rfl
          have hB : Below w.heap.size w W4 := by rw [hW4]; exact ((((Below.refl _ _).alloc (Nat.le_refl _) _).alloc (by simp) _).trans (hb.mono (by simp; omega))).alloc (by have := hb.size; simp at this; omega) _
          clear hb hb1 hb2 hb3
          go_wp2_with fail
          rw [← hW4]
          clear hW4
          with_reducible refine (HM1.out _).mono ?_
          rintro e w' ⟨rfl, rfl⟩
          go_wp2_with fail
          with_reducible refine (HM2.out _).mono ?_
          rintro e w' ⟨rfl, rfl⟩
          go_wp2_with fail
          with_reducible refine (below_any _ _ _).mono ?_
          rintro e w' ⟨rfl, rfl⟩
          go_wp2_with fail
          with_reducible refine (HS.out _).mono ?_
          rintro e w5 ⟨rfl, hb5⟩
          have s5 : w.heap.size + 1 < w5.heap.size := by have := hb5.size; simp at this; omega
          have q0 := cell_be hb5 (cell_al r0)
          have q1 := cell_be hb5 (cell_al r1)
          have q2 := frozen_be hb5 (by simp; omega) (frozen_al s4 f0)
          have q3 := frozen_be hb5 (by simp; omega) (frozen_al s4 f1)
          have hB5 := bel_step (hB.alloc hB.size _) (Nat.le_refl _) hb5
          clear hb5 hB
          go_wp2
          exact bodyPost_ret (v := .tuple #[.agg #[.int .i64 (hiW (sumOf (-P))), .int .u64 (loW (sumOf (-P)))], .bool (decide (fits (-P)))]) (by simp [results, Try.results28, go_sem, q0, q1]) rfl ⟨rfl, (hB5.setCell (by simp) _).setCell (by simp) _⟩
        · have hu2 : (upW P != 0) = true := by simpa using hu
          clear hu hnz hz
          have ix := index_one (.int .u64 0) (.int .u64 y)
          go_enter Try.func28, Try.ntmps28
          go_wp2_with fail
          with_reducible refine (HA.out _).mono ?_
          rintro e w1 ⟨rfl, hb1⟩
          go_wp2_with fail
          with_reducible refine (HO.out _).mono ?_
          rintro e w2 ⟨rfl, hb2⟩
          go_wp2_with fail
          with_reducible refine (HN.out _).mono ?_
          rintro e w3 ⟨rfl, hb3⟩
          have hb := bel_step (bel_step hb1 (Nat.le_refl _) hb2) (Nat.le_refl _) hb3
          obtain ⟨W4, hW4⟩ : ∃ W4, W4 = w3.alloc (.cells #[.int .u64 (upW x), .int .u64 (loW x)] 96) := ⟨_, rfl⟩
          have s4 : w.heap.size + 1 < W4.heap.size := by have := hb.size; rw [hW4]; simp at this; simp; omega
          have s3 : w3.heap.size < W4.heap.size := by rw [hW4]; simp
          have s0 : w.heap.size < W4.heap.size := by omega
          have a0 : W4.cell? ⟨w.heap.size, 0, none⟩ = some (.int .i64 (hiW a)) := by rw [hW4]; exact cell_al (cell_be hb (cell_al (cell_new0 (n := w.heap.size) rfl)))
          have a1 : W4.cell? ⟨w.heap.size, 1, none⟩ = some (.int .u64 (loW a)) := by rw [hW4]; exact cell_al (cell_be hb (cell_al (cell_new1 (n := w.heap.size) rfl)))
          have r0 : W4.cell? ⟨w.heap.size + 1, 0, none⟩ = some (.int .i64 0) := by rw [hW4]; exact cell_al (cell_be hb (cell_new0 (n := w.heap.size + 1) (by simp)))
          have r1 : W4.cell? ⟨w.heap.size + 1, 1, none⟩ = some (.int .u64 0) := by rw [hW4]; exact cell_al (cell_be hb (cell_new1 (n := w.heap.size + 1) (by simp)))
          have f0 : W4.frozen? ⟨w.heap.size + 1, 0, none⟩ = false := by rw [hW4]; exact frozen_al (by have := hb.size; simp at this; omega) (frozen_be hb (by simp) (frozen_new (n := w.heap.size + 1) (by simp) 0))
          have f1 : W4.frozen? ⟨w.heap.size + 1, 1, none⟩ = false := by rw [hW4]; exact frozen_al (by have := hb.size; simp at this; omega) (frozen_be hb (by simp) (frozen_new (n := w.heap.size + 1) (by simp) 1))
          have x0 : W4.cell? ⟨w3.heap.size, 0, none⟩ = some (.int .u64 (upW x)) := by rw [hW4]; exact cell_new0 rfl
          have x1 : W4.cell? ⟨w3.heap.size, 1, none⟩ = some (.int .u64 (loW x)) := by rw [hW4]; exact cell_new1 rfl
          have hB : Below w.heap.size w W4 := by rw [hW4]; exact ((((Below.refl _ _).alloc (Nat.le_refl _) _).alloc (by simp) _).trans (hb.mono (by simp; omega))).alloc (by have := hb.size; simp at this; omega) _
          clear hb hb1 hb2 hb3
          go_wp2_with fail
          rw [← hW4]
          clear hW4
          with_reducible refine (HM1.out _).mono ?_
          rintro e w' ⟨rfl, rfl⟩
          go_wp2_with fail
          with_reducible refine (HM2.out _).mono ?_
          rintro e w' ⟨rfl, rfl⟩
          go_wp2_with fail
          with_reducible refine (below_any _ _ _).mono ?_
          rintro e w' ⟨rfl, rfl⟩
          go_wp2_with fail
          with_reducible refine (HS.out _).mono ?_
          rintro e w5 ⟨rfl, hb5⟩
          have s5 : w.heap.size + 1 < w5.heap.size := by have := hb5.size; simp at this; omega
          have q0 := cell_be hb5 (cell_al r0)
          have q1 := cell_be hb5 (cell_al r1)
          have q2 := frozen_be hb5 (by simp; omega) (frozen_al s4 f0)
          have q3 := frozen_be hb5 (by simp; omega) (frozen_al s4 f1)
          have hB5 := bel_step (hB.alloc hB.size _) (Nat.le_refl _) hb5
          clear hb5 hB
          go_wp2
          exact bodyPost_ret (v := .tuple #[.agg #[.int .i64 (hiW (sumOf (-P))), .int .u64 (loW (sumOf (-P)))], .bool (decide (fits (-P)))]) (by simp [results, Try.results28, go_sem, q0, q1]) rfl ⟨rfl, (hB5.setCell (by simp) _).setCell (by simp) _⟩
    · have hv : a * n = P := by rw [HSG.out]; simp [withSign, ga, gn]
      rw [hv]
      have HS := Lib.hid (fun w => signed_no P w hP0 hlt)
      have ea2 : decide (hiW a < 0) = false := by rw [decide_eq_false_iff_not, HNEG.out]; exact ga
      have en2 : decide (n < 0) = false := by simpa using gn
      clear ga gn hv
      have ix := index_one (.int .u64 0) (.int .u64 y)
      go_enter Try.func28, Try.ntmps28
      go_wp2_with fail
      with_reducible refine (HA.out _).mono ?_
      rintro e w1 ⟨rfl, hb1⟩
      go_wp2_with fail
      with_reducible refine (HO.out _).mono ?_
      rintro e w2 ⟨rfl, hb2⟩
      go_wp2_with fail
      with_reducible refine (HN.out _).mono ?_
      rintro e w3 ⟨rfl, hb3⟩
      have hb := bel_step (bel_step hb1 (Nat.le_refl _) hb2) (Nat.le_refl _) hb3
      obtain ⟨W4, hW4⟩ : ∃ W4, W4 = w3.alloc (.cells #[.int .u64 (upW x), .int .u64 (loW x)] 96) := ⟨_, rfl⟩
      have s4 : w.heap.size + 1 < W4.heap.size := by have := hb.size; rw [hW4]; simp at this; simp; omega
      have s3 : w3.heap.size < W4.heap.size := by rw [hW4]; simp
      have s0 : w.heap.size < W4.heap.size := by omega
      have a0 : W4.cell? ⟨w.heap.size, 0, none⟩ = some (.int .i64 (hiW a)) := by rw [hW4]; exact cell_al (cell_be hb (cell_al (cell_new0 (n := w.heap.size) rfl)))
      have a1 : W4.cell? ⟨w.heap.size, 1, none⟩ = some (.int .u64 (loW a)) := by rw [hW4]; exact cell_al (cell_be hb (cell_al (cell_new1 (n := w.heap.size) rfl)))
      have r0 : W4.cell? ⟨w.heap.size + 1, 0, none⟩ = some (.int .i64 0) := by rw [hW4]; exact cell_al (cell_be hb (cell_new0 (n := w.heap.size + 1) (by simp)))
      have r1 : W4.cell? ⟨w.heap.size + 1, 1, none⟩ = some (.int .u64 0) := by rw [hW4]; exact cell_al (cell_be hb (cell_new1 (n := w.heap.size + 1) (by simp)))
      have f0 : W4.frozen? ⟨w.heap.size + 1, 0, none⟩ = false := by rw [hW4]; exact frozen_al (by have := hb.size; simp at this; omega) (frozen_be hb (by simp) (frozen_new (n := w.heap.size + 1) (by simp) 0))
      have f1 : W4.frozen? ⟨w.heap.size + 1, 1, none⟩ = false := by rw [hW4]; exact frozen_al (by have := hb.size; simp at this; omega) (frozen_be hb (by simp) (frozen_new (n := w.heap.size + 1) (by simp) 1))
      have x0 : W4.cell? ⟨w3.heap.size, 0, none⟩ = some (.int .u64 (upW x)) := by rw [hW4]; exact cell_new0 rfl
      have x1 : W4.cell? ⟨w3.heap.size, 1, none⟩ = some (.int .u64 (loW x)) := by rw [hW4]; exact cell_new1 rfl
      have hB : Below w.heap.size w W4 := by rw [hW4]; exact ((((Below.refl _ _).alloc (Nat.le_refl _) _).alloc (by simp) _).trans (hb.mono (by simp; omega))).alloc (by have := hb.size; simp at this; omega) _
      clear hb hb1 hb2 hb3
      go_wp2_with fail
      rw [← hW4]
      clear hW4
      with_reducible refine (HM1.out _).mono ?_
      rintro e w' ⟨rfl, rfl⟩
      go_wp2_with fail
      with_reducible refine (HM2.out _).mono ?_
      rintro e w' ⟨rfl, rfl⟩
      go_wp2_with fail
      with_reducible refine (below_any _ _ _).mono ?_
      rintro e w' ⟨rfl, rfl⟩
      go_wp2_with fail
      with_reducible refine (HS.out _).mono ?_
      rintro e w5 ⟨rfl, hb5⟩
      have s5 : w.heap.size + 1 < w5.heap.size := by have := hb5.size; simp at this; omega
      have q0 := cell_be hb5 (cell_al r0)
      have q1 := cell_be hb5 (cell_al r1)
      have q2 := frozen_be hb5 (by simp; omega) (frozen_al s4 f0)
      have q3 := frozen_be hb5 (by simp; omega) (frozen_al s4 f1)
      have hB5 := bel_step (hB.alloc hB.size _) (Nat.le_refl _) hb5
      clear hb5 hB
      go_wp2
      exact bodyPost_ret (v := .tuple #[.agg #[.int .i64 (hiW (sumOf P)), .int .u64 (loW (sumOf P))], .bool (decide (fits P))]) (by simp [results, Try.results28, go_sem, q0, q1]) rfl ⟨rfl, (hB5.setCell (by simp) _).setCell (by simp) _⟩
end Go.Proofs.Ytljepnonigjcbaa

/- The walk of WideRests: it returns true for any number and divisor. -/
import Derived.Test.YtohgpllonbplfaaWideDiv
import Derived.Test.YtohgpllonbplfaaWideOrderWalk
namespace Go.Proofs.Ytohgpllonbplfaa
open Go.RowKit
set_option linter.unusedVariables false

/-- a number that lies in a block -/
structure HoldAt (w : World) (b : Nat) (x y : Value) (wx : World) : Prop where
  bel : Below w.heap.size w wx
  c0 : wx.cell? ⟨b, 0, none⟩ = some x
  c1 : wx.cell? ⟨b, 1, none⟩ = some y
  f0 : wx.frozen? ⟨b, 0, none⟩ = false
  f1 : wx.frozen? ⟨b, 1, none⟩ = false
theorem HoldAt.lt {w wx : World} {b : Nat} {x y : Value} (h : HoldAt w b x y wx) : b < wx.heap.size := World.block_lt_of_cell? wx _ h.c0
theorem HoldAt.step {w wx wy : World} {b : Nat} {x y : Value} (h : HoldAt w b x y wx) (hb : Below wx.heap.size wx wy) : HoldAt w b x y wy :=
  ⟨h.bel.trans (hb.mono h.bel.size), cell_be hb h.c0, cell_be hb h.c1, frozen_be hb h.lt h.f0, frozen_be hb h.lt h.f1⟩
def NewHeld (w : World) (b : Nat) (x y : Value) (v : Int) (s : Value) (wx : World) : Prop := ∃ g, s = .pointer (some ⟨g, 0, none⟩) ∧ HoldAt w b x y wx ∧ wx.cell? ⟨g, 0, none⟩ = some (.int .i64 (hiW v)) ∧ wx.cell? ⟨g, 1, none⟩ = some (.int .u64 (loW v))
set_option maxRecDepth 100000 in
set_option maxHeartbeats 4000000 in
theorem plusOne_any (q : Int) (w : World) (hq : fits q) (hq1 : fits (q + 1)) :
    Calls Try.prog 20 #[.agg #[.int .i64 (hiW q), .int .u64 (loW q)]] w fun e w' => e = .returned (.agg #[.int .i64 (hiW (q + 1)), .int .u64 (loW (q + 1))]) ∧ Below w.heap.size w w' := by
  have HO1 := Lib.hid (fun w => of_any 1 w (by decide) (by decide))
  have HAD := Lib.hid (fun w => add_fit q 1 w hq (by decide) hq1)
  obtain ⟨W0, hW0⟩ : ∃ W0, W0 = (w.alloc (.cells #[.int .i64 (hiW q), .int .u64 (loW q)] 25)).alloc (.cells #[.int .i64 0, .int .u64 0] 25) := ⟨_, rfl⟩
  have H : HoldAt w (w.heap.size + 1) (.int .i64 0) (.int .u64 0) W0 := by
    rw [hW0]; exact ⟨((Below.refl _ _).alloc (Nat.le_refl _) _).alloc (by simp) _, cell_new0 (by simp), cell_new1 (by simp), frozen_new (by simp) 0, frozen_new (by simp) 1⟩
  have a0 : W0.cell? ⟨w.heap.size, 0, none⟩ = some (.int .i64 (hiW q)) := by rw [hW0]; exact cell_al (cell_new0 rfl)
  have a1 : W0.cell? ⟨w.heap.size, 1, none⟩ = some (.int .u64 (loW q)) := by rw [hW0]; exact cell_al (cell_new1 rfl)
  have hsz := H.lt
  have HW := Lib.hid hW0; clear hW0 hq hq1
  go_enter Try.func20, Try.ntmps20
  go_wp2_with fail
  rw [← HW.out]
  clear HW
  go_upto_region 1 with fail
  go_cut [3] (fun s3 wx => NewHeld w (w.heap.size + 1) (.int .i64 0) (.int .u64 0) (q + 1) s3 wx)
  case first =>
    go_region_held3 (fun w' => w'.cell? ⟨w.heap.size, 0, none⟩ = some (.int .i64 (hiW q)) ∧ w'.cell? ⟨w.heap.size, 1, none⟩ = some (.int .u64 (loW q))) ((refine ⟨?_, ?_⟩ <;> (repeat (first | (with_reducible refine cell_dr ?_) | (with_reducible refine cell_al ?_) | (with_reducible refine cell_be hbp ?_) | (with_reducible refine cell_be hbo ?_) | (with_reducible refine cell_set ?_ (by omega)))) <;> (with_reducible first | exact a0 | exact a1))) (first | (go_at_call 8; refine (HO1.out _).mono ?_; rintro e wo ⟨rfl, hbo⟩; have hzo := hbo.size; (try simp at hzo); (try (have k0 : wo.cell? ⟨W0.heap.size, 0, none⟩ = some (.int .i64 0) := cell_be hbo (cell_new0 rfl))); (try (have k1 : wo.cell? ⟨W0.heap.size, 1, none⟩ = some (.int .u64 0) := cell_be hbo (cell_new1 rfl))); (try (have k2 : wo.frozen? ⟨W0.heap.size, 0, none⟩ = false := frozen_be hbo (by simp) (frozen_new rfl 0))); (try (have k3 : wo.frozen? ⟨W0.heap.size, 1, none⟩ = false := frozen_be hbo (by simp) (frozen_new rfl 1)))) | (go_at_call 7; refine (HAD.out _).mono ?_; rintro e wp ⟨rfl, hbp⟩; have hzp := hbp.size; (try simp at hzp); (try (have m0 : wp.cell? ⟨W0.heap.size, 0, none⟩ = some (.int .i64 0) := cell_be hbp k0)); (try (have m1 : wp.cell? ⟨W0.heap.size, 1, none⟩ = some (.int .u64 0) := cell_be hbp k1)); (try (have m2 : wp.frozen? ⟨W0.heap.size, 0, none⟩ = false := frozen_be hbp (by first | omega | (simp; omega)) k2)); (try (have m3 : wp.frozen? ⟨W0.heap.size, 1, none⟩ = false := frozen_be hbp (by first | omega | (simp; omega)) k3)); (try (have j0 : wp.cell? ⟨wo.heap.size, 0, none⟩ = some (.int .i64 0) := cell_be hbp (cell_new0 rfl))); (try (have j1 : wp.cell? ⟨wo.heap.size, 1, none⟩ = some (.int .u64 0) := cell_be hbp (cell_new1 rfl))); (try (have j2 : wp.frozen? ⟨wo.heap.size, 0, none⟩ = false := frozen_be hbp (by simp) (frozen_new rfl 0))); (try (have j3 : wp.frozen? ⟨wo.heap.size, 1, none⟩ = false := frozen_be hbp (by simp) (frozen_new rfl 1)))))
    · go_wp2_with fail
      go_meet
      have hb0 := bel_step (Below.refl _ W0).drew (Nat.le_refl _) hbo
      have hb1 := bel_step hb0 (Nat.le_refl _) hbp
      have hbf := hb1.alloc hb1.size (.cells #[.int .i64 (hiW (q + 1)), .int .u64 (loW (q + 1))] 25)
      exact ⟨_, rfl, H.step hbf, cell_new0 rfl, cell_new1 rfl⟩
    · go_wp2_with fail
      go_meet
      have hb0 := bel_step (Below.refl _ W0).drew (Nat.le_refl _) hbo
      have hz0 := hb0.size
      have hb1 := bel_step (hb0.alloc hb0.size (.cells #[.int .i64 0, .int .u64 0] 25)) (Nat.le_refl _) hbp
      have t := two_set (x := .int .i64 (hiW (q + 1))) (y := .int .u64 (loW (q + 1))) j0 j1
      have hbf := bel_far hb1 hz0 0 1 (.int .i64 (hiW (q + 1))) (.int .u64 (loW (q + 1)))
      exact ⟨_, rfl, H.step hbf, t.1, t.2⟩
    · go_wp2_with fail
      go_meet
      have hb1 := bel_step (bel_step ((Below.refl _ W0).alloc (Nat.le_refl _) (.cells #[.int .i64 0, .int .u64 0] 25)).drew (Nat.le_refl _) hbo) (Nat.le_refl _) hbp
      have t := two_set (x := .int .i64 (hiW (q + 1))) (y := .int .u64 (loW (q + 1))) m0 m1
      have hbf := bel_far hb1 (Nat.le_refl _) 0 1 (.int .i64 (hiW (q + 1))) (.int .u64 (loW (q + 1)))
      exact ⟨_, rfl, H.step hbf, t.1, t.2⟩
  case rest =>
    obtain ⟨g, rfl, H', g0, g1⟩ := hcut
    obtain ⟨bel, c0, c1, f0, f1⟩ := H'
    clear H
    go_wp2
    exact bodyPost_ret (v := .agg #[.int .i64 (hiW (q + 1)), .int .u64 (loW (q + 1))]) (by simp [results, Try.results20, go_sem, c0, c1]) rfl ⟨rfl, (bel.setCell (by simp) _).setCell (by simp) _⟩
theorem rests_math (a N : Int) (ha : fits a) (h0 : 0 < N) (h1 : N ≤ 9223372036854775807) : a / N * N + a % N = a ∧ 0 ≤ a % N ∧ a % N < N ∧ fits (a / N) ∧ (¬ fits (a / N * N) → fits (a / N + 1) ∧ fits ((a / N + 1) * N) ∧ (a / N + 1) * N - (N - a % N) = a) := by
  have e := Int.mul_ediv_add_emod a N
  have r0 := Int.emod_nonneg a (show N ≠ 0 by omega)
  have r1 := Int.emod_lt_of_pos a h0
  rw [Int.mul_comm] at e
  have em : (a / N + 1) * N = a / N * N + N := by rw [Int.add_mul, Int.one_mul]
  have q0 : -170141183460469231731687303715884105728 ≤ a / N := by
    unfold fits at ha
    have : -170141183460469231731687303715884105728 * N ≤ -170141183460469231731687303715884105728 := by omega
    exact (Int.le_ediv_iff_mul_le h0).2 (by omega)
  have q1 : a / N ≤ 170141183460469231731687303715884105727 := by
    unfold fits at ha
    rcases Int.lt_or_le a 0 with h | h
    · have := Int.ediv_neg_of_neg_of_pos h h0; omega
    · have := Int.ediv_le_self N h; omega
  have q2 : a / N + 1 ≤ 170141183460469231731687303715884105727 ∨ a / N = 170141183460469231731687303715884105727 := by omega
  unfold fits at *
  generalize a / N * N = P at *
  refine ⟨e, r0, r1, ⟨q0, q1⟩, fun hn => ⟨?_, ?_, ?_⟩⟩
  · have hneg : a < 0 := by omega
    have := Int.ediv_neg_of_neg_of_pos hneg h0
    omega
  · rw [em]; omega
  · rw [em]; omega
theorem times_no (a n : Int) (w : World) (ha : fits a) (h0 : -9223372036854775808 ≤ n) (h1 : n ≤ 9223372036854775807) (hf : ¬ fits (a * n)) :
    Calls Try.prog 15 #[.agg #[.int .i64 (hiW a), .int .u64 (loW a)], .int .i64 n] w fun e w' => e = .returned (.tuple #[.agg #[.int .i64 0, .int .u64 0], .bool false]) ∧ Below w.heap.size w w' := by
  have h := times_any a n w ha h0 h1
  rw [sumOf_no hf, decide_eq_false hf, hiW_zero, loW_zero] at h
  exact h
set_option maxRecDepth 100000 in
set_option maxHeartbeats 4000000 in
theorem rests_at (w : World) (a n N : Int) (ha : fits a) (e : bits BinOp.and IntKind.i64 n 9223372036854775807 = N) (h0 : 0 ≤ N) (h1 : N ≤ 9223372036854775807) :
    Calls Try.prog 6 #[.agg #[.int .i64 (hiW a), .int .u64 (loW a)], .int .i64 n] w fun e w' => e = .returned (.bool true) ∧ Below w.heap.size w w' := by
  by_cases hz : N = 0
  · subst hz
    have HO7 := Lib.hid (fun w => of_any 7 w (by decide) (by decide))
    have HD7 := Lib.hid (fun w => div_any 7 2 w (by decide) (by decide) (by decide))
    rw [show (7 : Int) / 2 = 3 by decide, show (7 : Int) % 2 = 1 by decide, show hiW 3 = 0 by decide, show loW 3 = 3 by decide] at HD7
    clear ha h0 h1
    have hB := (Below.refl _ w).alloc (Nat.le_refl _) (.cells #[.int .i64 (hiW a), .int .u64 (loW a)] 25)
    have a0 := cell_new0 (w := w) (x := .int .i64 (hiW a)) (y := .int .u64 (loW a)) (t := 25) rfl
    have a1 := cell_new1 (w := w) (x := .int .i64 (hiW a)) (y := .int .u64 (loW a)) (t := 25) rfl
    have af0 := frozen_new (w := w) (x := .int .i64 (hiW a)) (y := .int .u64 (loW a)) (t := 25) rfl 0
    have af1 := frozen_new (w := w) (x := .int .i64 (hiW a)) (y := .int .u64 (loW a)) (t := 25) rfl 1
    have H : HoldAt w w.heap.size (.int .i64 (hiW a)) (.int .u64 (loW a)) (w.alloc (.cells #[.int .i64 (hiW a), .int .u64 (loW a)] 25)) := ⟨hB, a0, a1, af0, af1⟩
    clear hB a0 a1 af0 af1
    go_enter Try.func6, Try.ntmps6
    go_wp2_with fail
    with_reducible refine (div_bad a 0 _ (by decide)).mono ?_
    rintro e w1 ⟨rfl, hb⟩
    replace H := H.step hb
    clear hb
    replace H := H.step ((Below.refl _ w1).alloc (Nat.le_refl _) (.cells #[.int .i64 0, .int .u64 0] 25))
    have q0 := cell_new0 (w := w1) (x := (.int .i64 0)) (y := (.int .u64 0)) (t := 25) rfl
    have q1 := cell_new1 (w := w1) (x := (.int .i64 0)) (y := (.int .u64 0)) (t := 25) rfl
    go_wp2_with fail
    obtain ⟨w2, hW⟩ : ∃ W, W = w1.alloc (.cells #[.int .i64 0, .int .u64 0] 25) := ⟨_, rfl⟩
    rw [← hW] at q0 q1 H ⊢
    clear hW
    with_reducible refine (HO7.out _).mono ?_
    rintro e w3 ⟨rfl, hb⟩
    replace q0 := cell_be hb q0
    replace q1 := cell_be hb q1
    replace H := H.step hb
    clear hb
    go_wp2_with fail
    with_reducible refine (HD7.out _).mono ?_
    rintro e w4 ⟨rfl, hb⟩
    replace q0 := cell_be hb q0
    replace q1 := cell_be hb q1
    replace H := H.step hb
    clear hb
    replace q0 := cell_al (o := (.cells #[.int .i64 0, .int .u64 3] 25)) q0
    clear q0 q1
    go_wp2
    go_ret
    exact ⟨rfl, (H.step ((Below.refl _ _).alloc (Nat.le_refl _) _)).bel⟩
  · obtain ⟨m1, m2, m3, m4, m5⟩ := rests_math a N ha (by omega) h1
    have HD := Lib.hid (fun w => div_any a N w ha (by omega) h1)
    obtain ⟨q, hq⟩ : ∃ q, q = a / N := ⟨_, rfl⟩
    obtain ⟨r, hr⟩ : ∃ r, r = a % N := ⟨_, rfl⟩
    rw [← hq] at m1 m4 m5 HD
    rw [← hr] at m1 m2 m3 m5 HD
    have hz2 : (N == 0) = false := by simpa using hz
    clear hq hr hz
    by_cases hf : fits (q * N)
    · have HT := Lib.hid (fun w => times_fit q N w m4 (by omega) h1 hf)
      have HOr := Lib.hid (fun w => of_any r w (by omega) (by omega))
      have HAD := Lib.hid (fun w => add_fit (q * N) r w hf (fits_int r (by omega) (by omega)) (by rw [m1]; exact ha))
      rw [m1] at HAD
      obtain ⟨p, hp⟩ : ∃ p, p = q * N := ⟨_, rfl⟩
      rw [← hp] at HT HAD
      clear hp m1 m4 m5 hf ha
      have hB := (Below.refl _ w).alloc (Nat.le_refl _) (.cells #[.int .i64 (hiW a), .int .u64 (loW a)] 25)
      have a0 := cell_new0 (w := w) (x := .int .i64 (hiW a)) (y := .int .u64 (loW a)) (t := 25) rfl
      have a1 := cell_new1 (w := w) (x := .int .i64 (hiW a)) (y := .int .u64 (loW a)) (t := 25) rfl
      have af0 := frozen_new (w := w) (x := .int .i64 (hiW a)) (y := .int .u64 (loW a)) (t := 25) rfl 0
      have af1 := frozen_new (w := w) (x := .int .i64 (hiW a)) (y := .int .u64 (loW a)) (t := 25) rfl 1
      have H : HoldAt w w.heap.size (.int .i64 (hiW a)) (.int .u64 (loW a)) (w.alloc (.cells #[.int .i64 (hiW a), .int .u64 (loW a)] 25)) := ⟨hB, a0, a1, af0, af1⟩
      clear hB a0 a1 af0 af1
      go_enter Try.func6, Try.ntmps6
      go_wp2_with fail
      with_reducible refine (HD.out _).mono ?_
      rintro e w1 ⟨rfl, hb⟩
      replace H := H.step hb
      clear hb
      replace H := H.step ((Below.refl _ w1).alloc (Nat.le_refl _) (.cells #[.int .i64 (hiW (q)), .int .u64 (loW (q))] 25))
      have q0 := cell_new0 (w := w1) (x := (.int .i64 (hiW (q)))) (y := (.int .u64 (loW (q)))) (t := 25) rfl
      have q1 := cell_new1 (w := w1) (x := (.int .i64 (hiW (q)))) (y := (.int .u64 (loW (q)))) (t := 25) rfl
      go_wp2_with fail
      obtain ⟨w2, hW⟩ : ∃ W, W = w1.alloc (.cells #[.int .i64 (hiW (q)), .int .u64 (loW (q))] 25) := ⟨_, rfl⟩
      rw [← hW] at q0 q1 H ⊢
      clear hW
      with_reducible refine (HT.out _).mono ?_
      rintro e w3 ⟨rfl, hb⟩
      replace q0 := cell_be hb q0
      replace q1 := cell_be hb q1
      replace H := H.step hb
      clear hb
      replace q0 := cell_al (o := (.cells #[.int .i64 (hiW (p)), .int .u64 (loW (p))] 25)) q0
      replace q1 := cell_al (o := (.cells #[.int .i64 (hiW (p)), .int .u64 (loW (p))] 25)) q1
      replace H := H.step ((Below.refl _ w3).alloc (Nat.le_refl _) (.cells #[.int .i64 (hiW (p)), .int .u64 (loW (p))] 25))
      have p0 := cell_new0 (w := w3) (x := (.int .i64 (hiW (p)))) (y := (.int .u64 (loW (p)))) (t := 25) rfl
      have p1 := cell_new1 (w := w3) (x := (.int .i64 (hiW (p)))) (y := (.int .u64 (loW (p)))) (t := 25) rfl
      go_wp2_with fail
      obtain ⟨w4, hW⟩ : ∃ W, W = w3.alloc (.cells #[.int .i64 (hiW (p)), .int .u64 (loW (p))] 25) := ⟨_, rfl⟩
      rw [← hW] at q0 q1 p0 p1 H ⊢
      clear hW
      have hsz := H.lt
      have hpz : w3.heap.size < w4.heap.size := World.block_lt_of_cell? _ _ p0
      go_upto_region 13 with fail
      go_cut [15, 16] (fun s t wx => t = .bool true ∧ NewHeld w w.heap.size (.int .i64 (hiW a)) (.int .u64 (loW a)) a s wx)
      case first =>
        go_region_held3 (fun w' => w'.cell? ⟨w3.heap.size, 0, none⟩ = some (.int .i64 (hiW (p))) ∧ w'.cell? ⟨w3.heap.size, 1, none⟩ = some (.int .u64 (loW (p)))) ((refine ⟨?_, ?_⟩ <;> (repeat (first | (with_reducible refine cell_dr ?_) | (with_reducible refine cell_al ?_) | (with_reducible refine cell_be hbp ?_) | (with_reducible refine cell_be hbo ?_) | (with_reducible refine cell_set ?_ (by omega)))) <;> (with_reducible first | exact p0 | exact p1))) (first | (go_at_call 8; refine (HOr.out _).mono ?_; rintro e wo ⟨rfl, hbo⟩; have hzo := hbo.size; (try simp at hzo); (try (have k0 : wo.cell? ⟨w4.heap.size, 0, none⟩ = some (.int .i64 0) := cell_be hbo (cell_new0 rfl))); (try (have k1 : wo.cell? ⟨w4.heap.size, 1, none⟩ = some (.int .u64 0) := cell_be hbo (cell_new1 rfl))); (try (have k2 : wo.frozen? ⟨w4.heap.size, 0, none⟩ = false := frozen_be hbo (by simp) (frozen_new rfl 0))); (try (have k3 : wo.frozen? ⟨w4.heap.size, 1, none⟩ = false := frozen_be hbo (by simp) (frozen_new rfl 1)))) | (go_at_call 7; refine (HAD.out _).mono ?_; rintro e wp ⟨rfl, hbp⟩; have hzp := hbp.size; (try simp at hzp); (try (have m0 : wp.cell? ⟨w4.heap.size, 0, none⟩ = some (.int .i64 0) := cell_be hbp k0)); (try (have m1 : wp.cell? ⟨w4.heap.size, 1, none⟩ = some (.int .u64 0) := cell_be hbp k1)); (try (have m2 : wp.frozen? ⟨w4.heap.size, 0, none⟩ = false := frozen_be hbp (by first | omega | (simp; omega)) k2)); (try (have m3 : wp.frozen? ⟨w4.heap.size, 1, none⟩ = false := frozen_be hbp (by first | omega | (simp; omega)) k3)); (try (have j0 : wp.cell? ⟨wo.heap.size, 0, none⟩ = some (.int .i64 0) := cell_be hbp (cell_new0 rfl))); (try (have j1 : wp.cell? ⟨wo.heap.size, 1, none⟩ = some (.int .u64 0) := cell_be hbp (cell_new1 rfl))); (try (have j2 : wp.frozen? ⟨wo.heap.size, 0, none⟩ = false := frozen_be hbp (by simp) (frozen_new rfl 0))); (try (have j3 : wp.frozen? ⟨wo.heap.size, 1, none⟩ = false := frozen_be hbp (by simp) (frozen_new rfl 1)))))
        · go_wp2_with fail
          go_meet
          have hb0 := bel_step (Below.refl _ w4).drew (Nat.le_refl _) hbo
          have hb1 := bel_step hb0 (Nat.le_refl _) hbp
          have hbf := hb1.alloc hb1.size (.cells #[.int .i64 (hiW (a)), .int .u64 (loW (a))] 25)
          exact ⟨rfl, _, rfl, H.step hbf, cell_new0 rfl, cell_new1 rfl⟩
        · go_wp2_with fail
          go_meet
          have hb0 := bel_step (Below.refl _ w4).drew (Nat.le_refl _) hbo
          have hz0 := hb0.size
          have hb1 := bel_step (hb0.alloc hb0.size (.cells #[.int .i64 0, .int .u64 0] 25)) (Nat.le_refl _) hbp
          have t := two_set (x := .int .i64 (hiW (a))) (y := .int .u64 (loW (a))) j0 j1
          have hbf := bel_far hb1 hz0 0 1 (.int .i64 (hiW (a))) (.int .u64 (loW (a)))
          exact ⟨rfl, _, rfl, H.step hbf, t.1, t.2⟩
        · go_wp2_with fail
          go_meet
          have hb1 := bel_step (bel_step ((Below.refl _ w4).alloc (Nat.le_refl _) (.cells #[.int .i64 0, .int .u64 0] 25)).drew (Nat.le_refl _) hbo) (Nat.le_refl _) hbp
          have t := two_set (x := .int .i64 (hiW (a))) (y := .int .u64 (loW (a))) m0 m1
          have hbf := bel_far hb1 (Nat.le_refl _) 0 1 (.int .i64 (hiW (a))) (.int .u64 (loW (a)))
          exact ⟨rfl, _, rfl, H.step hbf, t.1, t.2⟩
      case rest =>
        obtain ⟨rfl, g, rfl, H2, g0, g1⟩ := hcut
        obtain ⟨bel, c0, c1, f0, f1⟩ := H2
        clear H
        go_wp2
        go_ret
        exact ⟨rfl, bel⟩
    · obtain ⟨k1, k2, k3⟩ := m5 hf
      have HT := Lib.hid (fun w => times_no q N w m4 (by omega) h1 hf)
      have HQ1 := Lib.hid (fun w => plusOne_any q w m4 k1)
      have HT1 := Lib.hid (fun w => times_fit (q + 1) N w k1 (by omega) h1 k2)
      have HOn := Lib.hid (fun w => of_any (N - r) w (by omega) (by omega))
      have HSB := Lib.hid (fun w => sub_fit ((q + 1) * N) (N - r) w k2 (fits_int _ (by omega) (by omega)) (by rw [k3]; exact ha))
      rw [k3] at HSB
      obtain ⟨p, hp⟩ : ∃ p, p = (q + 1) * N := ⟨_, rfl⟩
      rw [← hp] at HT1 HSB
      clear hp m1 m4 m5 hf ha k1 k2 k3
      have hB := (Below.refl _ w).alloc (Nat.le_refl _) (.cells #[.int .i64 (hiW a), .int .u64 (loW a)] 25)
      have a0 := cell_new0 (w := w) (x := .int .i64 (hiW a)) (y := .int .u64 (loW a)) (t := 25) rfl
      have a1 := cell_new1 (w := w) (x := .int .i64 (hiW a)) (y := .int .u64 (loW a)) (t := 25) rfl
      have af0 := frozen_new (w := w) (x := .int .i64 (hiW a)) (y := .int .u64 (loW a)) (t := 25) rfl 0
      have af1 := frozen_new (w := w) (x := .int .i64 (hiW a)) (y := .int .u64 (loW a)) (t := 25) rfl 1
      have H : HoldAt w w.heap.size (.int .i64 (hiW a)) (.int .u64 (loW a)) (w.alloc (.cells #[.int .i64 (hiW a), .int .u64 (loW a)] 25)) := ⟨hB, a0, a1, af0, af1⟩
      clear hB a0 a1 af0 af1
      go_enter Try.func6, Try.ntmps6
      go_wp2_with fail
      with_reducible refine (HD.out _).mono ?_
      rintro e w1 ⟨rfl, hb⟩
      replace H := H.step hb
      clear hb
      replace H := H.step ((Below.refl _ w1).alloc (Nat.le_refl _) (.cells #[.int .i64 (hiW (q)), .int .u64 (loW (q))] 25))
      have q0 := cell_new0 (w := w1) (x := (.int .i64 (hiW (q)))) (y := (.int .u64 (loW (q)))) (t := 25) rfl
      have q1 := cell_new1 (w := w1) (x := (.int .i64 (hiW (q)))) (y := (.int .u64 (loW (q)))) (t := 25) rfl
      go_wp2_with fail
      obtain ⟨w2, hW⟩ : ∃ W, W = w1.alloc (.cells #[.int .i64 (hiW (q)), .int .u64 (loW (q))] 25) := ⟨_, rfl⟩
      rw [← hW] at q0 q1 H ⊢
      clear hW
      with_reducible refine (HT.out _).mono ?_
      rintro e w3 ⟨rfl, hb⟩
      replace q0 := cell_be hb q0
      replace q1 := cell_be hb q1
      replace H := H.step hb
      clear hb
      have hpab := H.lt
      replace q0 := cell_al (o := (.cells #[.int .i64 0, .int .u64 0] 25)) q0
      replace q1 := cell_al (o := (.cells #[.int .i64 0, .int .u64 0] 25)) q1
      replace H := H.step ((Below.refl _ w3).alloc (Nat.le_refl _) (.cells #[.int .i64 0, .int .u64 0] 25))
      have p0 := cell_new0 (w := w3) (x := (.int .i64 0)) (y := (.int .u64 0)) (t := 25) rfl
      have p1 := cell_new1 (w := w3) (x := (.int .i64 0)) (y := (.int .u64 0)) (t := 25) rfl
      have pf0 := frozen_new (w := w3) (x := (.int .i64 0)) (y := (.int .u64 0)) (t := 25) rfl 0
      have pf1 := frozen_new (w := w3) (x := (.int .i64 0)) (y := (.int .u64 0)) (t := 25) rfl 1
      have pfl : w3.heap.size < (w3.alloc (.cells #[.int .i64 0, .int .u64 0] 25)).heap.size := by simp
      go_wp2_with fail
      obtain ⟨w4, hW⟩ : ∃ W, W = w3.alloc (.cells #[.int .i64 0, .int .u64 0] 25) := ⟨_, rfl⟩
      rw [← hW] at q0 q1 p0 p1 pf0 pf1 pfl H ⊢
      clear hW
      with_reducible refine (HQ1.out _).mono ?_
      rintro e w5 ⟨rfl, hb⟩
      replace q0 := cell_be hb q0
      replace q1 := cell_be hb q1
      replace p0 := cell_be hb p0
      replace p1 := cell_be hb p1
      replace pf0 := frozen_be hb pfl pf0
      replace pf1 := frozen_be hb pfl pf1
      replace pfl := Nat.lt_of_lt_of_le pfl hb.size
      replace H := H.step hb
      clear hb
      go_wp2_with fail
      with_reducible refine (HT1.out _).mono ?_
      rintro e w6 ⟨rfl, hb⟩
      replace q0 := cell_be hb q0
      replace q1 := cell_be hb q1
      replace p0 := cell_be hb p0
      replace p1 := cell_be hb p1
      replace pf0 := frozen_be hb pfl pf0
      replace pf1 := frozen_be hb pfl pf1
      replace pfl := Nat.lt_of_lt_of_le pfl hb.size
      replace H := H.step hb
      clear hb
      have t := two_set (x := .int .i64 (hiW p)) (y := .int .u64 (loW p)) p0 p1
      obtain ⟨wz, hW⟩ : ∃ W, W = (w6.setCell ⟨w3.heap.size, 0, none⟩ (.int .i64 (hiW p))).setCell ⟨w3.heap.size, 1, none⟩ (.int .u64 (loW p)) := ⟨_, rfl⟩
      have hab : w.heap.size < w3.heap.size := hpab
      have H3 : HoldAt w w.heap.size (.int .i64 (hiW a)) (.int .u64 (loW a)) wz := by
        rw [hW]
        exact ⟨(H.bel.setCell (by simp; omega) _).setCell (by simp; omega) _, cell_set (cell_set H.c0 (by omega)) (by omega), cell_set (cell_set H.c1 (by omega)) (by omega), by simp only [World.frozen?_setCell]; exact H.f0, by simp only [World.frozen?_setCell]; exact H.f1⟩
      rw [← hW] at t
      obtain ⟨z0, z1⟩ := t
      clear H
      have H := H3
      clear H3
      have es : IntKind.i64.wrap (N - r) = N - r := IntWalk.i64_in _ (by omega)
      go_wp2_with fail
      rw [← hW]
      clear hW p0 p1 q0 q1
      have hsz := H.lt
      have hpz : w3.heap.size < wz.heap.size := World.block_lt_of_cell? _ _ z0
      go_upto_region 11 with fail
      go_cut [13, 14] (fun s t wx => t = .bool true ∧ NewHeld w w.heap.size (.int .i64 (hiW a)) (.int .u64 (loW a)) a s wx)
      case first =>
        go_region_held3 (fun w' => w'.cell? ⟨w3.heap.size, 0, none⟩ = some (.int .i64 (hiW p)) ∧ w'.cell? ⟨w3.heap.size, 1, none⟩ = some (.int .u64 (loW p))) ((refine ⟨?_, ?_⟩ <;> (repeat (first | (with_reducible refine cell_dr ?_) | (with_reducible refine cell_al ?_) | (with_reducible refine cell_be hbp ?_) | (with_reducible refine cell_be hbo ?_) | (with_reducible refine cell_set ?_ (by omega)))) <;> (with_reducible first | exact z0 | exact z1))) (first | (go_at_call 8; refine (HOn.out _).mono ?_; rintro e wo ⟨rfl, hbo⟩; have hzo := hbo.size; (try simp at hzo); (try (have k0 : wo.cell? ⟨wz.heap.size, 0, none⟩ = some (.int .i64 0) := cell_be hbo (cell_new0 rfl))); (try (have k1 : wo.cell? ⟨wz.heap.size, 1, none⟩ = some (.int .u64 0) := cell_be hbo (cell_new1 rfl))); (try (have k2 : wo.frozen? ⟨wz.heap.size, 0, none⟩ = false := frozen_be hbo (by simp) (frozen_new rfl 0))); (try (have k3 : wo.frozen? ⟨wz.heap.size, 1, none⟩ = false := frozen_be hbo (by simp) (frozen_new rfl 1)))) | (go_at_call 10; refine (HSB.out _).mono ?_; rintro e wp ⟨rfl, hbp⟩; have hzp := hbp.size; (try simp at hzp); (try (have m0 : wp.cell? ⟨wz.heap.size, 0, none⟩ = some (.int .i64 0) := cell_be hbp k0)); (try (have m1 : wp.cell? ⟨wz.heap.size, 1, none⟩ = some (.int .u64 0) := cell_be hbp k1)); (try (have m2 : wp.frozen? ⟨wz.heap.size, 0, none⟩ = false := frozen_be hbp (by first | omega | (simp; omega)) k2)); (try (have m3 : wp.frozen? ⟨wz.heap.size, 1, none⟩ = false := frozen_be hbp (by first | omega | (simp; omega)) k3)); (try (have j0 : wp.cell? ⟨wo.heap.size, 0, none⟩ = some (.int .i64 0) := cell_be hbp (cell_new0 rfl))); (try (have j1 : wp.cell? ⟨wo.heap.size, 1, none⟩ = some (.int .u64 0) := cell_be hbp (cell_new1 rfl))); (try (have j2 : wp.frozen? ⟨wo.heap.size, 0, none⟩ = false := frozen_be hbp (by simp) (frozen_new rfl 0))); (try (have j3 : wp.frozen? ⟨wo.heap.size, 1, none⟩ = false := frozen_be hbp (by simp) (frozen_new rfl 1)))))
        · go_wp2_with fail
          go_meet
          have hb0 := bel_step (Below.refl _ wz).drew (Nat.le_refl _) hbo
          have hb1 := bel_step hb0 (Nat.le_refl _) hbp
          have hbf := hb1.alloc hb1.size (.cells #[.int .i64 (hiW (a)), .int .u64 (loW (a))] 25)
          exact ⟨rfl, _, rfl, H.step hbf, cell_new0 rfl, cell_new1 rfl⟩
        · go_wp2_with fail
          go_meet
          have hb0 := bel_step (Below.refl _ wz).drew (Nat.le_refl _) hbo
          have hz0 := hb0.size
          have hb1 := bel_step (hb0.alloc hb0.size (.cells #[.int .i64 0, .int .u64 0] 25)) (Nat.le_refl _) hbp
          have t := two_set (x := .int .i64 (hiW (a))) (y := .int .u64 (loW (a))) j0 j1
          have hbf := bel_far hb1 hz0 0 1 (.int .i64 (hiW (a))) (.int .u64 (loW (a)))
          exact ⟨rfl, _, rfl, H.step hbf, t.1, t.2⟩
        · go_wp2_with fail
          go_meet
          have hb1 := bel_step (bel_step ((Below.refl _ wz).alloc (Nat.le_refl _) (.cells #[.int .i64 0, .int .u64 0] 25)).drew (Nat.le_refl _) hbo) (Nat.le_refl _) hbp
          have t := two_set (x := .int .i64 (hiW (a))) (y := .int .u64 (loW (a))) m0 m1
          have hbf := bel_far hb1 (Nat.le_refl _) 0 1 (.int .i64 (hiW (a))) (.int .u64 (loW (a)))
          exact ⟨rfl, _, rfl, H.step hbf, t.1, t.2⟩
      case rest =>
        obtain ⟨rfl, g, rfl, H2, g0, g1⟩ := hcut
        obtain ⟨bel, c0, c1, f0, f1⟩ := H2
        clear H
        go_wp2
        go_ret
        exact ⟨rfl, bel⟩
theorem wideRests_walk (w : World) (h l : Int) (hh : -9223372036854775808 ≤ h ∧ h ≤ 9223372036854775807) (hl : 0 ≤ l ∧ l ≤ 18446744073709551615) (n : Int) :
    Calls Try.prog 6 #[.agg #[.int .i64 h, .int .u64 l], .int .i64 n] w fun e w' => e = .returned (.bool true) ∧ Below w.heap.size w w' := by
  obtain ⟨p1, p2, p3⟩ := parts_of h l hh.1 hh.2 hl.1 hl.2
  have e := WordMath.and_mask_i64 n 9223372036854775807 63 (by omega) (by decide)
  have := rests_at w (h * 18446744073709551616 + l) n _ p3 e (by omega) (by omega)
  rw [p1, p2] at this
  exact this
end Go.Proofs.Ytohgpllonbplfaa

/- The walk of WideTells: it returns true for any two numbers and factor. -/
import Derived.Test.YtohgpllonbplfaaWideTellsParts
namespace Go.Proofs.Ytohgpllonbplfaa
open Go.RowKit
set_option linter.unusedVariables false

theorem cmp_as (a b : Int) : cmpI a b = if b < a then 1 else if a < b then -1 else 0 := by unfold cmpI; split <;> split <;> (try split) <;> omega
set_option maxRecDepth 100000 in
set_option maxHeartbeats 8000000 in
theorem wideTells_at (w : World) (a b n : Int) (ha : fits a) (hb : fits b) (h0 : -9223372036854775808 ≤ n) (h1 : n ≤ 9223372036854775807) :
    Calls Try.prog 4 #[.agg #[.int .i64 (hiW a), .int .u64 (loW a)], .agg #[.int .i64 (hiW b), .int .u64 (loW b)], .int .i64 n] w fun e w' => e = .returned (.bool true) ∧ Below w.heap.size w w' := by
  have CA := Lib.hid (fun w => add_any a b w ha hb)
  have RA := Lib.hid (fun w => radd_any a b w ha hb)
  have CS := Lib.hid (fun w => sub_any a b w ha hb)
  have RS := Lib.hid (fun w => rsub_any a b w ha hb)
  have CT := Lib.hid (fun w => times_any a n w ha h0 h1)
  have RT := Lib.hid (fun w => rtimes_any a n w ha h0 h1)
  have BL := Lib.hid (fun w => rbelow_any a b w ha hb)
  have BR := Lib.hid (fun w => rbelow_any b a w hb ha)
  have OF := Lib.hid (fun w => of_any 1 w (by decide) (by decide))
  have AO := Lib.hid (fun w => add_any 1 1 w (by unfold fits; omega) (by unfold fits; omega))
  rw [show decide (fits (1 + 1)) = true from decide_eq_true (by unfold fits; omega), show sumOf (1 + 1) = 2 from sumOf_yes (by unfold fits; omega)] at AO
  have LK := Lib.hid like_same
  have CC := Lib.hid (fun w => cmp_any a b w ha hb)
  have CM := Lib.hid (cmp_as a b)
  clear ha hb h0 h1
  obtain ⟨S, hS⟩ : ∃ S, S = sumOf (a + b) := ⟨_, rfl⟩
  obtain ⟨D, hD⟩ : ∃ D, D = sumOf (a - b) := ⟨_, rfl⟩
  obtain ⟨T, hT⟩ : ∃ T, T = sumOf (a * n) := ⟨_, rfl⟩
  obtain ⟨s, hs⟩ : ∃ s, s = decide (fits (a + b)) := ⟨_, rfl⟩
  obtain ⟨d, hd⟩ : ∃ d, d = decide (fits (a - b)) := ⟨_, rfl⟩
  obtain ⟨t, ht⟩ : ∃ t, t = decide (fits (a * n)) := ⟨_, rfl⟩
  rw [← hS, ← hs] at CA RA
  rw [← hD, ← hd] at CS RS
  rw [← hT, ← ht] at CT RT
  clear hS hD hT hs hd ht
  obtain ⟨W0, hW0⟩ : ∃ W0, W0 = (w.alloc (.cells #[.int .i64 (hiW a), .int .u64 (loW a)] 25)).alloc (.cells #[.int .i64 (hiW b), .int .u64 (loW b)] 25) := ⟨_, rfl⟩
  have H : TwoAt w a b W0 := by
    rw [hW0]; exact ⟨((Below.refl _ _).alloc (Nat.le_refl _) _).alloc (by simp) _, cell_al (cell_new0 rfl), cell_al (cell_new1 rfl), cell_new0 (by simp), cell_new1 (by simp)⟩
  have HH := Lib.hid hW0; clear hW0
  go_enter Try.func4, Try.ntmps4
  go_wp2_with fail
  rw [← HH.out]
  clear HH
  go_upto_region 1 with fail
  refine wtells1 w W0 a b _ _ _ _ _ _ _ _ _ _ _ _ _ _ _ _ _ _ _ _ _ _ _ _ _ _ _ _ _ _ _ _ _ _ _ _ _ _ _ _ _ _ _ _ _ _ _ _ _ _ _ _ _ _ _ _ _ _ _ _ _ _ _ _ _ _ _ _ _ _ _ _ _ _ _ _ _ _ _ _ _ _ _ _ _ _ _ _ _ _ _ _ _ _ _ _ _ _ _ _ _ _ _ _ _ _ _ _ _ _ _ _ _ H (Lib.hid ?_)
  clear H
  intro u24 u25 u26 u27 u28 u29 u30 u31 u32 u33 g h w1 H G1 G2
  have a0 := H.a0
  have a1 := H.a1
  have b0 := H.b0
  have b1 := H.b1
  go_wp2_with fail
  clear a0 a1 b0 b1
  with_reducible refine (CA.out _).mono ?_
  rintro e v1 ⟨rfl, hbb⟩
  replace H := H.step hbb
  replace G1 := G1.be hbb
  replace G2 := G2.be hbb
  clear hbb
  replace H := H.al (.cells #[.int .i64 (hiW S), .int .u64 (loW S)] 25)
  replace G1 := G1.al (.cells #[.int .i64 (hiW S), .int .u64 (loW S)] 25)
  replace G2 := G2.al (.cells #[.int .i64 (hiW S), .int .u64 (loW S)] 25)
  have T1 := TwoC.new v1 25 (S)
  obtain ⟨w2, hW⟩ : ∃ W, W = v1.alloc (.cells #[.int .i64 (hiW S), .int .u64 (loW S)] 25) := ⟨_, rfl⟩
  have hWH := Lib.hid hW
  rw [← hW] at H G1 G2 T1
  clear hW
  rw [hWH.out] at H G1 G2 T1
  obtain ⟨x1_0, x1_1, x1_2, x1_3, x1_4, x1_5, x1_6, x1_7, _⟩ := eight_cells G1
  obtain ⟨x2_0, x2_1, x2_2, x2_3, x2_4, x2_5, x2_6, x2_7, _⟩ := eight_cells G2
  go_wp2_with fail
  rw [← hWH.out] at H G1 G2 T1 ⊢
  clear x1_0 x1_1 x1_2 x1_3 x1_4 x1_5 x1_6 x1_7 x2_0 x2_1 x2_2 x2_3 x2_4 x2_5 x2_6 x2_7 hWH
  with_reducible refine (RA.out _).mono ?_
  rintro e v2 ⟨rfl, hbb⟩
  replace H := H.step hbb
  replace G1 := G1.be hbb
  replace G2 := G2.be hbb
  replace T1 := T1.be hbb
  clear hbb
  replace H := H.al (.cells #[.int .i64 (lb S 0), .int .i64 (lb S 1), .int .i64 (lb S 2), .int .i64 (lb S 3), .int .i64 (lb S 4), .int .i64 (lb S 5), .int .i64 (lb S 6), .int .i64 (lb S 7)] 33)
  replace G1 := G1.al (.cells #[.int .i64 (lb S 0), .int .i64 (lb S 1), .int .i64 (lb S 2), .int .i64 (lb S 3), .int .i64 (lb S 4), .int .i64 (lb S 5), .int .i64 (lb S 6), .int .i64 (lb S 7)] 33)
  replace G2 := G2.al (.cells #[.int .i64 (lb S 0), .int .i64 (lb S 1), .int .i64 (lb S 2), .int .i64 (lb S 3), .int .i64 (lb S 4), .int .i64 (lb S 5), .int .i64 (lb S 6), .int .i64 (lb S 7)] 33)
  replace T1 := T1.al (.cells #[.int .i64 (lb S 0), .int .i64 (lb S 1), .int .i64 (lb S 2), .int .i64 (lb S 3), .int .i64 (lb S 4), .int .i64 (lb S 5), .int .i64 (lb S 6), .int .i64 (lb S 7)] 33)
  have G3 := Eight.new (w := v2) rfl 33 (lb (S))
  obtain ⟨w3, hW⟩ : ∃ W, W = v2.alloc (.cells #[.int .i64 (lb S 0), .int .i64 (lb S 1), .int .i64 (lb S 2), .int .i64 (lb S 3), .int .i64 (lb S 4), .int .i64 (lb S 5), .int .i64 (lb S 6), .int .i64 (lb S 7)] 33) := ⟨_, rfl⟩
  have hWH := Lib.hid hW
  rw [← hW] at H G1 G2 T1 G3
  clear hW
  rw [hWH.out] at H G1 G2 T1 G3
  have a0 := H.a0
  have a1 := H.a1
  have b0 := H.b0
  have b1 := H.b1
  go_wp2_with fail
  rw [← hWH.out] at H G1 G2 T1 G3 ⊢
  clear a0 a1 b0 b1 hWH
  with_reducible refine (CS.out _).mono ?_
  rintro e v3 ⟨rfl, hbb⟩
  replace H := H.step hbb
  replace G1 := G1.be hbb
  replace G2 := G2.be hbb
  replace T1 := T1.be hbb
  replace G3 := G3.be hbb
  clear hbb
  replace H := H.al (.cells #[.int .i64 (hiW D), .int .u64 (loW D)] 25)
  replace G1 := G1.al (.cells #[.int .i64 (hiW D), .int .u64 (loW D)] 25)
  replace G2 := G2.al (.cells #[.int .i64 (hiW D), .int .u64 (loW D)] 25)
  replace T1 := T1.al (.cells #[.int .i64 (hiW D), .int .u64 (loW D)] 25)
  replace G3 := G3.al (.cells #[.int .i64 (hiW D), .int .u64 (loW D)] 25)
  have T2 := TwoC.new v3 25 (D)
  obtain ⟨w4, hW⟩ : ∃ W, W = v3.alloc (.cells #[.int .i64 (hiW D), .int .u64 (loW D)] 25) := ⟨_, rfl⟩
  have hWH := Lib.hid hW
  rw [← hW] at H G1 G2 T1 G3 T2
  clear hW
  rw [hWH.out] at H G1 G2 T1 G3 T2
  obtain ⟨x1_0, x1_1, x1_2, x1_3, x1_4, x1_5, x1_6, x1_7, _⟩ := eight_cells G1
  obtain ⟨x2_0, x2_1, x2_2, x2_3, x2_4, x2_5, x2_6, x2_7, _⟩ := eight_cells G2
  go_wp2_with fail
  rw [← hWH.out] at H G1 G2 T1 G3 T2 ⊢
  clear x1_0 x1_1 x1_2 x1_3 x1_4 x1_5 x1_6 x1_7 x2_0 x2_1 x2_2 x2_3 x2_4 x2_5 x2_6 x2_7 hWH
  with_reducible refine (RS.out _).mono ?_
  rintro e v4 ⟨rfl, hbb⟩
  replace H := H.step hbb
  replace G1 := G1.be hbb
  replace G2 := G2.be hbb
  replace T1 := T1.be hbb
  replace G3 := G3.be hbb
  replace T2 := T2.be hbb
  clear hbb
  replace H := H.al (.cells #[.int .i64 (lb D 0), .int .i64 (lb D 1), .int .i64 (lb D 2), .int .i64 (lb D 3), .int .i64 (lb D 4), .int .i64 (lb D 5), .int .i64 (lb D 6), .int .i64 (lb D 7)] 33)
  replace G1 := G1.al (.cells #[.int .i64 (lb D 0), .int .i64 (lb D 1), .int .i64 (lb D 2), .int .i64 (lb D 3), .int .i64 (lb D 4), .int .i64 (lb D 5), .int .i64 (lb D 6), .int .i64 (lb D 7)] 33)
  replace G2 := G2.al (.cells #[.int .i64 (lb D 0), .int .i64 (lb D 1), .int .i64 (lb D 2), .int .i64 (lb D 3), .int .i64 (lb D 4), .int .i64 (lb D 5), .int .i64 (lb D 6), .int .i64 (lb D 7)] 33)
  replace T1 := T1.al (.cells #[.int .i64 (lb D 0), .int .i64 (lb D 1), .int .i64 (lb D 2), .int .i64 (lb D 3), .int .i64 (lb D 4), .int .i64 (lb D 5), .int .i64 (lb D 6), .int .i64 (lb D 7)] 33)
  replace G3 := G3.al (.cells #[.int .i64 (lb D 0), .int .i64 (lb D 1), .int .i64 (lb D 2), .int .i64 (lb D 3), .int .i64 (lb D 4), .int .i64 (lb D 5), .int .i64 (lb D 6), .int .i64 (lb D 7)] 33)
  replace T2 := T2.al (.cells #[.int .i64 (lb D 0), .int .i64 (lb D 1), .int .i64 (lb D 2), .int .i64 (lb D 3), .int .i64 (lb D 4), .int .i64 (lb D 5), .int .i64 (lb D 6), .int .i64 (lb D 7)] 33)
  have G4 := Eight.new (w := v4) rfl 33 (lb (D))
  obtain ⟨w5, hW⟩ : ∃ W, W = v4.alloc (.cells #[.int .i64 (lb D 0), .int .i64 (lb D 1), .int .i64 (lb D 2), .int .i64 (lb D 3), .int .i64 (lb D 4), .int .i64 (lb D 5), .int .i64 (lb D 6), .int .i64 (lb D 7)] 33) := ⟨_, rfl⟩
  have hWH := Lib.hid hW
  rw [← hW] at H G1 G2 T1 G3 T2 G4
  clear hW
  rw [hWH.out] at H G1 G2 T1 G3 T2 G4
  have a0 := H.a0
  have a1 := H.a1
  go_wp2_with fail
  rw [← hWH.out] at H G1 G2 T1 G3 T2 G4 ⊢
  clear a0 a1 hWH
  with_reducible refine (CT.out _).mono ?_
  rintro e v5 ⟨rfl, hbb⟩
  replace H := H.step hbb
  replace G1 := G1.be hbb
  replace G2 := G2.be hbb
  replace T1 := T1.be hbb
  replace G3 := G3.be hbb
  replace T2 := T2.be hbb
  replace G4 := G4.be hbb
  clear hbb
  replace H := H.al (.cells #[.int .i64 (hiW T), .int .u64 (loW T)] 25)
  replace G1 := G1.al (.cells #[.int .i64 (hiW T), .int .u64 (loW T)] 25)
  replace G2 := G2.al (.cells #[.int .i64 (hiW T), .int .u64 (loW T)] 25)
  replace T1 := T1.al (.cells #[.int .i64 (hiW T), .int .u64 (loW T)] 25)
  replace G3 := G3.al (.cells #[.int .i64 (hiW T), .int .u64 (loW T)] 25)
  replace T2 := T2.al (.cells #[.int .i64 (hiW T), .int .u64 (loW T)] 25)
  replace G4 := G4.al (.cells #[.int .i64 (hiW T), .int .u64 (loW T)] 25)
  have T3 := TwoC.new v5 25 (T)
  obtain ⟨w6, hW⟩ : ∃ W, W = v5.alloc (.cells #[.int .i64 (hiW T), .int .u64 (loW T)] 25) := ⟨_, rfl⟩
  have hWH := Lib.hid hW
  rw [← hW] at H G1 G2 T1 G3 T2 G4 T3
  clear hW
  rw [hWH.out] at H G1 G2 T1 G3 T2 G4 T3
  obtain ⟨x1_0, x1_1, x1_2, x1_3, x1_4, x1_5, x1_6, x1_7, _⟩ := eight_cells G1
  go_wp2_with fail
  rw [← hWH.out] at H G1 G2 T1 G3 T2 G4 T3 ⊢
  clear x1_0 x1_1 x1_2 x1_3 x1_4 x1_5 x1_6 x1_7 hWH
  with_reducible refine (RT.out _).mono ?_
  rintro e v6 ⟨rfl, hbb⟩
  replace H := H.step hbb
  replace G1 := G1.be hbb
  replace G2 := G2.be hbb
  replace T1 := T1.be hbb
  replace G3 := G3.be hbb
  replace T2 := T2.be hbb
  replace G4 := G4.be hbb
  replace T3 := T3.be hbb
  clear hbb
  replace H := H.al (.cells #[.int .i64 (lb T 0), .int .i64 (lb T 1), .int .i64 (lb T 2), .int .i64 (lb T 3), .int .i64 (lb T 4), .int .i64 (lb T 5), .int .i64 (lb T 6), .int .i64 (lb T 7)] 33)
  replace G1 := G1.al (.cells #[.int .i64 (lb T 0), .int .i64 (lb T 1), .int .i64 (lb T 2), .int .i64 (lb T 3), .int .i64 (lb T 4), .int .i64 (lb T 5), .int .i64 (lb T 6), .int .i64 (lb T 7)] 33)
  replace G2 := G2.al (.cells #[.int .i64 (lb T 0), .int .i64 (lb T 1), .int .i64 (lb T 2), .int .i64 (lb T 3), .int .i64 (lb T 4), .int .i64 (lb T 5), .int .i64 (lb T 6), .int .i64 (lb T 7)] 33)
  replace T1 := T1.al (.cells #[.int .i64 (lb T 0), .int .i64 (lb T 1), .int .i64 (lb T 2), .int .i64 (lb T 3), .int .i64 (lb T 4), .int .i64 (lb T 5), .int .i64 (lb T 6), .int .i64 (lb T 7)] 33)
  replace G3 := G3.al (.cells #[.int .i64 (lb T 0), .int .i64 (lb T 1), .int .i64 (lb T 2), .int .i64 (lb T 3), .int .i64 (lb T 4), .int .i64 (lb T 5), .int .i64 (lb T 6), .int .i64 (lb T 7)] 33)
  replace T2 := T2.al (.cells #[.int .i64 (lb T 0), .int .i64 (lb T 1), .int .i64 (lb T 2), .int .i64 (lb T 3), .int .i64 (lb T 4), .int .i64 (lb T 5), .int .i64 (lb T 6), .int .i64 (lb T 7)] 33)
  replace G4 := G4.al (.cells #[.int .i64 (lb T 0), .int .i64 (lb T 1), .int .i64 (lb T 2), .int .i64 (lb T 3), .int .i64 (lb T 4), .int .i64 (lb T 5), .int .i64 (lb T 6), .int .i64 (lb T 7)] 33)
  replace T3 := T3.al (.cells #[.int .i64 (lb T 0), .int .i64 (lb T 1), .int .i64 (lb T 2), .int .i64 (lb T 3), .int .i64 (lb T 4), .int .i64 (lb T 5), .int .i64 (lb T 6), .int .i64 (lb T 7)] 33)
  have G5 := Eight.new (w := v6) rfl 33 (lb (T))
  obtain ⟨w7, hW⟩ : ∃ W, W = v6.alloc (.cells #[.int .i64 (lb T 0), .int .i64 (lb T 1), .int .i64 (lb T 2), .int .i64 (lb T 3), .int .i64 (lb T 4), .int .i64 (lb T 5), .int .i64 (lb T 6), .int .i64 (lb T 7)] 33) := ⟨_, rfl⟩
  have hWH := Lib.hid hW
  rw [← hW] at H G1 G2 T1 G3 T2 G4 T3 G5
  clear hW
  rw [hWH.out] at H G1 G2 T1 G3 T2 G4 T3 G5
  obtain ⟨x1_0, x1_1, x1_2, x1_3, x1_4, x1_5, x1_6, x1_7, _⟩ := eight_cells G1
  obtain ⟨x2_0, x2_1, x2_2, x2_3, x2_4, x2_5, x2_6, x2_7, _⟩ := eight_cells G2
  go_wp2_with fail
  rw [← hWH.out] at H G1 G2 T1 G3 T2 G4 T3 G5 ⊢
  clear x1_0 x1_1 x1_2 x1_3 x1_4 x1_5 x1_6 x1_7 x2_0 x2_1 x2_2 x2_3 x2_4 x2_5 x2_6 x2_7 hWH
  with_reducible refine (BL.out _).mono ?_
  rintro e v7 ⟨rfl, hbb⟩
  replace H := H.step hbb
  replace G1 := G1.be hbb
  replace G2 := G2.be hbb
  replace T1 := T1.be hbb
  replace G3 := G3.be hbb
  replace T2 := T2.be hbb
  replace G4 := G4.be hbb
  replace T3 := T3.be hbb
  replace G5 := G5.be hbb
  clear hbb
  rcases (show a < b ∨ a = b ∨ b < a by omega) with hab | hab | hab
  · rw [show decide (a < b) = true by simp; omega]
    rw [show decide (b < a) = false by simp; omega] at BR
    rw [show cmpI a b = -1 by unfold cmpI; split <;> (try split) <;> omega] at CC
    clear hab CM
    obtain ⟨x1_0, x1_1, x1_2, x1_3, x1_4, x1_5, x1_6, x1_7, _⟩ := eight_cells G1
    obtain ⟨x2_0, x2_1, x2_2, x2_3, x2_4, x2_5, x2_6, x2_7, _⟩ := eight_cells G2
    go_wp2_with fail
    clear x1_0 x1_1 x1_2 x1_3 x1_4 x1_5 x1_6 x1_7 x2_0 x2_1 x2_2 x2_3 x2_4 x2_5 x2_6 x2_7
    with_reducible refine (BR.out _).mono ?_
    rintro e v8 ⟨rfl, hbb⟩
    replace H := H.step hbb
    replace G1 := G1.be hbb
    replace G2 := G2.be hbb
    replace T1 := T1.be hbb
    replace G3 := G3.be hbb
    replace T2 := T2.be hbb
    replace G4 := G4.be hbb
    replace T3 := T3.be hbb
    replace G5 := G5.be hbb
    clear hbb
    go_wp2_with fail
    with_reducible refine (OF.out _).mono ?_
    rintro e v9 ⟨rfl, hbb⟩
    replace H := H.step hbb
    replace G1 := G1.be hbb
    replace G2 := G2.be hbb
    replace T1 := T1.be hbb
    replace G3 := G3.be hbb
    replace T2 := T2.be hbb
    replace G4 := G4.be hbb
    replace T3 := T3.be hbb
    replace G5 := G5.be hbb
    clear hbb
    go_wp2_with fail
    with_reducible refine (OF.out _).mono ?_
    rintro e v10 ⟨rfl, hbb⟩
    replace H := H.step hbb
    replace G1 := G1.be hbb
    replace G2 := G2.be hbb
    replace T1 := T1.be hbb
    replace G3 := G3.be hbb
    replace T2 := T2.be hbb
    replace G4 := G4.be hbb
    replace T3 := T3.be hbb
    replace G5 := G5.be hbb
    clear hbb
    go_wp2_with fail
    with_reducible refine (AO.out _).mono ?_
    rintro e v11 ⟨rfl, hbb⟩
    replace H := H.step hbb
    replace G1 := G1.be hbb
    replace G2 := G2.be hbb
    replace T1 := T1.be hbb
    replace G3 := G3.be hbb
    replace T2 := T2.be hbb
    replace G4 := G4.be hbb
    replace T3 := T3.be hbb
    replace G5 := G5.be hbb
    clear hbb
    replace H := H.al (.cells #[.int .i64 (hiW 2), .int .u64 (loW 2)] 25)
    replace G1 := G1.al (.cells #[.int .i64 (hiW 2), .int .u64 (loW 2)] 25)
    replace G2 := G2.al (.cells #[.int .i64 (hiW 2), .int .u64 (loW 2)] 25)
    replace T1 := T1.al (.cells #[.int .i64 (hiW 2), .int .u64 (loW 2)] 25)
    replace G3 := G3.al (.cells #[.int .i64 (hiW 2), .int .u64 (loW 2)] 25)
    replace T2 := T2.al (.cells #[.int .i64 (hiW 2), .int .u64 (loW 2)] 25)
    replace G4 := G4.al (.cells #[.int .i64 (hiW 2), .int .u64 (loW 2)] 25)
    replace T3 := T3.al (.cells #[.int .i64 (hiW 2), .int .u64 (loW 2)] 25)
    replace G5 := G5.al (.cells #[.int .i64 (hiW 2), .int .u64 (loW 2)] 25)
    have T4 := TwoC.new v11 25 (2)
    obtain ⟨w12, hW⟩ : ∃ W, W = v11.alloc (.cells #[.int .i64 (hiW 2), .int .u64 (loW 2)] 25) := ⟨_, rfl⟩
    have hWH := Lib.hid hW
    rw [← hW] at H G1 G2 T1 G3 T2 G4 T3 G5 T4
    clear hW
    rw [hWH.out] at H G1 G2 T1 G3 T2 G4 T3 G5 T4
    have y1_0 := T1.1
    have y1_1 := T1.2
    obtain ⟨x3_0, x3_1, x3_2, x3_3, x3_4, x3_5, x3_6, x3_7, _⟩ := eight_cells G3
    go_wp2_with fail
    rw [← hWH.out] at H G1 G2 T1 G3 T2 G4 T3 G5 T4 ⊢
    clear y1_0 y1_1 x3_0 x3_1 x3_2 x3_3 x3_4 x3_5 x3_6 x3_7 hWH
    with_reducible refine (LK.out S s _).mono ?_
    rintro e v12 ⟨rfl, hbb⟩
    replace H := H.step hbb
    replace G1 := G1.be hbb
    replace G2 := G2.be hbb
    replace T1 := T1.be hbb
    replace G3 := G3.be hbb
    replace T2 := T2.be hbb
    replace G4 := G4.be hbb
    replace T3 := T3.be hbb
    replace G5 := G5.be hbb
    replace T4 := T4.be hbb
    clear hbb
    have y2_0 := T2.1
    have y2_1 := T2.2
    obtain ⟨x4_0, x4_1, x4_2, x4_3, x4_4, x4_5, x4_6, x4_7, _⟩ := eight_cells G4
    go_wp2_with fail
    clear y2_0 y2_1 x4_0 x4_1 x4_2 x4_3 x4_4 x4_5 x4_6 x4_7
    with_reducible refine (LK.out D d _).mono ?_
    rintro e v13 ⟨rfl, hbb⟩
    replace H := H.step hbb
    replace G1 := G1.be hbb
    replace G2 := G2.be hbb
    replace T1 := T1.be hbb
    replace G3 := G3.be hbb
    replace T2 := T2.be hbb
    replace G4 := G4.be hbb
    replace T3 := T3.be hbb
    replace G5 := G5.be hbb
    replace T4 := T4.be hbb
    clear hbb
    have y3_0 := T3.1
    have y3_1 := T3.2
    obtain ⟨x5_0, x5_1, x5_2, x5_3, x5_4, x5_5, x5_6, x5_7, _⟩ := eight_cells G5
    go_wp2_with fail
    clear y3_0 y3_1 x5_0 x5_1 x5_2 x5_3 x5_4 x5_5 x5_6 x5_7
    with_reducible refine (LK.out T t _).mono ?_
    rintro e v14 ⟨rfl, hbb⟩
    replace H := H.step hbb
    replace G1 := G1.be hbb
    replace G2 := G2.be hbb
    replace T1 := T1.be hbb
    replace G3 := G3.be hbb
    replace T2 := T2.be hbb
    replace G4 := G4.be hbb
    replace T3 := T3.be hbb
    replace G5 := G5.be hbb
    replace T4 := T4.be hbb
    clear hbb
    have a0 := H.a0
    have a1 := H.a1
    have b0 := H.b0
    have b1 := H.b1
    go_wp2_with fail
    clear a0 a1 b0 b1
    with_reducible refine (CC.out _).mono ?_
    rintro e v15 ⟨rfl, hbb⟩
    replace H := H.step hbb
    replace G1 := G1.be hbb
    replace G2 := G2.be hbb
    replace T1 := T1.be hbb
    replace G3 := G3.be hbb
    replace T2 := T2.be hbb
    replace G4 := G4.be hbb
    replace T3 := T3.be hbb
    replace G5 := G5.be hbb
    replace T4 := T4.be hbb
    clear hbb
    have z0 := T4.2
    rw [show loW 2 = 2 by decide] at z0
    have bel := H.bel
    go_wp2
    go_ret
    exact ⟨rfl, bel⟩
  · rw [show decide (a < b) = false by simp; omega]
    rw [show decide (b < a) = false by simp; omega] at BR
    rw [show cmpI a b = 0 by unfold cmpI; split <;> (try split) <;> omega] at CC
    clear hab CM
    obtain ⟨x1_0, x1_1, x1_2, x1_3, x1_4, x1_5, x1_6, x1_7, _⟩ := eight_cells G1
    obtain ⟨x2_0, x2_1, x2_2, x2_3, x2_4, x2_5, x2_6, x2_7, _⟩ := eight_cells G2
    go_wp2_with fail
    clear x1_0 x1_1 x1_2 x1_3 x1_4 x1_5 x1_6 x1_7 x2_0 x2_1 x2_2 x2_3 x2_4 x2_5 x2_6 x2_7
    with_reducible refine (BR.out _).mono ?_
    rintro e v8 ⟨rfl, hbb⟩
    replace H := H.step hbb
    replace G1 := G1.be hbb
    replace G2 := G2.be hbb
    replace T1 := T1.be hbb
    replace G3 := G3.be hbb
    replace T2 := T2.be hbb
    replace G4 := G4.be hbb
    replace T3 := T3.be hbb
    replace G5 := G5.be hbb
    clear hbb
    go_wp2_with fail
    with_reducible refine (OF.out _).mono ?_
    rintro e v9 ⟨rfl, hbb⟩
    replace H := H.step hbb
    replace G1 := G1.be hbb
    replace G2 := G2.be hbb
    replace T1 := T1.be hbb
    replace G3 := G3.be hbb
    replace T2 := T2.be hbb
    replace G4 := G4.be hbb
    replace T3 := T3.be hbb
    replace G5 := G5.be hbb
    clear hbb
    go_wp2_with fail
    with_reducible refine (OF.out _).mono ?_
    rintro e v10 ⟨rfl, hbb⟩
    replace H := H.step hbb
    replace G1 := G1.be hbb
    replace G2 := G2.be hbb
    replace T1 := T1.be hbb
    replace G3 := G3.be hbb
    replace T2 := T2.be hbb
    replace G4 := G4.be hbb
    replace T3 := T3.be hbb
    replace G5 := G5.be hbb
    clear hbb
    go_wp2_with fail
    with_reducible refine (AO.out _).mono ?_
    rintro e v11 ⟨rfl, hbb⟩
    replace H := H.step hbb
    replace G1 := G1.be hbb
    replace G2 := G2.be hbb
    replace T1 := T1.be hbb
    replace G3 := G3.be hbb
    replace T2 := T2.be hbb
    replace G4 := G4.be hbb
    replace T3 := T3.be hbb
    replace G5 := G5.be hbb
    clear hbb
    replace H := H.al (.cells #[.int .i64 (hiW 2), .int .u64 (loW 2)] 25)
    replace G1 := G1.al (.cells #[.int .i64 (hiW 2), .int .u64 (loW 2)] 25)
    replace G2 := G2.al (.cells #[.int .i64 (hiW 2), .int .u64 (loW 2)] 25)
    replace T1 := T1.al (.cells #[.int .i64 (hiW 2), .int .u64 (loW 2)] 25)
    replace G3 := G3.al (.cells #[.int .i64 (hiW 2), .int .u64 (loW 2)] 25)
    replace T2 := T2.al (.cells #[.int .i64 (hiW 2), .int .u64 (loW 2)] 25)
    replace G4 := G4.al (.cells #[.int .i64 (hiW 2), .int .u64 (loW 2)] 25)
    replace T3 := T3.al (.cells #[.int .i64 (hiW 2), .int .u64 (loW 2)] 25)
    replace G5 := G5.al (.cells #[.int .i64 (hiW 2), .int .u64 (loW 2)] 25)
    have T4 := TwoC.new v11 25 (2)
    obtain ⟨w12, hW⟩ : ∃ W, W = v11.alloc (.cells #[.int .i64 (hiW 2), .int .u64 (loW 2)] 25) := ⟨_, rfl⟩
    have hWH := Lib.hid hW
    rw [← hW] at H G1 G2 T1 G3 T2 G4 T3 G5 T4
    clear hW
    rw [hWH.out] at H G1 G2 T1 G3 T2 G4 T3 G5 T4
    have y1_0 := T1.1
    have y1_1 := T1.2
    obtain ⟨x3_0, x3_1, x3_2, x3_3, x3_4, x3_5, x3_6, x3_7, _⟩ := eight_cells G3
    go_wp2_with fail
    rw [← hWH.out] at H G1 G2 T1 G3 T2 G4 T3 G5 T4 ⊢
    clear y1_0 y1_1 x3_0 x3_1 x3_2 x3_3 x3_4 x3_5 x3_6 x3_7 hWH
    with_reducible refine (LK.out S s _).mono ?_
    rintro e v12 ⟨rfl, hbb⟩
    replace H := H.step hbb
    replace G1 := G1.be hbb
    replace G2 := G2.be hbb
    replace T1 := T1.be hbb
    replace G3 := G3.be hbb
    replace T2 := T2.be hbb
    replace G4 := G4.be hbb
    replace T3 := T3.be hbb
    replace G5 := G5.be hbb
    replace T4 := T4.be hbb
    clear hbb
    have y2_0 := T2.1
    have y2_1 := T2.2
    obtain ⟨x4_0, x4_1, x4_2, x4_3, x4_4, x4_5, x4_6, x4_7, _⟩ := eight_cells G4
    go_wp2_with fail
    clear y2_0 y2_1 x4_0 x4_1 x4_2 x4_3 x4_4 x4_5 x4_6 x4_7
    with_reducible refine (LK.out D d _).mono ?_
    rintro e v13 ⟨rfl, hbb⟩
    replace H := H.step hbb
    replace G1 := G1.be hbb
    replace G2 := G2.be hbb
    replace T1 := T1.be hbb
    replace G3 := G3.be hbb
    replace T2 := T2.be hbb
    replace G4 := G4.be hbb
    replace T3 := T3.be hbb
    replace G5 := G5.be hbb
    replace T4 := T4.be hbb
    clear hbb
    have y3_0 := T3.1
    have y3_1 := T3.2
    obtain ⟨x5_0, x5_1, x5_2, x5_3, x5_4, x5_5, x5_6, x5_7, _⟩ := eight_cells G5
    go_wp2_with fail
    clear y3_0 y3_1 x5_0 x5_1 x5_2 x5_3 x5_4 x5_5 x5_6 x5_7
    with_reducible refine (LK.out T t _).mono ?_
    rintro e v14 ⟨rfl, hbb⟩
    replace H := H.step hbb
    replace G1 := G1.be hbb
    replace G2 := G2.be hbb
    replace T1 := T1.be hbb
    replace G3 := G3.be hbb
    replace T2 := T2.be hbb
    replace G4 := G4.be hbb
    replace T3 := T3.be hbb
    replace G5 := G5.be hbb
    replace T4 := T4.be hbb
    clear hbb
    have a0 := H.a0
    have a1 := H.a1
    have b0 := H.b0
    have b1 := H.b1
    go_wp2_with fail
    clear a0 a1 b0 b1
    with_reducible refine (CC.out _).mono ?_
    rintro e v15 ⟨rfl, hbb⟩
    replace H := H.step hbb
    replace G1 := G1.be hbb
    replace G2 := G2.be hbb
    replace T1 := T1.be hbb
    replace G3 := G3.be hbb
    replace T2 := T2.be hbb
    replace G4 := G4.be hbb
    replace T3 := T3.be hbb
    replace G5 := G5.be hbb
    replace T4 := T4.be hbb
    clear hbb
    have z0 := T4.2
    rw [show loW 2 = 2 by decide] at z0
    have bel := H.bel
    go_wp2
    go_ret
    exact ⟨rfl, bel⟩
  · rw [show decide (a < b) = false by simp; omega]
    rw [show decide (b < a) = true by simp; omega] at BR
    rw [show cmpI a b = 1 by unfold cmpI; split <;> (try split) <;> omega] at CC
    clear hab CM
    obtain ⟨x1_0, x1_1, x1_2, x1_3, x1_4, x1_5, x1_6, x1_7, _⟩ := eight_cells G1
    obtain ⟨x2_0, x2_1, x2_2, x2_3, x2_4, x2_5, x2_6, x2_7, _⟩ := eight_cells G2
    go_wp2_with fail
    clear x1_0 x1_1 x1_2 x1_3 x1_4 x1_5 x1_6 x1_7 x2_0 x2_1 x2_2 x2_3 x2_4 x2_5 x2_6 x2_7
    with_reducible refine (BR.out _).mono ?_
    rintro e v8 ⟨rfl, hbb⟩
    replace H := H.step hbb
    replace G1 := G1.be hbb
    replace G2 := G2.be hbb
    replace T1 := T1.be hbb
    replace G3 := G3.be hbb
    replace T2 := T2.be hbb
    replace G4 := G4.be hbb
    replace T3 := T3.be hbb
    replace G5 := G5.be hbb
    clear hbb
    go_wp2_with fail
    with_reducible refine (OF.out _).mono ?_
    rintro e v9 ⟨rfl, hbb⟩
    replace H := H.step hbb
    replace G1 := G1.be hbb
    replace G2 := G2.be hbb
    replace T1 := T1.be hbb
    replace G3 := G3.be hbb
    replace T2 := T2.be hbb
    replace G4 := G4.be hbb
    replace T3 := T3.be hbb
    replace G5 := G5.be hbb
    clear hbb
    go_wp2_with fail
    with_reducible refine (OF.out _).mono ?_
    rintro e v10 ⟨rfl, hbb⟩
    replace H := H.step hbb
    replace G1 := G1.be hbb
    replace G2 := G2.be hbb
    replace T1 := T1.be hbb
    replace G3 := G3.be hbb
    replace T2 := T2.be hbb
    replace G4 := G4.be hbb
    replace T3 := T3.be hbb
    replace G5 := G5.be hbb
    clear hbb
    go_wp2_with fail
    with_reducible refine (AO.out _).mono ?_
    rintro e v11 ⟨rfl, hbb⟩
    replace H := H.step hbb
    replace G1 := G1.be hbb
    replace G2 := G2.be hbb
    replace T1 := T1.be hbb
    replace G3 := G3.be hbb
    replace T2 := T2.be hbb
    replace G4 := G4.be hbb
    replace T3 := T3.be hbb
    replace G5 := G5.be hbb
    clear hbb
    replace H := H.al (.cells #[.int .i64 (hiW 2), .int .u64 (loW 2)] 25)
    replace G1 := G1.al (.cells #[.int .i64 (hiW 2), .int .u64 (loW 2)] 25)
    replace G2 := G2.al (.cells #[.int .i64 (hiW 2), .int .u64 (loW 2)] 25)
    replace T1 := T1.al (.cells #[.int .i64 (hiW 2), .int .u64 (loW 2)] 25)
    replace G3 := G3.al (.cells #[.int .i64 (hiW 2), .int .u64 (loW 2)] 25)
    replace T2 := T2.al (.cells #[.int .i64 (hiW 2), .int .u64 (loW 2)] 25)
    replace G4 := G4.al (.cells #[.int .i64 (hiW 2), .int .u64 (loW 2)] 25)
    replace T3 := T3.al (.cells #[.int .i64 (hiW 2), .int .u64 (loW 2)] 25)
    replace G5 := G5.al (.cells #[.int .i64 (hiW 2), .int .u64 (loW 2)] 25)
    have T4 := TwoC.new v11 25 (2)
    obtain ⟨w12, hW⟩ : ∃ W, W = v11.alloc (.cells #[.int .i64 (hiW 2), .int .u64 (loW 2)] 25) := ⟨_, rfl⟩
    have hWH := Lib.hid hW
    rw [← hW] at H G1 G2 T1 G3 T2 G4 T3 G5 T4
    clear hW
    rw [hWH.out] at H G1 G2 T1 G3 T2 G4 T3 G5 T4
    have y1_0 := T1.1
    have y1_1 := T1.2
    obtain ⟨x3_0, x3_1, x3_2, x3_3, x3_4, x3_5, x3_6, x3_7, _⟩ := eight_cells G3
    go_wp2_with fail
    rw [← hWH.out] at H G1 G2 T1 G3 T2 G4 T3 G5 T4 ⊢
    clear y1_0 y1_1 x3_0 x3_1 x3_2 x3_3 x3_4 x3_5 x3_6 x3_7 hWH
    with_reducible refine (LK.out S s _).mono ?_
    rintro e v12 ⟨rfl, hbb⟩
    replace H := H.step hbb
    replace G1 := G1.be hbb
    replace G2 := G2.be hbb
    replace T1 := T1.be hbb
    replace G3 := G3.be hbb
    replace T2 := T2.be hbb
    replace G4 := G4.be hbb
    replace T3 := T3.be hbb
    replace G5 := G5.be hbb
    replace T4 := T4.be hbb
    clear hbb
    have y2_0 := T2.1
    have y2_1 := T2.2
    obtain ⟨x4_0, x4_1, x4_2, x4_3, x4_4, x4_5, x4_6, x4_7, _⟩ := eight_cells G4
    go_wp2_with fail
    clear y2_0 y2_1 x4_0 x4_1 x4_2 x4_3 x4_4 x4_5 x4_6 x4_7
    with_reducible refine (LK.out D d _).mono ?_
    rintro e v13 ⟨rfl, hbb⟩
    replace H := H.step hbb
    replace G1 := G1.be hbb
    replace G2 := G2.be hbb
    replace T1 := T1.be hbb
    replace G3 := G3.be hbb
    replace T2 := T2.be hbb
    replace G4 := G4.be hbb
    replace T3 := T3.be hbb
    replace G5 := G5.be hbb
    replace T4 := T4.be hbb
    clear hbb
    have y3_0 := T3.1
    have y3_1 := T3.2
    obtain ⟨x5_0, x5_1, x5_2, x5_3, x5_4, x5_5, x5_6, x5_7, _⟩ := eight_cells G5
    go_wp2_with fail
    clear y3_0 y3_1 x5_0 x5_1 x5_2 x5_3 x5_4 x5_5 x5_6 x5_7
    with_reducible refine (LK.out T t _).mono ?_
    rintro e v14 ⟨rfl, hbb⟩
    replace H := H.step hbb
    replace G1 := G1.be hbb
    replace G2 := G2.be hbb
    replace T1 := T1.be hbb
    replace G3 := G3.be hbb
    replace T2 := T2.be hbb
    replace G4 := G4.be hbb
    replace T3 := T3.be hbb
    replace G5 := G5.be hbb
    replace T4 := T4.be hbb
    clear hbb
    have a0 := H.a0
    have a1 := H.a1
    have b0 := H.b0
    have b1 := H.b1
    go_wp2_with fail
    clear a0 a1 b0 b1
    with_reducible refine (CC.out _).mono ?_
    rintro e v15 ⟨rfl, hbb⟩
    replace H := H.step hbb
    replace G1 := G1.be hbb
    replace G2 := G2.be hbb
    replace T1 := T1.be hbb
    replace G3 := G3.be hbb
    replace T2 := T2.be hbb
    replace G4 := G4.be hbb
    replace T3 := T3.be hbb
    replace G5 := G5.be hbb
    replace T4 := T4.be hbb
    clear hbb
    have z0 := T4.2
    rw [show loW 2 = 2 by decide] at z0
    have bel := H.bel
    go_wp2
    go_ret
    exact ⟨rfl, bel⟩
theorem wideTells_walk (w : World) (h l : Int) (hh : -9223372036854775808 ≤ h ∧ h ≤ 9223372036854775807) (hl : 0 ≤ l ∧ l ≤ 18446744073709551615) (h' l' : Int) (hh' : -9223372036854775808 ≤ h' ∧ h' ≤ 9223372036854775807) (hl' : 0 ≤ l' ∧ l' ≤ 18446744073709551615) (n : Int) (hn : -9223372036854775808 ≤ n ∧ n ≤ 9223372036854775807) :
    Calls Try.prog 4 #[.agg #[.int .i64 h, .int .u64 l], .agg #[.int .i64 h', .int .u64 l'], .int .i64 n] w fun e w' => e = .returned (.bool true) ∧ Below w.heap.size w w' := by
  obtain ⟨p1, p2, p3⟩ := parts_of h l hh.1 hh.2 hl.1 hl.2
  obtain ⟨q1, q2, q3⟩ := parts_of h' l' hh'.1 hh'.2 hl'.1 hl'.2
  have := wideTells_at w (h * 18446744073709551616 + l) (h' * 18446744073709551616 + l') n p3 q3 hn.1 hn.2
  rw [p1, p2, q1, q2] at this
  exact this
end Go.Proofs.Ytohgpllonbplfaa

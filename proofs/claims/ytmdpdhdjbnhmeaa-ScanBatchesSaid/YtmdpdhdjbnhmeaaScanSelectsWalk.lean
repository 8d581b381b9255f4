/- The walk of ScanSelects: it returns true for any batch, numbers and places. -/
import Derived.Test.YtmdpdhdjbnhmeaaScanRefTake
namespace Go.Proofs.Ytmdpdhdjbnhmeaa
open Go.RowKit
set_option linter.unusedVariables false

theorem span_any (A B C : Option Addr) (n m k ca cb cc : Nat) (x : Nat → Int) (a b : Int) (w : World) (h : Ints w A n x) (hn : n ≤ 1000000) :
    Calls Try.prog 7 #[.agg #[.slice A n ca, .slice B m cb, .slice C k cc], .int .i64 a, .int .i64 b] w (ListsPost w (if n = m ∧ n = k then whereL x (inSpan a b) n else []) (if n = m ∧ n = k then 0 else 2)) := by
  by_cases hr : n = m ∧ n = k
  · rw [if_pos hr, if_pos hr]; exact span_yes A B C n m k ca cb cc x a b w h hn hr
  · rw [if_neg hr, if_neg hr]; exact span_no A B C n m k ca cb cc a b w hr
theorem rspan_any (A B C : Option Addr) (n m k ca cb cc : Nat) (x : Nat → Int) (a b : Int) (w : World) (h : Ints w A n x) (hn : n ≤ 1000000) :
    Calls Try.prog 18 #[.agg #[.slice A n ca, .slice B m cb, .slice C k cc], .int .i64 a, .int .i64 b] w (ListsPost w (if n = m ∧ n = k then whereL x (inSpan a b) n else []) (if n = m ∧ n = k then 0 else 2)) := by
  by_cases hr : n = m ∧ n = k
  · rw [if_pos hr, if_pos hr]; exact rspan_yes A B C n m k ca cb cc x a b w h hn hr
  · rw [if_neg hr, if_neg hr]; exact rspan_no A B C n m k ca cb cc a b w hr
/-- what Take and the document's Take tell, by whatever they are asked -/
theorem take_both (A B C P : Option Addr) (n m k ca cb cc cp : Nat) (x y z : Nat → Int) (L : List Int) (w : World) (hA : Ints w A n x) (hB : Ints w B m y) (hC : Ints w C k z) (h : LInts w P L) (hn : L.length ≤ 1000000) :
    ∃ X Y Z code, X.length ≤ L.length ∧ Y.length ≤ L.length ∧ Z.length ≤ L.length ∧ (∀ w', Below w.heap.size w w' → Calls Try.prog 9 #[.agg #[.slice A n ca, .slice B m cb, .slice C k cc], .slice P L.length cp] w' (TakePost w' X Y Z code)) ∧
      (∀ w', Below w.heap.size w w' → Calls Try.prog 19 #[.agg #[.slice A n ca, .slice B m cb, .slice C k cc], .slice P L.length cp] w' (TakePost w' X Y Z code)) := by
  by_cases hr : n = m ∧ n = k
  · by_cases hall : ∀ j, j < L.length → inside n (L.getD j 0)
    · refine ⟨takeL x L, takeL y L, takeL z L, 0, by rw [takeL_length]; exact Nat.le_refl _, by rw [takeL_length]; exact Nat.le_refl _, by rw [takeL_length]; exact Nat.le_refl _, fun w' hb => ?_, fun w' hb => ?_⟩
      · obtain ⟨rfl, rfl⟩ := hr
        exact take_yes A B C P n ca cb cc cp x y z L w' (Cells.below hA hb) (Cells.below hB hb) (Cells.below hC hb) (h.below hb) hn hall
      · obtain ⟨rfl, rfl⟩ := hr
        exact rtake_core A B C P n n n ca cb cc cp x y z L w' _ ⟨rfl, rfl⟩ (Cells.below hA hb) (Cells.below hB hb) (Cells.below hC hb) (h.below hb) hn (fun _ e w' h => h) (fun h' => absurd hall h')
    · refine ⟨[], [], [], 2, by simp, by simp, by simp, fun w' hb => take_bad A B C P n m k ca cb cc cp L w' hr (h.below hb) hn hall, fun w' hb => ?_⟩
      obtain ⟨rfl, rfl⟩ := hr
      exact rtake_core A B C P n n n ca cb cc cp x y z L w' _ ⟨rfl, rfl⟩ (Cells.below hA hb) (Cells.below hB hb) (Cells.below hC hb) (h.below hb) hn (fun h' => absurd h' hall) (fun _ e w' h => h)
  · exact ⟨[], [], [], 2, by simp, by simp, by simp, fun w' hb => take_no A B C P n m k ca cb cc _ cp w' hr, fun w' hb => rtake_no A B C P n m k ca cb cc _ cp w' hr⟩
theorem ite_len {p : Prop} [Decidable p] (x : Nat → Int) (q : Int → Bool) (n : Nat) : (if p then whereL x q n else []).length ≤ n := by
  split
  · exact whereL_le x q n
  · simp
theorem LInts.of_ints {w : World} {A : Option Addr} {n : Nat} {x : Nat → Int} (h : Ints w A n x) : LInts w A ((List.range n).map x) := by
  unfold LInts
  rw [List.length_map, List.length_range]
  exact Cells.congr h (fun j hj => by simp [hj])
def PlacesCut (w : World) (P : Option Addr) (t : Value) (wx : World) : Prop := ∃ L c, t = .slice P (List.length L) c ∧ L.length ≤ 300 ∧ LInts w P L ∧ w = wx
/-- what the law holds: the batch and the numbers -/
structure SelAt (w0 : World) (A B C : Value) (n0 n1 n2 : Int) (w : World) : Prop where
  bel : Below w0.heap.size w0 w
  c0 : w.cell? ⟨w0.heap.size, 0, none⟩ = some A
  c1 : w.cell? ⟨w0.heap.size, 1, none⟩ = some B
  c2 : w.cell? ⟨w0.heap.size, 2, none⟩ = some C
  m0 : w.cell? ⟨w0.heap.size + 1, 0, none⟩ = some (.int .i64 n0)
  m1 : w.cell? ⟨w0.heap.size + 1, 1, none⟩ = some (.int .i64 n1)
  m2 : w.cell? ⟨w0.heap.size + 1, 2, none⟩ = some (.int .i64 n2)
theorem SelAt.step {w0 w w' : World} {A B C : Value} {n0 n1 n2 : Int} (h : SelAt w0 A B C n0 n1 n2 w) (hb : Below w.heap.size w w') : SelAt w0 A B C n0 n1 n2 w' :=
  ⟨h.bel.trans (hb.mono h.bel.size), cell_be hb h.c0, cell_be hb h.c1, cell_be hb h.c2, cell_be hb h.m0, cell_be hb h.m1, cell_be hb h.m2⟩
/-- three slices in a block -/
structure Three (g : Nat) (A B C : Value) (w : World) : Prop where
  c0 : w.cell? ⟨g, 0, none⟩ = some A
  c1 : w.cell? ⟨g, 1, none⟩ = some B
  c2 : w.cell? ⟨g, 2, none⟩ = some C
theorem Three.step {g : Nat} {w w' : World} {A B C : Value} (h : Three g A B C w) (hb : Below w.heap.size w w') : Three g A B C w' := ⟨cell_be hb h.c0, cell_be hb h.c1, cell_be hb h.c2⟩
theorem Three.new (w : World) (A B C : Value) (t : TypeId) : Three w.heap.size A B C (w.alloc (.cells #[A, B, C] t)) := ⟨cell_newk rfl rfl, cell_newk rfl rfl, cell_newk rfl rfl⟩
theorem bel_al (w : World) (o : Obj) : Below w.heap.size w (w.alloc o) := (Below.refl _ _).alloc (Nat.le_refl _) _
theorem select_one (A B C : Option Addr) (w : World) (h : Ints w B 1 (fun _ => 5)) :
    Calls Try.prog 16 #[.agg #[.slice A 1 1, .slice B 1 1, .slice C 1 1], .int .i64 4, .int .i64 3] w (ListsPost w [0] 0) := by
  have := select_4 A B C 1 1 1 1 1 1 (fun _ => 5) 3 w h (by omega) ⟨rfl, rfl⟩
  rw [show whereL (fun _ => 5) (holdsB 4 3) 1 = [0] by decide] at this
  exact this
set_option maxRecDepth 100000 in
set_option maxHeartbeats 8000000 in
theorem scanSelects_in (w : World) (A B C P : Option Addr) (na nb nc ca cb cc np cp : Nat) (x y z : Nat → Int) (pl : Nat → Int) (hA : IntArg w A na ca x) (hB : IntArg w B nb cb y) (hC : IntArg w C nc cc z) (hP : IntArg w P np cp pl) (n0 n1 n2 : Int) (ha : na ≤ 300) (hb : nb ≤ 300) (hc : nc ≤ 300) :
    Calls Try.prog 5 #[.agg #[.slice A na ca, .slice B nb cb, .slice C nc cc], .agg #[.int .i64 n0, .int .i64 n1, .int .i64 n2], .slice P np cp] w fun e w' => e = .returned (.bool true) ∧ Below w.heap.size w w' := by
  have KA := Lib.hid hA.ints; clear hA
  have KB := Lib.hid hB.ints; clear hB
  have KC := Lib.hid hC.ints; clear hC
  have KP := Lib.hid hP
  have lP := hP.le
  have mP := hP.max
  clear hP
  obtain ⟨W, hW⟩ : ∃ W, W = (w.alloc (.cells #[.slice A na ca, .slice B nb cb, .slice C nc cc] 25)).alloc (.cells #[.int .i64 n0, .int .i64 n1, .int .i64 n2] 23) := ⟨_, rfl⟩
  have H : SelAt w (.slice A na ca) (.slice B nb cb) (.slice C nc cc) n0 n1 n2 W := by
    rw [hW]; exact ⟨((Below.refl _ _).alloc (Nat.le_refl _) _).alloc (by simp) _, cell_al (cell_newk rfl rfl), cell_al (cell_newk rfl rfl), cell_al (cell_newk rfl rfl), cell_newk (by simp) rfl, cell_newk (by simp) rfl, cell_newk (by simp) rfl⟩
  have HH := Lib.hid hW; clear hW
  have a0 := H.c0
  have a1 := H.c1
  have a2 := H.c2
  have q0 : decide (300 < (na : Int)) = false := by simp; omega
  have q1 : decide (300 < (nb : Int)) = false := by simp; omega
  have q2 : decide (300 < (nc : Int)) = false := by simp; omega
  go_enter Try.func5, Try.ntmps5
  go_upto_region 1 with fail
  rw [← HH.out]
  go_upto_if 39 with fail
  clear q0 q1 q2 HH
  go_cut [2] (PlacesCut W P)
  case first =>
    rcases Nat.lt_or_ge 300 np with h | h
    · have d0 : decide (300 < (np : Int)) = true := by simp; omega
      have d1 : (300 : Int) ≤ (cp : Int) := by omega
      have d2 : 300 ≤ cp := by omega
      go_wp2_with fail
      go_meet
      exact ⟨(List.range 300).map pl, cp, by simp, by simp, LInts.of_ints (Cells.take (Cells.below KP.out.ints H.bel) (by omega)), rfl⟩
    · have d0 : decide (300 < (np : Int)) = false := by simp; omega
      go_wp2_with fail
      go_meet
      exact ⟨(List.range np).map pl, cp, by simp, by simpa using h, LInts.of_ints (Cells.below KP.out.ints H.bel), rfl⟩
  case rest =>
  obtain ⟨L, cl, rfl, hL, hPL, rfl⟩ := hcut
  have jA : Ints W A na x := Cells.below KA.out H.bel
  have jB : Ints W B nb y := Cells.below KB.out H.bel
  have jC : Ints W C nc z := Cells.below KC.out H.bel
  obtain ⟨PX, PY, PZ, pc, lx, ly, lz, T1, T2⟩ := take_both A B C P na nb nc ca cb cc cl x y z L W jA jB jC hPL (by omega)
  have HT1 := Lib.hid T1; clear T1
  have HT2 := Lib.hid T2; clear T2
  have E1 := fun w' (hb : Below W.heap.size W w') => select_any A B C na nb nc ca cb cc y n1 n0 w' (Cells.below jB hb) (by omega)
  have E2 := fun w' (hb : Below W.heap.size W w') => rselect_any A B C na nb nc ca cb cc y n1 n0 w' (Cells.below jB hb) (by omega)
  have E3 := fun w' (hb : Below W.heap.size W w') => span_any A B C na nb nc ca cb cc x n1 n2 w' (Cells.below jA hb) (by omega)
  have E4 := fun w' (hb : Below W.heap.size W w') => rspan_any A B C na nb nc ca cb cc x n1 n2 w' (Cells.below jA hb) (by omega)
  have ls := ite_len (p := (na = nb ∧ na = nc) ∧ 0 ≤ n0 ∧ n0 ≤ 5) y (holdsB n0 n1) nb
  have lt := ite_len (p := na = nb ∧ na = nc) x (inSpan n1 n2) na
  obtain ⟨SL, hSL⟩ : ∃ SL, SL = (if (na = nb ∧ na = nc) ∧ 0 ≤ n0 ∧ n0 ≤ 5 then whereL y (holdsB n0 n1) nb else []) := ⟨_, rfl⟩
  obtain ⟨sc, hsc⟩ : ∃ sc : Int, sc = (if (na = nb ∧ na = nc) ∧ 0 ≤ n0 ∧ n0 ≤ 5 then 0 else 2) := ⟨_, rfl⟩
  obtain ⟨TL, hTL⟩ : ∃ TL, TL = (if na = nb ∧ na = nc then whereL x (inSpan n1 n2) na else []) := ⟨_, rfl⟩
  obtain ⟨tc, htc⟩ : ∃ tc : Int, tc = (if na = nb ∧ na = nc then 0 else 2) := ⟨_, rfl⟩
  simp only [← hSL, ← hsc] at E1 E2
  simp only [← hTL, ← htc] at E3 E4
  rw [← hSL] at ls
  rw [← hTL] at lt
  clear hSL hsc hTL htc jA jB jC KA KB KC KP hPL
  have HE1 := Lib.hid E1; clear E1
  have HE2 := Lib.hid E2; clear E2
  have HE3 := Lib.hid E3; clear E3
  have HE4 := Lib.hid E4; clear E4
  have hB := Below.refl W.heap.size W
  clear a0 a1 a2
  have e0 := H.c0
  have e1 := H.c1
  have e2 := H.c2
  have f0 := H.m0
  have f1 := H.m1
  go_wp2_with fail
  clear e0 e1 e2 f0 f1
  with_reducible refine (HE1.out _ hB).mono ?_
  rintro e w1 ⟨X1, cx1, rfl, L1, hbb⟩
  replace H := H.step hbb
  replace hB := bel_step hB (Nat.le_refl _) hbb
  clear hbb
  have e0 := H.c0
  have e1 := H.c1
  have e2 := H.c2
  have f0 := H.m0
  have f1 := H.m1
  go_wp2_with fail
  clear e0 e1 e2 f0 f1
  with_reducible refine (HE2.out _ hB).mono ?_
  rintro e w2 ⟨X2, cx2, rfl, L2, hbb⟩
  replace H := H.step hbb
  replace L1 := L1.below hbb
  replace hB := bel_step hB (Nat.le_refl _) hbb
  clear hbb
  have e0 := H.c0
  have e1 := H.c1
  have e2 := H.c2
  have f1 := H.m1
  have f2 := H.m2
  go_wp2_with fail
  clear e0 e1 e2 f1 f2
  with_reducible refine (HE3.out _ hB).mono ?_
  rintro e w3 ⟨X3, cx3, rfl, L3, hbb⟩
  replace H := H.step hbb
  replace L1 := L1.below hbb
  replace L2 := L2.below hbb
  replace hB := bel_step hB (Nat.le_refl _) hbb
  clear hbb
  have e0 := H.c0
  have e1 := H.c1
  have e2 := H.c2
  have f1 := H.m1
  have f2 := H.m2
  go_wp2_with fail
  clear e0 e1 e2 f1 f2
  with_reducible refine (HE4.out _ hB).mono ?_
  rintro e w4 ⟨X4, cx4, rfl, L4, hbb⟩
  replace H := H.step hbb
  replace L1 := L1.below hbb
  replace L2 := L2.below hbb
  replace L3 := L3.below hbb
  replace hB := bel_step hB (Nat.le_refl _) hbb
  clear hbb
  have e0 := H.c0
  have e1 := H.c1
  have e2 := H.c2
  go_wp2_with fail
  clear e0 e1 e2
  with_reducible refine (HT1.out _ hB).mono ?_
  rintro e w5 ⟨PA, PB, PC, pa, pb, pcc, rfl, LA, LB, LC, hbb⟩
  replace H := H.step hbb
  replace L1 := L1.below hbb
  replace L2 := L2.below hbb
  replace L3 := L3.below hbb
  replace L4 := L4.below hbb
  replace hB := bel_step hB (Nat.le_refl _) hbb
  clear hbb
  have hbb := bel_al w5 (.cells #[.slice PA PX.length pa, .slice PB PY.length pb, .slice PC PZ.length pcc] 25)
  replace H := H.step hbb
  replace L1 := L1.below hbb
  replace L2 := L2.below hbb
  replace L3 := L3.below hbb
  replace L4 := L4.below hbb
  replace LA := LA.below hbb
  replace LB := LB.below hbb
  replace LC := LC.below hbb
  replace hB := bel_step hB (Nat.le_refl _) hbb
  clear hbb
  have G1 := Three.new w5 (.slice PA PX.length pa) (.slice PB PY.length pb) (.slice PC PZ.length pcc) 25
  have e0 := H.c0
  have e1 := H.c1
  have e2 := H.c2
  go_wp2_with fail
  clear e0 e1 e2
  obtain ⟨w6, hW⟩ : ∃ W, W = w5.alloc (.cells #[.slice PA PX.length pa, .slice PB PY.length pb, .slice PC PZ.length pcc] 25) := ⟨_, rfl⟩
  rw [← hW] at H L1 L2 L3 L4 LA LB LC G1 hB ⊢
  clear hW
  with_reducible refine (HT2.out _ hB).mono ?_
  rintro e v ⟨QA, QB, QC, qa, qb, qc, rfl, MA, MB, MC, hbb⟩
  replace H := H.step hbb
  replace L1 := L1.below hbb
  replace L2 := L2.below hbb
  replace L3 := L3.below hbb
  replace L4 := L4.below hbb
  replace LA := LA.below hbb
  replace LB := LB.below hbb
  replace LC := LC.below hbb
  replace G1 := G1.step hbb
  replace hB := bel_step hB (Nat.le_refl _) hbb
  clear hbb
  have hbb := bel_al v (.cells #[.slice QA PX.length qa, .slice QB PY.length qb, .slice QC PZ.length qc] 41)
  replace H := H.step hbb
  replace L1 := L1.below hbb
  replace L2 := L2.below hbb
  replace L3 := L3.below hbb
  replace L4 := L4.below hbb
  replace LA := LA.below hbb
  replace LB := LB.below hbb
  replace LC := LC.below hbb
  replace G1 := G1.step hbb
  replace MA := MA.below hbb
  replace MB := MB.below hbb
  replace MC := MC.below hbb
  replace hB := bel_step hB (Nat.le_refl _) hbb
  clear hbb
  have G2 := Three.new v (.slice QA PX.length qa) (.slice QB PY.length qb) (.slice QC PZ.length qc) 41
  obtain ⟨u0, hu0⟩ : ∃ W, W = v.alloc (.cells #[.slice QA PX.length qa, .slice QB PY.length qb, .slice QC PZ.length qc] 41) := ⟨_, rfl⟩
  rw [← hu0] at H L1 L2 L3 L4 LA LB LC G1 MA MB MC G2 hB
  have U0 := Lib.hid hu0
  clear hu0
  have su : u0.heap.size = v.heap.size + 1 := by rw [U0.out]; simp
  have i5 : Ints (((u0.alloc (.cells #[.int .i64 1] 3)).alloc (.cells #[.int .i64 5] 3)).alloc (.cells #[.int .i64 0] 3)) (some ⟨v.heap.size + 1 + 1, 0, none⟩) 1 (fun _ => 5) := fun _ => ⟨_, 0, rfl, by simp; omega, fun j hj => by
    have hj0 : j = 0 := by omega
    subst hj0
    exact cell_al (cell_newk (by rw [World.size_alloc, su]) rfl)⟩
  have SU := Lib.hid su
  clear su
  have hbb : Below u0.heap.size u0 (((u0.alloc (.cells #[.int .i64 1] 3)).alloc (.cells #[.int .i64 5] 3)).alloc (.cells #[.int .i64 0] 3)) := (((Below.refl _ _).alloc (Nat.le_refl _) _).alloc (by simp) _).alloc (by simp; omega) _
  replace H := H.step hbb
  replace L1 := L1.below hbb
  replace L2 := L2.below hbb
  replace L3 := L3.below hbb
  replace L4 := L4.below hbb
  replace LA := LA.below hbb
  replace LB := LB.below hbb
  replace LC := LC.below hbb
  replace G1 := G1.step hbb
  replace MA := MA.below hbb
  replace MB := MB.below hbb
  replace MC := MC.below hbb
  replace G2 := G2.step hbb
  replace hB := bel_step hB (Nat.le_refl _) hbb
  clear hbb
  go_wp2_with fail
  rw [← U0.out]
  clear U0
  obtain ⟨u1, hu1⟩ : ∃ W, W = ((u0.alloc (.cells #[.int .i64 1] 3)).alloc (.cells #[.int .i64 5] 3)).alloc (.cells #[.int .i64 0] 3) := ⟨_, rfl⟩
  rw [← hu1] at H L1 L2 L3 L4 LA LB LC G1 MA MB MC G2 hB i5 ⊢
  clear hu1
  with_reducible refine (select_one _ _ _ u1 i5).mono ?_
  rintro e u2 ⟨X5, cx5, rfl, L5, hbb⟩
  clear i5
  replace H := H.step hbb
  replace L1 := L1.below hbb
  replace L2 := L2.below hbb
  replace L3 := L3.below hbb
  replace L4 := L4.below hbb
  replace LA := LA.below hbb
  replace LB := LB.below hbb
  replace LC := LC.below hbb
  replace G1 := G1.step hbb
  replace MA := MA.below hbb
  replace MB := MB.below hbb
  replace MC := MC.below hbb
  replace G2 := G2.step hbb
  replace hB := bel_step hB (Nat.le_refl _) hbb
  clear hbb
  go_wp2_with fail
  with_reducible refine (lints_same X1 cx1 X2 cx2 SL _ L1 L2 (by omega)).mono ?_
  rintro e w8 ⟨rfl, hbb⟩
  replace H := H.step hbb
  replace L1 := L1.below hbb
  replace L2 := L2.below hbb
  replace L3 := L3.below hbb
  replace L4 := L4.below hbb
  replace LA := LA.below hbb
  replace LB := LB.below hbb
  replace LC := LC.below hbb
  replace G1 := G1.step hbb
  replace MA := MA.below hbb
  replace MB := MB.below hbb
  replace MC := MC.below hbb
  replace G2 := G2.step hbb
  replace hB := bel_step hB (Nat.le_refl _) hbb
  clear hbb
  go_wp2_with fail
  with_reducible refine (lints_same X3 cx3 X4 cx4 TL _ L3 L4 (by omega)).mono ?_
  rintro e w9 ⟨rfl, hbb⟩
  replace H := H.step hbb
  replace L1 := L1.below hbb
  replace L2 := L2.below hbb
  replace L3 := L3.below hbb
  replace L4 := L4.below hbb
  replace LA := LA.below hbb
  replace LB := LB.below hbb
  replace LC := LC.below hbb
  replace G1 := G1.step hbb
  replace MA := MA.below hbb
  replace MB := MB.below hbb
  replace MC := MC.below hbb
  replace G2 := G2.step hbb
  replace hB := bel_step hB (Nat.le_refl _) hbb
  clear hbb
  have g0 := G1.c0
  have g1 := G1.c1
  have g2 := G1.c2
  have k0 := G2.c0
  have k1 := G2.c1
  have k2 := G2.c2
  go_wp2_with fail
  clear g0 g1 g2 k0 k1 k2
  with_reducible refine (same_same PA PB PC QA QB QC pa pb pcc qa qb qc PX PY PZ _ LA LB LC MA MB MC (by omega) (by omega) (by omega)).mono ?_
  rintro e w10 ⟨rfl, hbb⟩
  replace H := H.step hbb
  replace L1 := L1.below hbb
  replace L2 := L2.below hbb
  replace L3 := L3.below hbb
  replace L4 := L4.below hbb
  replace LA := LA.below hbb
  replace LB := LB.below hbb
  replace LC := LC.below hbb
  replace G1 := G1.step hbb
  replace MA := MA.below hbb
  replace MB := MB.below hbb
  replace MC := MC.below hbb
  replace G2 := G2.step hbb
  replace hB := bel_step hB (Nat.le_refl _) hbb
  clear hbb
  have bel := H.bel
  go_wp2
  go_ret
  exact ⟨rfl, bel⟩
set_option maxRecDepth 100000 in
set_option maxHeartbeats 1000000 in
theorem scanSelects_out (w : World) (A B C P : Option Addr) (na nb nc ca cb cc np cp : Nat) (n0 n1 n2 : Int) (h : 300 < na ∨ 300 < nb ∨ 300 < nc) :
    Calls Try.prog 5 #[.agg #[.slice A na ca, .slice B nb cb, .slice C nc cc], .agg #[.int .i64 n0, .int .i64 n1, .int .i64 n2], .slice P np cp] w fun e w' => e = .returned (.bool true) ∧ Below w.heap.size w w' := by
  by_cases h0 : 300 < na
  · have q0 : decide (300 < (na : Int)) = true := by simp; omega
    clear h
    go_enter Try.func5, Try.ntmps5
    go_wp2
    go_ret
    exact ⟨rfl, ((Below.refl _ _).alloc (Nat.le_refl _) _).alloc (by simp) _⟩
  · have q0 : decide (300 < (na : Int)) = false := by simp; omega
    by_cases h1 : 300 < nb
    · have q1 : decide (300 < (nb : Int)) = true := by simp; omega
      clear h
      go_enter Try.func5, Try.ntmps5
      go_wp2
      go_ret
      exact ⟨rfl, ((Below.refl _ _).alloc (Nat.le_refl _) _).alloc (by simp) _⟩
    · have q1 : decide (300 < (nb : Int)) = false := by simp; omega
      have q2 : decide (300 < (nc : Int)) = true := by simp; omega
      clear h
      go_enter Try.func5, Try.ntmps5
      go_wp2
      go_ret
      exact ⟨rfl, ((Below.refl _ _).alloc (Nat.le_refl _) _).alloc (by simp) _⟩
theorem scanSelects_walk (w : World) (A : Option Addr) (na ca : Nat) (x : Nat → Int) (hA : IntArg w A na ca x) (B : Option Addr) (nb cb : Nat) (y : Nat → Int) (hB : IntArg w B nb cb y) (C : Option Addr) (nc cc : Nat) (z : Nat → Int) (hC : IntArg w C nc cc z) (n0 : Int) (b0 : -9223372036854775808 ≤ n0 ∧ n0 ≤ 9223372036854775807) (n1 : Int) (b1 : -9223372036854775808 ≤ n1 ∧ n1 ≤ 9223372036854775807) (n2 : Int) (b2 : -9223372036854775808 ≤ n2 ∧ n2 ≤ 9223372036854775807) (P : Option Addr) (np cp : Nat) (pl : Nat → Int) (hP : IntArg w P np cp pl) :
    Calls Try.prog 5 #[.agg #[.slice A na ca, .slice B nb cb, .slice C nc cc], .agg #[.int .i64 n0, .int .i64 n1, .int .i64 n2], .slice P np cp] w fun e w' => e = .returned (.bool true) ∧ Below w.heap.size w w' := by
  by_cases h : 300 < na ∨ 300 < nb ∨ 300 < nc
  · exact scanSelects_out w A B C P na nb nc ca cb cc np cp n0 n1 n2 h
  · exact scanSelects_in w A B C P na nb nc ca cb cc np cp x y z pl hA hB hC hP n0 n1 n2 (by omega) (by omega) (by omega)
end Go.Proofs.Ytmdpdhdjbnhmeaa

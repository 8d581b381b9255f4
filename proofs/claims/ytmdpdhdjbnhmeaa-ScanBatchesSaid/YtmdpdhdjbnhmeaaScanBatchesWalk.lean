/- The walk of ScanBatches: it returns true for any points, size and columns. -/
import Derived.Test.YtmdpdhdjbnhmeaaScanRefBatches
import Derived.Test.YtmdpdhdjbnhmeaaScanPartsWalk
namespace Go.Proofs.Ytmdpdhdjbnhmeaa
open Go.RowKit
set_option linter.unusedVariables false

theorem rbatches_no (S : Option Addr) (n c : Nat) (size : Int) (w : World) (hs : size < 1 ∨ 4096 < size) :
    Calls Try.prog 11 #[.slice S n c, .int .i64 size] w (BatsPost 41 w [] 2) := by
  rcases hs with hs | hs
  · go_enter Try.func11, Try.ntmps11
    go_wp2
    go_ret2
    exact ⟨none, 0, rfl, IsBats.nil _ _ _, Below.refl _ _⟩
  · have hd : decide (size < 1) = false := by simp; omega
    go_enter Try.func11, Try.ntmps11
    go_wp2
    go_ret2
    exact ⟨none, 0, rfl, IsBats.nil _ _ _, Below.refl _ _⟩
theorem batches_both (S : Option Addr) (n c : Nat) (a : Nat → Pt) (size : Int) (w : World) (h : Pts w S n a) (hn : n ≤ 1000000) (hnc : n ≤ c) (hcm : c ≤ 9223372036854775807) :
    ∃ Ls code, List.length Ls ≤ n ∧ (∀ L ∈ Ls, List.length L ≤ 4096) ∧ (∀ w', Below w.heap.size w w' → Calls Try.prog 10 #[.slice S n c, .int .i64 size] w' (BatsPost 25 w' Ls code)) ∧ (∀ w', Below w.heap.size w w' → Calls Try.prog 11 #[.slice S n c, .int .i64 size] w' (BatsPost 41 w' Ls code)) := by
  by_cases hs : size < 1 ∨ 4096 < size
  · exact ⟨[], 2, by simp, fun L h => by simp at h, fun w' _ => batches_no S n c size w' hs, fun w' _ => rbatches_no S n c size w' hs⟩
  · obtain ⟨sz, rfl⟩ : ∃ sz : Nat, size = sz := ⟨size.toNat, by omega⟩
    refine ⟨chunksOf a sz n, 0, by rw [chunksOf_len]; exact chunkNum_le sz n (by omega), fun L hL => ?_, fun w' hb => batches_yes S n c a sz w' (h.below hb) hn hnc hcm (by omega) (by omega), fun w' hb => rbatches_yes S n c a sz w' (h.below hb) hn (by omega) (by omega)⟩
    unfold chunksOf at hL
    obtain ⟨q, _, rfl⟩ := List.mem_map.1 hL
    rw [chunkPts_len]
    have := chunkLen_small sz n q
    omega
theorem points_both (A B C : Option Addr) (n m k ca cb cc : Nat) (x y z : Nat → Int) (w : World) (hA : Ints w A n x) (hB : Ints w B m y) (hC : Ints w C k z) (hn : n ≤ 300) :
    ∃ L code, List.length L ≤ 300 ∧ (∀ w', Below w.heap.size w w' → Calls Try.prog 13 #[.agg #[.slice A n ca, .slice B m cb, .slice C k cc]] w' (PtsPost w' L code)) ∧ (∀ w', Below w.heap.size w w' → Calls Try.prog 14 #[.agg #[.slice A n ca, .slice B m cb, .slice C k cc]] w' (PtsPost w' L code)) := by
  by_cases hr : n = m ∧ n = k
  · exact ⟨zip3 x y z n, 0, by rw [zip3_len]; exact hn, fun w' hb => points_yes A B C n m k ca cb cc x y z w' (Ints.below' hA hb) (Ints.below' hB hb) (Ints.below' hC hb) (by omega) hr, fun w' hb => rpoints_yes A B C n m k ca cb cc x y z w' (Ints.below' hA hb) (Ints.below' hB hb) (Ints.below' hC hb) (by omega) hr⟩
  · exact ⟨[], 2, by simp, fun w' _ => points_no A B C n m k ca cb cc w' hr, fun w' _ => rpoints_no A B C n m k ca cb cc w' hr⟩
theorem lints_of {w : World} {A : Option Addr} {n : Nat} {M : List Int} (hl : M.length = n) (h : Ints w A n (fun j => M.getD j 0)) : LInts w A M := by subst hl; exact h
theorem bat_same (A B C A' B' C' : Option Addr) (ca cb cc ca' cb' cc' : Nat) (L : List Pt) (w : World) (h : BatIs w A B C ca cb cc L) (h' : BatIs w A' B' C' ca' cb' cc' L) (hL : L.length ≤ 4096) :
    Calls Try.prog 12 #[.agg #[.slice A L.length ca, .slice B L.length cb, .slice C L.length cc], .agg #[.slice A' L.length ca', .slice B' L.length cb', .slice C' L.length cc']] w fun e w' => e = .returned (.bool true) ∧ Below w.heap.size w w' := by
  have hx := same_same A B C A' B' C' ca cb cc ca' cb' cc' (L.map Pt.t) (L.map Pt.v) (L.map Pt.s) w (lints_of (by simp) h.t) (lints_of (by simp) h.v) (lints_of (by simp) h.s) (lints_of (by simp) h'.t) (lints_of (by simp) h'.v) (lints_of (by simp) h'.s) (by simp; omega) (by simp; omega) (by simp; omega)
  simp only [List.length_map] at hx
  exact hx
theorem batches_one (b : Nat) (w : World) (h : Pts w (some ⟨b, 0, none⟩) 1 (fun _ => ⟨1, 0, 0⟩)) :
    Calls Try.prog 10 #[.slice (some ⟨b, 0, none⟩) 1 1, .int .i64 5] w fun e w' => ∃ A c, e = .returned (.tuple #[.slice A 1 c, .int .i64 0]) ∧ Below w.heap.size w w' := by
  refine (batches_yes (some ⟨b, 0, none⟩) 1 1 (fun _ => ⟨1, 0, 0⟩) 5 w h (by omega) (by omega) (by omega) (by omega) (by omega)).mono ?_
  rintro e w' ⟨A, c, rfl, _, hb⟩
  exact ⟨A, c, rfl, hb⟩
/-- the columns lie in the first block -/
def ColRel3 (w : World) (A B C : Value) (wx : World) : Prop := Below w.heap.size w wx ∧ Three w.heap.size A B C wx
theorem ColRel3.step {w wx wy : World} {A B C : Value} (h : ColRel3 w A B C wx) (hb : Below wx.heap.size wx wy) : ColRel3 w A B C wy := ⟨h.1.trans (hb.mono h.1.size), h.2.step hb⟩
def BatsLoop (W : World) (N : Nat) (i : Value) (wr : World) : Prop := ∃ q : Nat, q ≤ N ∧ i = .int .i64 q ∧ Below W.heap.size W wr
set_option maxRecDepth 100000 in
set_option maxHeartbeats 4000000 in
theorem scanBatches_out (w : World) (P0 : Option Addr) (n0 c0 : Nat) (a : Nat → Pt) (hL : PtsArg w P0 n0 c0 a) (size : Int) (A B C : Option Addr) (na nb nc ca cb cc : Nat) (h : 300 < na ∨ 300 < nb ∨ 300 < nc) :
    Calls Try.prog 4 #[.slice P0 n0 c0, .int .i64 size, .agg #[.slice A na ca, .slice B nb cb, .slice C nc cc]] w fun e w' => e = .returned (.bool true) ∧ Below w.heap.size w w' := by
  have HO := Lib.hid h; clear h
  have QA := Lib.hid hL
  obtain ⟨_, lA, mA, _⟩ := hL
  obtain ⟨W, hW⟩ : ∃ W, W = w.alloc (.cells #[.slice A na ca, .slice B nb cb, .slice C nc cc] 25) := ⟨_, rfl⟩
  have H : ColRel3 w (.slice A na ca) (.slice B nb cb) (.slice C nc cc) W := by rw [hW]; exact ⟨bel_al _ _, Three.new _ _ _ _ _⟩
  have HH := Lib.hid hW; clear hW
  have PW := Lib.hid (QA.out.pts.below H.1)
  go_enter Try.func4, Try.ntmps4
  go_upto_if 20 with fail
  rw [← HH.out]
  clear HH
  go_cut [0] (PtsCut W P0 a)
  case first =>
    rcases Nat.lt_or_ge 300 n0 with h | h
    · have d0 : decide (300 < (n0 : Int)) = true := by simp; omega
      have d1 : (300 : Int) ≤ (c0 : Int) := by omega
      have d2 : 300 ≤ c0 := by omega
      go_wp2_with fail
      go_meet
      exact ⟨300, c0, rfl, by omega, by omega, mA, Cells.take PW.out (by omega), rfl⟩
    · have d0 : decide (300 < (n0 : Int)) = false := by simp; omega
      go_wp2_with fail
      go_meet
      exact ⟨n0, c0, rfl, h, lA, mA, PW.out, rfl⟩
  case rest =>
  obtain ⟨n, c, rfl, hn, hnc, hcm, hP, rfl⟩ := hcut
  clear QA lA mA PW
  have PA := Lib.hid hP; clear hP
  have a0 := H.2.c0
  have a1 := H.2.c1
  have a2 := H.2.c2
  by_cases h0 : 300 < na
  · have q0 : decide (300 < (na : Int)) = true := by simp; omega
    go_wp2
    go_ret
    exact ⟨rfl, H.1⟩
  · have q0 : decide (300 < (na : Int)) = false := by simp; omega
    by_cases h1 : 300 < nb
    · have q1 : decide (300 < (nb : Int)) = true := by simp; omega
      go_wp2
      go_ret
      exact ⟨rfl, H.1⟩
    · have q1 : decide (300 < (nb : Int)) = false := by simp; omega
      have q2 : decide (300 < (nc : Int)) = true := by have := HO.out; simp; omega
      go_wp2
      go_ret
      exact ⟨rfl, H.1⟩
set_option maxRecDepth 100000 in
set_option maxHeartbeats 8000000 in
theorem scanBatches_in (w : World) (P0 : Option Addr) (n0 c0 : Nat) (a : Nat → Pt) (hL : PtsArg w P0 n0 c0 a) (size : Int) (A B C : Option Addr) (na nb nc ca cb cc : Nat) (x y z : Nat → Int) (hA : IntArg w A na ca x) (hB : IntArg w B nb cb y) (hC : IntArg w C nc cc z) (h0 : na ≤ 300) (h1 : nb ≤ 300) (h2 : nc ≤ 300) :
    Calls Try.prog 4 #[.slice P0 n0 c0, .int .i64 size, .agg #[.slice A na ca, .slice B nb cb, .slice C nc cc]] w fun e w' => e = .returned (.bool true) ∧ Below w.heap.size w w' := by
  have KA := Lib.hid hA.ints; clear hA
  have KB := Lib.hid hB.ints; clear hB
  have KC := Lib.hid hC.ints; clear hC
  have q0 : decide (300 < (na : Int)) = false := by simp; omega
  have q1 : decide (300 < (nb : Int)) = false := by simp; omega
  have q2 : decide (300 < (nc : Int)) = false := by simp; omega
  have QA := Lib.hid hL
  obtain ⟨_, lA, mA, _⟩ := hL
  obtain ⟨W, hW⟩ : ∃ W, W = w.alloc (.cells #[.slice A na ca, .slice B nb cb, .slice C nc cc] 25) := ⟨_, rfl⟩
  have H : ColRel3 w (.slice A na ca) (.slice B nb cb) (.slice C nc cc) W := by rw [hW]; exact ⟨bel_al _ _, Three.new _ _ _ _ _⟩
  have HH := Lib.hid hW; clear hW
  have PW := Lib.hid (QA.out.pts.below H.1)
  go_enter Try.func4, Try.ntmps4
  go_upto_if 20 with fail
  rw [← HH.out]
  clear HH
  go_cut [0] (PtsCut W P0 a)
  case first =>
    rcases Nat.lt_or_ge 300 n0 with h | h
    · have d0 : decide (300 < (n0 : Int)) = true := by simp; omega
      have d1 : (300 : Int) ≤ (c0 : Int) := by omega
      have d2 : 300 ≤ c0 := by omega
      go_wp2_with fail
      go_meet
      exact ⟨300, c0, rfl, by omega, by omega, mA, Cells.take PW.out (by omega), rfl⟩
    · have d0 : decide (300 < (n0 : Int)) = false := by simp; omega
      go_wp2_with fail
      go_meet
      exact ⟨n0, c0, rfl, h, lA, mA, PW.out, rfl⟩
  case rest =>
  obtain ⟨n, c, rfl, hn, hnc, hcm, hP, rfl⟩ := hcut
  clear QA lA mA PW
  have PA := Lib.hid hP; clear hP
  have a0 := H.2.c0
  have a1 := H.2.c1
  have a2 := H.2.c2
  obtain ⟨Ls, code, hl1, hl2, hx, hy⟩ := batches_both P0 n c a size W PA.out (by omega) hnc hcm
  obtain ⟨Lp, cp, hp1, hpx, hpy⟩ := points_both A B C na nb nc ca cb cc x y z W (Ints.below' KA.out H.1) (Ints.below' KB.out H.1) (Ints.below' KC.out H.1) h0
  have HX := Lib.hid hx; clear hx
  have HY := Lib.hid hy; clear hy
  have HPX := Lib.hid hpx; clear hpx
  have HPY := Lib.hid hpy; clear hpy
  have HL2 := Lib.hid hl2; clear hl2
  go_wp2_with fail
  clear a0 a1 a2 q0 q1 q2
  with_reducible refine (HX.out W (Below.refl _ _)).mono ?_
  rintro e w1 ⟨GX, gx, rfl, hbx, hb1⟩
  have hB := hb1
  go_wp2_with fail
  with_reducible refine (HY.out w1 hB).mono ?_
  rintro e w2 ⟨GY, gy, rfl, hby, hb2⟩
  replace hbx := hbx.below hb2
  replace hB := bel_step hB (Nat.le_refl _) hb2
  clear hb1 hb2
  obtain ⟨N, hN⟩ : ∃ N, N = Ls.length := ⟨_, rfl⟩
  have HN := Lib.hid hN
  rw [← hN] at hl1 ⊢
  clear hN
  have BX := Lib.hid hbx; clear hbx
  have BY := Lib.hid hby; clear hby
  go_wp2_with fail
  go_loopw [11] (BatsLoop w2 N) (fun i _ => N - (intOf i).toNat)
  case atStart => exact ⟨0, by omega, rfl, Below.refl _ _⟩
  case round =>
    obtain ⟨q, hq, rfl, hbl⟩ := hrel
    by_cases hlt : q < N
    · obtain ⟨L, hL⟩ : ∃ L, Ls[q]? = some L := ⟨_, List.getElem?_eq_getElem (by rw [← HN.out]; exact hlt)⟩
      have hLn : L.length ≤ 4096 := HL2.out L (List.mem_of_getElem? hL)
      obtain ⟨g1, A1, B1, C1, k1, k2, k3, rfl, c1, c2, c3, bt1⟩ := IsBats.at_ BX.out hL
      obtain ⟨g2, A2, B2, C2, k4, k5, k6, rfl, c4, c5, c6, bt2⟩ := IsBats.at_ BY.out hL
      have CB := Lib.hid (fun w' (hb : Below w2.heap.size w2 w') => bat_same A1 B1 C1 A2 B2 C2 k1 k2 k3 k4 k5 k6 L w' (bt1.below hb) (bt2.below hb) hLn)
      replace c1 := cell_be hbl c1
      replace c2 := cell_be hbl c2
      replace c3 := cell_be hbl c3
      replace c4 := cell_be hbl c4
      replace c5 := cell_be hbl c5
      replace c6 := cell_be hbl c6
      clear bt1 bt2 hL
      have y0 : (0 : Int) ≤ (q : Int) := by omega
      have y1 : (q : Int) < (N : Int) := by omega
      have hbd : Below w2.heap.size w2 wr.drew := hbl.drew
      go_wp2_with fail
      go_region_held3 (fun w' => w'.cell? ⟨g1, q * 3, none⟩ = some (.slice A1 L.length k1) ∧ w'.cell? ⟨g1, q * 3 + 1, none⟩ = some (.slice B1 L.length k2) ∧ w'.cell? ⟨g1, q * 3 + 2, none⟩ = some (.slice C1 L.length k3) ∧ w'.cell? ⟨g2, q * 3, none⟩ = some (.slice A2 L.length k4) ∧ w'.cell? ⟨g2, q * 3 + 1, none⟩ = some (.slice B2 L.length k5) ∧ w'.cell? ⟨g2, q * 3 + 2, none⟩ = some (.slice C2 L.length k6))
        ((refine ⟨?_, ?_, ?_, ?_, ?_, ?_⟩ <;> (repeat (first | (with_reducible refine cell_dr ?_) | (with_reducible refine cell_be hbs ?_))) <;> (with_reducible first | exact c1 | exact c2 | exact c3 | exact c4 | exact c5 | exact c6)))
        ((go_at_call 12; refine (CB.out _ hbd).mono ?_; rintro e ws ⟨rfl, hbs⟩))
      go_wp2
      exact ⟨⟨q + 1, by omega, by go_num, bel_step hbd (Nat.le_refl _) hbs⟩, by simp [intOf]; omega⟩
    · replace hB := bel_step hB (Nat.le_refl _) hbl
      replace H := H.step hB
      clear BX BY
      have a0 := H.2.c0
      have a1 := H.2.c1
      have a2 := H.2.c2
      go_wp2_with fail
      clear a0 a1 a2
      with_reducible refine (HPX.out wr hB).mono ?_
      rintro e v1 ⟨PX, px, rfl, hpx, hbb⟩
      replace hB := bel_step hB (Nat.le_refl _) hbb
      replace H := H.step hbb
      clear hbb
      have a0 := H.2.c0
      have a1 := H.2.c1
      have a2 := H.2.c2
      go_wp2_with fail
      clear a0 a1 a2
      with_reducible refine (HPY.out v1 hB).mono ?_
      rintro e v2 ⟨PY, py, rfl, hpy, hbb⟩
      replace hpx := own_below hpx hbb
      replace H := H.step hbb
      clear hbb hB
      have QX := Pts.of_own hpx
      have QY := Pts.of_own hpy
      clear hpx hpy
      have hba := bel_al v2 (.cells #[.int .i64 1, .int .i64 0, .int .i64 0] 47)
      have h1p : Pts (v2.alloc (.cells #[.int .i64 1, .int .i64 0, .int .i64 0] 47)) (some ⟨v2.heap.size, 0, none⟩) 1 (fun _ => ⟨1, 0, 0⟩) := by
        intro _
        refine ⟨v2.heap.size, 0, rfl, by simp, fun j hj => ?_⟩
        rcases (show j = 0 ∨ j = 1 ∨ j = 2 by omega) with rfl | rfl | rfl <;> exact cell_newk rfl rfl
      replace H := H.step hba
      replace QX := QX.below hba
      replace QY := QY.below hba
      clear hba
      have KO := Lib.hid (batches_one v2.heap.size _ h1p)
      clear h1p
      go_wp2_with fail
      with_reducible refine KO.out.mono ?_
      rintro e v3 ⟨OA, oc, rfl, hbb⟩
      replace H := H.step hbb
      replace QX := QX.below hbb
      replace QY := QY.below hbb
      clear hbb KO
      have KS := Lib.hid (same13 PX px PY py Lp.length (ptAt Lp) v3 QX QY (by omega))
      clear QX QY
      go_wp2_with fail
      with_reducible refine KS.out.mono ?_
      rintro e v4 ⟨rfl, hbb⟩
      replace H := H.step hbb
      have bel := H.1
      clear H hbb
      go_wp2
      go_ret
      exact ⟨rfl, bel⟩
theorem scanBatches_walk (w : World) (P0 : Option Addr) (n0 c0 : Nat) (a : Nat → Pt) (hL : PtsArg w P0 n0 c0 a) (size : Int) (hsz : -9223372036854775808 ≤ size ∧ size ≤ 9223372036854775807) (A : Option Addr) (na ca : Nat) (x : Nat → Int) (hA : IntArg w A na ca x) (B : Option Addr) (nb cb : Nat) (y : Nat → Int) (hB : IntArg w B nb cb y) (C : Option Addr) (nc cc : Nat) (z : Nat → Int) (hC : IntArg w C nc cc z) :
    Calls Try.prog 4 #[.slice P0 n0 c0, .int .i64 size, .agg #[.slice A na ca, .slice B nb cb, .slice C nc cc]] w fun e w' => e = .returned (.bool true) ∧ Below w.heap.size w w' := by
  by_cases h : 300 < na ∨ 300 < nb ∨ 300 < nc
  · exact scanBatches_out w P0 n0 c0 a hL size A B C na nb nc ca cb cc h
  · exact scanBatches_in w P0 n0 c0 a hL size A B C na nb nc ca cb cc x y z hA hB hC (by omega) (by omega) (by omega)
end Go.Proofs.Ytmdpdhdjbnhmeaa

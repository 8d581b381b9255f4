/- The walk of WindowMoves: it returns true for every kind of windows, time and width. -/
import Derived.Test.YtjbdnomnjdpckaaWindowFits
namespace Go.Proofs.Ytjbdnomnjdpckaa
open Go.RowKit
set_option linter.unusedVariables false

theorem wins_423 : wins (firstW 4 2 0 3) 2 4 (countW (firstW 4 2 0 3) 2 3) = [(0, 4), (2, 6)] := by decide
theorem of_423 (w : World) : Calls Try.prog 12 #[.agg #[.int .i64 4, .int .i64 2, .int .i64 0], .int .i64 3] w
    fun e w' => ∃ A c, e = .returned (.tuple #[.slice A 2 c, .int .i64 0]) ∧ Below w.heap.size w w' := by
  refine (of_pairs 4 2 0 3 w (by unfold valid; decide) (by decide)).mono fun e w' h => ?_
  rw [wins_423] at h
  obtain ⟨A, c, he, hp, hb⟩ := h
  exact ⟨A, c, he, hb⟩
set_option maxRecDepth 100000 in
set_option maxHeartbeats 4000000 in
theorem windowMoves_no (w : World) (W S O t d : Int) (hv : ¬ valid W S O) :
    Calls Try.prog 6 #[.agg #[.int .i64 W, .int .i64 S, .int .i64 O], .int .i64 t, .int .i64 d] w fun e w' => e = .returned (.bool true) ∧ Below w.heap.size w w' := by
  have HO := Lib.hid (fun w t => of_no W S O t w (fun h => hv h.1))
  have HV := Lib.hid (fun w => valid_no W S O w hv)
  clear hv
  go_enter Try.func6, Try.ntmps6
  go_wp2_with fail
  with_reducible refine (HO.out _ _).mono ?_
  rintro e w1 ⟨A, c, rfl, ho, hb1⟩
  simp only [World.size_alloc] at hb1
  have hk1 := kind_cells hb1
  go_wp2_with fail
  with_reducible refine (of_423 _).mono ?_
  rintro e w3 ⟨A3, c3, rfl, hb3⟩
  have hb13 := bel_step hb1 (by simp) hb3
  have hk3 := kind_cells hb13
  go_wp2_with fail
  with_reducible refine (HV.out _).mono ?_
  rintro e w2 ⟨rfl, hb2⟩
  have hb := bel_step hb13 (by simp) hb2
  go_wp2
  go_ret
  exact ⟨rfl, ((Below.refl w.heap.size w).alloc (Nat.le_refl _) _).trans (hb.mono (by omega))⟩
theorem wins_cells {w : World} {b off n : Nat} {F S W : Int} (hc : ∀ j, j < (wins F S W n).length * 2 → w.cell? ⟨b, off + j, none⟩ = some (pairCell (wins F S W n) j)) :
    ∀ j : Nat, j < n → w.cell? ⟨b, off + j * 2, none⟩ = some (.int .i64 (F + j * S)) ∧ w.cell? ⟨b, off + j * 2 + 1, none⟩ = some (.int .i64 (F + j * S + W)) := fun j hj => by
  have := Pairs.at_ hc (i := j) (by rw [wins_length]; exact hj)
  rw [wins_getD F S W n j hj] at this
  exact this
set_option maxRecDepth 100000 in
set_option maxHeartbeats 8000000 in
theorem windowMoves_core (w : World) (W S O t t' F d d' t2 : Int) (n : Nat) (hv : valid W S O) (ht : t.tmod 1125899906842624 = t') (ht0 : -1125899906842624 < t') (ht1 : t' < 1125899906842624)
    (hF1 : t' - W < F) (hF2 : F ≤ t' - W + S) (hn1 : 1 ≤ n) (hn2 : n ≤ 64) (hd : bits BinOp.and IntKind.i64 d 31 = d') (hd0 : 0 ≤ d') (hd1 : d' ≤ 31)
    (ho : ∀ w : World, Calls Try.prog 12 #[.agg #[.int .i64 W, .int .i64 S, .int .i64 O], .int .i64 t'] w (PairsPost w (wins F S W n) 0))
    (ho2 : ∀ w : World, Calls Try.prog 12 #[.agg #[.int .i64 W, .int .i64 S, .int .i64 O], .int .i64 (t' + S)] w (PairsPost w (wins (F + S) S W n) 0))
    (hfit : (∀ w : World, Calls Try.prog 14 #[.agg #[.int .i64 W, .int .i64 S, .int .i64 O], .int .i64 (1 + d'), .int .i64 0] w fun e w' => e = .returned (.bool false) ∧ Below w.heap.size w w') ∨
      ((∀ w : World, Calls Try.prog 14 #[.agg #[.int .i64 W, .int .i64 S, .int .i64 O], .int .i64 (1 + d'), .int .i64 0] w fun e w' => e = .returned (.bool true) ∧ Below w.heap.size w w') ∧
        (t'.tmod (1 + d') + (1 + d')).tmod (1 + d') = t' - t2 ∧ (∀ w : World, Calls Try.prog 12 #[.agg #[.int .i64 W, .int .i64 S, .int .i64 O], .int .i64 t2] w (PairsPost w (wins F S W n) 0)))) :
    Calls Try.prog 6 #[.agg #[.int .i64 W, .int .i64 S, .int .i64 O], .int .i64 t, .int .i64 d] w fun e w' => e = .returned (.bool true) ∧ Below w.heap.size w w' := by
  have HO := Lib.hid ho; clear ho
  have HO2 := Lib.hid ho2; clear ho2
  have HFIT := Lib.hid hfit; clear hfit
  obtain ⟨h1, h2, h3, h4, h5, h6, h7⟩ := hv
  have z0 : ((n : Int) == 0) = false := by rw [beq_eq_false_iff_ne]; omega
  go_enter Try.func6, Try.ntmps6
  go_wp2_with fail
  with_reducible refine (HO.out _).mono ?_
  rintro e w1 ⟨A, c, rfl, hp, hb1⟩
  simp only [World.size_alloc] at hb1
  have hk1 := kind_cells hb1
  rw [wins_length]
  go_wp2_with fail
  with_reducible refine (HO2.out _).mono ?_
  rintro e w2 ⟨A2, c2, rfl, hp2, hb2⟩
  rw [wins_length]
  have hb12 := bel_step hb1 (by simp) hb2
  obtain ⟨hk20, hk21, hk22⟩ := kind_cells hb12
  have hp12 := hp.below hb2
  clear hp hb1 hb2 hk1
  have HB := Lib.hid hb12; clear hb12
  obtain ⟨b1, off1, rfl, hbb1, hcc1⟩ := hp12 (by rw [wins_length]; omega)
  obtain ⟨b2, off2, rfl, hbb2, hcc2⟩ := hp2 (by rw [wins_length]; omega)
  have HC1 := Lib.hid (wins_cells hcc1)
  have HC2 := Lib.hid (wins_cells hcc2)
  clear hcc1 hcc2 hp12 hp2 hbb2
  go_wp2
  go_loopw [12] (fun i wr => ∃ j nn : Nat, j ≤ n ∧ i = .int .i64 j ∧ wr = w2.drewN nn) (fun i _ => n - (intOf i).toNat)
  case atStart => exact ⟨0, 0, by omega, rfl, rfl⟩
  case round =>
    obtain ⟨j, nn, hj, rfl, rfl⟩ := hrel
    by_cases hlt : j < n
    · obtain ⟨hc1, hc2⟩ := HC1.out j hlt
      obtain ⟨hc3, hc4⟩ := HC2.out j hlt
      have hp0 : 0 ≤ (j : Int) * S := Int.mul_nonneg (by omega) (by omega)
      have hp1 : (j : Int) * S ≤ 64 * S := Int.mul_le_mul_of_nonneg_right (by omega) (by omega)
      rw [show F + S + (j : Int) * S = F + (j : Int) * S + S by omega] at hc3
      rw [show F + S + (j : Int) * S + W = F + (j : Int) * S + W + S by omega] at hc4
      obtain ⟨f, hf⟩ : ∃ f, f = F + (j : Int) * S := ⟨_, rfl⟩
      rw [← hf] at hc1 hc2 hc3 hc4
      have hfb : F ≤ f ∧ f ≤ F + 64 * S := by omega
      have e1 : IntKind.i64.wrap (f + S) = f + S := IntWalk.i64_in _ (by omega)
      have e2 : IntKind.i64.wrap (f + W + S) = f + W + S := IntWalk.i64_in _ (by omega)
      have i1 : (j : Int) < (n : Int) := by omega
      have i0 : (0 : Int) ≤ (j : Int) := Int.natCast_nonneg _
      clear hf hp0 hp1 hfb HC1 HC2 HO HO2 HFIT
      go_wp2
      go_quiet (fail)
      go_wp2
      exact ⟨⟨j + 1, _, by omega, by go_num, by first | rfl | (simp only [World.drewN_drewN]; rfl)⟩, by simp [intOf]; omega⟩
    · obtain rfl : j = n := by omega
      rcases HFIT.out with hno | ⟨hyes, ht2, ho3⟩
      · have HNO := Lib.hid hno; clear hno
        go_wp2_with fail
        with_reducible refine (HNO.out _).mono ?_
        rintro e w3 ⟨rfl, hb3⟩
        have hb23 := bel_step (bel_drewN HB.out nn) (by simp) hb3
        go_wp2
        go_ret
        exact ⟨rfl, ((Below.refl w.heap.size w).alloc (Nat.le_refl _) _).trans (hb23.mono (by omega))⟩
      · have HYES := Lib.hid hyes; clear hyes
        have HO3 := Lib.hid ho3; clear ho3
        have m1 := Int.tmod_lt_of_pos t' (show 0 < 1 + d' by omega)
        have m2 := Int.lt_tmod_of_pos t' (show 0 < 1 + d' by omega)
        have m3 := Int.tmod_lt_of_pos (t'.tmod (1 + d') + (1 + d')) (show 0 < 1 + d' by omega)
        have m4 := Int.lt_tmod_of_pos (t'.tmod (1 + d') + (1 + d')) (show 0 < 1 + d' by omega)
        rw [ht2] at m3 m4
        have hdn : ¬ 1 + d' = 0 := by omega
        have e1 : IntKind.i64.wrap (t'.tmod (1 + d') + (1 + d')) = t'.tmod (1 + d') + (1 + d') := IntWalk.i64_in _ (by omega)
        have e2 : IntKind.i64.wrap (t' - (t'.tmod (1 + d') + (1 + d')).tmod (1 + d')) = t2 := by rw [ht2]; rw [IntWalk.i64_in _ (by omega)]; omega
        have ht2' : (t'.tmod (1 + d') + (1 + d')) % (1 + d') = t' - t2 := by rw [← Int.tmod_eq_emod_of_nonneg (by omega)]; exact ht2
        have e3 : IntKind.i64.wrap (t' - (t' - t2)) = t2 := by rw [IntWalk.i64_in _ (by omega)]; omega
        go_wp2_with fail
        with_reducible refine (HYES.out _).mono ?_
        rintro e w3 ⟨rfl, hb3⟩
        have hb23 := bel_step (bel_drewN HB.out nn) (by simp) hb3
        obtain ⟨hk30, hk31, hk32⟩ := kind_cells hb23
        go_wp2_with fail
        with_reducible refine (HO3.out _).mono ?_
        rintro e w4 ⟨A4, c4, rfl, hp4, hb4⟩
        rw [wins_length]
        have hb24 := bel_step hb23 (by simp) hb4
        have hfin : Below w.heap.size w w4 := ((Below.refl w.heap.size w).alloc (Nat.le_refl _) _).trans (hb24.mono (by omega))
        have hb34 : Below w2.heap.size w2 w4 := (bel_drewN (Below.refl w2.heap.size w2) nn).trans (hb3.trans (hb4.mono hb3.size))
        obtain ⟨b4, off4, rfl, hbb4, hcc4⟩ := hp4 (by rw [wins_length]; omega)
        have HC4 := Lib.hid (wins_cells hcc4)
        clear hcc4 hp4 hbb4 hb24 hb23 hb3 hb4 hk20 hk21 hk22 hk30 hk31 hk32 e1 e2 e3 ht2 ht2' m1 m2 m3 m4 HO HO2 HO3 HYES HFIT HB
        obtain ⟨n, hn⟩ : ∃ n, n = j := ⟨_, rfl⟩
        rw [← hn] at hn1 hn2 z0 HC1 HC4 ⊢
        clear hn HC2 hlt hj
        go_wp2
        go_loopw [15] (fun i wr => ∃ j nn : Nat, j ≤ n ∧ i = .int .i64 j ∧ wr = w4.drewN nn) (fun i _ => n - (intOf i).toNat)
        case atStart => exact ⟨0, 0, by omega, rfl, rfl⟩
        case round =>
          obtain ⟨k, nn, hk, rfl, rfl⟩ := hrel
          by_cases hlt : k < n
          · obtain ⟨hc1, hc2⟩ := HC1.out k hlt
            obtain ⟨hc3, hc4⟩ := HC4.out k hlt
            have hc1' : w4.cell? ⟨b1, off1 + k * 2, none⟩ = some (.int .i64 (F + k * S)) := (hb34.cell (p := ⟨b1, off1 + k * 2, none⟩) hbb1).trans hc1
            have hc2' : w4.cell? ⟨b1, off1 + k * 2 + 1, none⟩ = some (.int .i64 (F + k * S + W)) := (hb34.cell (p := ⟨b1, off1 + k * 2 + 1, none⟩) hbb1).trans hc2
            generalize F + (k : Int) * S + W = f2 at *
            generalize F + (k : Int) * S = f at *
            clear hc1 hc2
            have i1 : (k : Int) < (n : Int) := by omega
            have i0 : (0 : Int) ≤ (k : Int) := Int.natCast_nonneg _
            go_wp2
            go_quiet (fail)
            go_wp2
            exact ⟨⟨k + 1, _, by omega, by go_num, by first | rfl | (simp only [World.drewN_drewN]; rfl)⟩, by simp [intOf]; omega⟩
          · go_wp2
            go_ret
            exact ⟨rfl, bel_drewN hfin _⟩
theorem windowMoves_walk (w : World) (W : Int) (hW : -9223372036854775808 ≤ W ∧ W ≤ 9223372036854775807) (S : Int) (hS : -9223372036854775808 ≤ S ∧ S ≤ 9223372036854775807) (O : Int) (hO : -9223372036854775808 ≤ O ∧ O ≤ 9223372036854775807) (t : Int) (ht : -9223372036854775808 ≤ t ∧ t ≤ 9223372036854775807) (d : Int) (hd : -9223372036854775808 ≤ d ∧ d ≤ 9223372036854775807) :
    Calls Try.prog 6 #[.agg #[.int .i64 W, .int .i64 S, .int .i64 O], .int .i64 t, .int .i64 d] w fun e w' => e = .returned (.bool true) ∧ Below w.heap.size w w' := by
  by_cases hv : valid W S O
  · have hb : -1125899906842624 < t.tmod 1125899906842624 ∧ t.tmod 1125899906842624 < 1125899906842624 := by
      have h1 := Int.tmod_lt_of_pos t (show (0 : Int) < 1125899906842624 by decide)
      have h2 := Int.lt_tmod_of_pos t (show (0 : Int) < 1125899906842624 by decide)
      omega
    generalize ht' : t.tmod 1125899906842624 = t' at hb
    obtain ⟨h1, h2, h3, h4, h5, h6, h7⟩ := id hv
    have hF := firstW_bd (W := W) (S := S) (O := O) (t := t') (by omega)
    obtain ⟨f1, f2, _⟩ := has_facts (t := t') hv _ rfl
    have hm := WordMath.and_mask_i64 d 31 5 (by decide) rfl
    have ho2 : ∀ w : World, Calls Try.prog 12 #[.agg #[.int .i64 W, .int .i64 S, .int .i64 O], .int .i64 (t' + S)] w (PairsPost w (wins (firstW W S O t' + S) S W (countW (firstW W S O t') S t')) 0) := fun w => by
      have := of_pairs W S O (t' + S) w hv (by unfold isTime; omega)
      rwa [moves_count W S O t' (by omega), moves_first W S O t' (by omega)] at this
    refine windowMoves_core w W S O t t' (firstW W S O t') d (d % 32) (t' - t' % (1 + d % 32)) (countW (firstW W S O t') S t') hv ht' hb.1 hb.2 hF.1 hF.2 f1 f2 hm (by omega) (by omega) (fun w => of_pairs W S O t' w hv (by unfold isTime; omega)) ho2 ?_
    have hd0 : 0 < 1 + d % 32 := by omega
    by_cases hf : fitsW W S O (1 + d % 32) 0
    · refine .inr ⟨fun w => fitsW_yes _ _ _ _ _ w hf, ?_, fun w => ?_⟩
      · rw [go_mod t' _ hd0]; omega
      · obtain ⟨_, _, _, _, _, g1, g2, g3⟩ := hf
        rw [Int.sub_zero] at g3
        have e1 := bucket_first W S O t' _ hd0 (by omega) (Int.dvd_of_tmod_eq_zero g1) (Int.dvd_of_tmod_eq_zero g2) (Int.dvd_of_tmod_eq_zero g3)
        have e2 := bucket_count W S O t' _ hd0 (by omega) (Int.dvd_of_tmod_eq_zero g1) (Int.dvd_of_tmod_eq_zero g2) (Int.dvd_of_tmod_eq_zero g3)
        have hmod := Int.emod_nonneg t' (show 1 + d % 32 ≠ 0 by omega)
        have hmod2 := Int.emod_lt_of_pos t' hd0
        have := of_pairs W S O (t' - t' % (1 + d % 32)) w hv (by unfold isTime; omega)
        rwa [e2, e1] at this
    · exact .inl fun w => fitsW_no _ _ _ _ _ w (by omega) (by omega) hf
  · exact windowMoves_no w W S O t d hv
end Go.Proofs.Ytjbdnomnjdpckaa

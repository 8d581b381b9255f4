/- The walk of WindowHas: it returns true for every kind of windows and every time. -/
import Derived.Test.YtjbdnomnjdpckaaWindowOf
namespace Go.Proofs.Ytjbdnomnjdpckaa
open Go.RowKit
set_option linter.unusedVariables false

theorem wins_334 : wins (firstW 3 3 0 4) 3 3 (countW (firstW 3 3 0 4) 3 4) = [(3, 6)] := by decide
theorem of_334 (w : World) : Calls Try.prog 12 #[.agg #[.int .i64 3, .int .i64 3, .int .i64 0], .int .i64 4] w
    fun e w' => ∃ b off c, e = .returned (.tuple #[.slice (some ⟨b, off, none⟩) 1 c, .int .i64 0]) ∧ w'.cell? ⟨b, off, none⟩ = some (.int .i64 3) ∧ Below w.heap.size w w' := by
  refine (of_pairs 3 3 0 4 w (by unfold valid; decide) (by decide)).mono fun e w' h => ?_
  rw [wins_334] at h
  obtain ⟨A, c, he, hp, hb⟩ := h
  obtain ⟨b, off, rfl, _, hc⟩ := hp (by decide)
  have := Pairs.at_ hc (i := 0) (by decide)
  exact ⟨b, off, c, he, by simpa using this.1, hb⟩
set_option maxRecDepth 100000 in
set_option maxHeartbeats 4000000 in
theorem windowHas_no (w : World) (W S O t : Int) (hv : ¬ valid W S O) :
    Calls Try.prog 5 #[.agg #[.int .i64 W, .int .i64 S, .int .i64 O], .int .i64 t] w fun e w' => e = .returned (.bool true) ∧ Below w.heap.size w w' := by
  have HO := Lib.hid (fun w t => of_no W S O t w (fun h => hv h.1))
  have HV := Lib.hid (fun w => valid_no W S O w hv)
  clear hv
  go_enter Try.func5, Try.ntmps5
  go_wp2_with fail
  with_reducible refine (HO.out _ _).mono ?_
  rintro e w1 ⟨A, c, rfl, ho, hb1⟩
  simp only [World.size_alloc] at hb1
  have hk1 := kind_cells hb1
  go_wp2_with fail
  with_reducible refine (HV.out _).mono ?_
  rintro e w2 ⟨rfl, hb2⟩
  have hb12 := bel_step hb1 (by simp) hb2
  go_wp2_with fail
  with_reducible refine (of_334 _).mono ?_
  rintro e w3 ⟨b, off, c3, rfl, hc3, hb3⟩
  have hb123 := bel_step hb12 (by simp) hb3
  go_wp2
  go_ret
  exact ⟨rfl, ((Below.refl w.heap.size w).alloc (Nat.le_refl _) _).trans (hb123.mono (by omega))⟩
set_option maxRecDepth 100000 in
set_option maxHeartbeats 8000000 in
theorem windowHas_core (w : World) (W S O t t' F : Int) (n : Nat) (hv : valid W S O) (ht : t.tmod 1152921504606846976 = t') (ht0 : -1152921504606846976 < t') (ht1 : t' < 1152921504606846976)
    (hF1 : t' - W < F) (hF2 : F ≤ t' - W + S) (hn1 : 1 ≤ n) (hn2 : n ≤ 64) (hq1 : F - S + W ≤ t') (hq2 : t' < F + (n - 1 : Nat) * S + S) (hq3 : W / S ≤ n) (hq4 : (n : Int) ≤ W / S + 1) (hq5 : S = W → n = 1)
    (hj : ∀ j : Nat, j < n → F + j * S ≤ t' ∧ t' < F + j * S + W ∧ (F + j * S - O).tmod S = 0)
    (ho : ∀ w : World, Calls Try.prog 12 #[.agg #[.int .i64 W, .int .i64 S, .int .i64 O], .int .i64 t'] w (PairsPost w (wins F S W n) 0)) :
    Calls Try.prog 5 #[.agg #[.int .i64 W, .int .i64 S, .int .i64 O], .int .i64 t] w fun e w' => e = .returned (.bool true) ∧ Below w.heap.size w w' := by
  have HO := Lib.hid ho; clear ho
  have HV := Lib.hid (fun w => valid_yes W S O w hv)
  have HJ := Lib.hid hj; clear hj
  have HQ5 := Lib.hid hq5; clear hq5
  obtain ⟨h1, h2, h3, h4, h5, h6, h7⟩ := hv
  have z0 : ((n : Int) == 0) = false := by rw [beq_eq_false_iff_ne]; omega
  have hsw : (S == W) = true ∧ ((n : Int) == 1) = true ∨ (S == W) = false ∧ ((n : Int) == 1) = true ∨ (S == W) = false ∧ ((n : Int) == 1) = false := by
    by_cases h : S = W
    · exact .inl ⟨by simp [h], by rw [beq_iff_eq]; have := HQ5.out h; omega⟩
    · by_cases h' : n = 1
      · exact .inr (.inl ⟨by simpa using h, by rw [beq_iff_eq]; omega⟩)
      · exact .inr (.inr ⟨by simpa using h, by rw [beq_eq_false_iff_ne]; omega⟩)
  go_enter Try.func5, Try.ntmps5
  go_wp2_with fail
  with_reducible refine (HO.out _).mono ?_
  rintro e w1 ⟨A, c, rfl, hp, hb1⟩
  simp only [World.size_alloc] at hb1
  have hk1 := kind_cells hb1
  rw [wins_length]
  go_wp2_with fail
  with_reducible refine (HV.out _).mono ?_
  rintro e w2 ⟨rfl, hb2⟩
  have hb12 := bel_step hb1 (by simp) hb2
  have hk2 := kind_cells hb12
  have hp2 := hp.below hb2
  obtain ⟨b, off, rfl, hbb, hcc⟩ := hp2 (by rw [wins_length]; omega)
  have hcell : ∀ j : Nat, j < n → w2.cell? ⟨b, off + j * 2, none⟩ = some (.int .i64 (F + j * S)) ∧ w2.cell? ⟨b, off + j * 2 + 1, none⟩ = some (.int .i64 (F + j * S + W)) := fun j hj => by
    have := Pairs.at_ hcc (i := j) (by rw [wins_length]; exact hj)
    rw [wins_getD F S W n j hj] at this
    exact this
  have HCELL := Lib.hid hcell
  clear hcell hcc hp hp2 hb1 hb2 hk1 hbb
  have hfin : Below w.heap.size w w2 := ((Below.refl w.heap.size w).alloc (Nat.le_refl _) _).trans (hb12.mono (by omega))
  obtain ⟨hk20, hk21, hk22⟩ := hk2
  clear hb12
  have hSn : ¬ S = 0 := by omega
  go_upto_region 6 with fail
  go_cut [73] (fun s wx => s = .bool false ∧ w2 = wx)
  case first =>
    rcases hsw with ⟨hs1, hs2⟩ | ⟨hs1, hs2⟩ | ⟨hs1, hs2⟩
    all_goals
      go_wp2_with fail
      go_meet
      case rel => exact ⟨rfl, rfl⟩
  case rest =>
    obtain ⟨rfl, rfl⟩ := hcut
    clear hsw
    go_wp2
    go_loopw [9] (fun i wr => ∃ j nn : Nat, j ≤ n ∧ i = .int .i64 j ∧ wr = w2.drewN nn) (fun i _ => n - (intOf i).toNat)
    case atStart => exact ⟨0, 0, by omega, rfl, rfl⟩
    case round =>
      obtain ⟨j, nn, hj, rfl, rfl⟩ := hrel
      by_cases hlt : j < n
      · obtain ⟨hf1, hf2, hf3⟩ := HJ.out j hlt
        obtain ⟨hc1, hc2⟩ := HCELL.out j hlt
        have hfb : t' - W < F + j * S := by
          have : 0 ≤ (j : Int) * S := Int.mul_nonneg (by omega) (by omega)
          omega
        obtain ⟨f, hf⟩ : ∃ f, f = F + (j : Int) * S := ⟨_, rfl⟩
        rw [← hf] at hf1 hf2 hf3 hc1 hc2 hfb
        have i1 : (j : Int) < (n : Int) := by omega
        have i0 : (0 : Int) ≤ (j : Int) := Int.natCast_nonneg _
        have es : IntKind.i64.wrap (f + W - f) = W := by rw [show f + W - f = W by omega]; exact IntWalk.i64_in _ (by omega)
        have eo : IntKind.i64.wrap (f - O) = f - O := IntWalk.i64_in _ (by omega)
        have d1 : decide (t' < f) = false := by simp; omega
        have d2 : decide (f + W ≤ t') = false := by simp; omega
        have b0 : (W != W) = false := by simp
        by_cases hj0 : 0 < j
        · obtain ⟨j1, hj1⟩ : ∃ j1 : Nat, j = j1 + 1 := ⟨j - 1, by omega⟩
          obtain ⟨hc3, _⟩ := HCELL.out j1 (by omega)
          have hf' : f - (F + (j1 : Int) * S) = S := by
            rw [hf, hj1, Int.natCast_add, Int.add_mul]; omega
          obtain ⟨f', hf2'⟩ : ∃ f', f' = F + (j1 : Int) * S := ⟨_, rfl⟩
          rw [← hf2'] at hc3 hf'
          have es2 : IntKind.i64.wrap (f - f') = S := by rw [hf']; exact IntWalk.i64_in _ (by omega)
          have ej : IntKind.i64.wrap ((j : Int) - 1) = (j1 : Int) := by rw [hj1]; rw [IntWalk.i64_in _ (by omega)]; omega
          have hj0i : (0 : Int) < (j : Int) := by omega
          have q3 : (0 : Int) ≤ (j1 : Int) := by omega
          have q4 : (j1 : Int) < (n : Int) := by omega
          have b1 : (S != S) = false := by simp
          clear hj1
          clear hf hf2' hf'
          clear hq1 hq2 hq3 hq4 hF1 hF2 hfb hf1 hf2 HJ HCELL HO HV HQ5 h5 h6 h7
          go_wp2
          refine wp_region_quiet_lit (by kernel_rfl) (by kernel_rfl) ?_
          simp only [List.append]
          repeat (go_big_quiet_step (fail))
          refine wpQuiet_nil ?_
          intro _ hw'
          obtain ⟨nq, hw''⟩ := hw'
          subst hw''
          go_wp2
          exact ⟨⟨j + 1, _, by omega, by go_num, by first | rfl | (simp only [World.drewN_drewN]; rfl)⟩, by simp [intOf]; omega⟩
        · have hd : decide (0 < (j : Int)) = false := by simp; omega
          have hd2 : decide (0 < j) = false := by simp; omega
          clear hf
          clear hq1 hq2 hq3 hq4 hF1 hF2 hfb hf1 hf2 HJ HCELL HO HV HQ5 h5 h6 h7
          go_wp2
          refine wp_region_quiet_lit (by kernel_rfl) (by kernel_rfl) ?_
          simp only [List.append]
          repeat (go_big_quiet_step (fail))
          refine wpQuiet_nil ?_
          intro _ hw'
          obtain ⟨nq, hw''⟩ := hw'
          subst hw''
          go_wp2
          exact ⟨⟨j + 1, _, by omega, by go_num, by first | rfl | (simp only [World.drewN_drewN]; rfl)⟩, by simp [intOf]; omega⟩
      · obtain rfl : j = n := by omega
        obtain ⟨n1, hn1e⟩ : ∃ n1 : Nat, j = n1 + 1 := ⟨j - 1, by omega⟩
        obtain ⟨hc0, _⟩ := HCELL.out 0 (by omega)
        obtain ⟨hcl, _⟩ := HCELL.out n1 (by omega)
        simp only [Nat.zero_mul, Nat.add_zero, Int.natCast_zero, Int.zero_mul, Int.add_zero] at hc0
        rw [show (j - 1 : Nat) = n1 by omega] at hq2
        have hm0 : 0 ≤ (n1 : Int) * S := Int.mul_nonneg (by omega) (by omega)
        have hm1 : (n1 : Int) * S ≤ 64 * S := Int.mul_le_mul_of_nonneg_right (by omega) (by omega)
        obtain ⟨fl, hfl⟩ : ∃ fl, fl = F + (n1 : Int) * S := ⟨_, rfl⟩
        rw [← hfl] at hcl hq2
        have hflb : fl ≤ F + 64 * S := by omega
        have hflb0 : F ≤ fl := by omega
        obtain ⟨q, hq⟩ : ∃ q, q = W / S := ⟨_, rfl⟩
        have hqb := ediv_nonneg_of (x := W) (S := S) (by omega) (by omega)
        rw [← hq] at hq3 hq4 hqb
        have e1 : IntKind.i64.wrap (F - S) = F - S := IntWalk.i64_in _ (by omega)
        have e2 : IntKind.i64.wrap (F - S + W) = F - S + W := IntWalk.i64_in _ (by omega)
        have e3 : IntKind.i64.wrap ((j : Int) - 1) = (n1 : Int) := by rw [hn1e]; rw [IntWalk.i64_in _ (by omega)]; omega
        have e4 : IntKind.i64.wrap (fl + S) = fl + S := IntWalk.i64_in _ (by omega)
        have e5 : IntKind.i64.wrap (W.tdiv S) = q := by rw [hq]; exact IntWalk.i64_quo _ _ (by omega)
        have e6 : IntKind.i64.wrap (q + 1) = q + 1 := IntWalk.i64_in _ (by omega)
        have d1 : decide (F - S + W ≤ t') = true := by simp; omega
        have d2 : decide (t' < fl + S) = true := by simp; omega
        have d3 : decide (q ≤ (j : Int)) = true := by simp; omega
        have d4 : decide ((j : Int) ≤ q + 1) = true := by simp; omega
        have p0 : (0 : Int) < (j : Int) := by omega
        have p1 : (0 : Int) ≤ (n1 : Int) := by omega
        have p2 : (n1 : Int) < (j : Int) := by omega
        clear hq hfl hn1e hq1 hq2 hq3 hq4 hF1 hF2 HJ HCELL HO HV HQ5 h5 h6 h7 hm0 hm1 hflb hflb0 hqb
        go_wp2
        go_quiet (fail)
        go_wp2
        go_ret
        exact ⟨by simp, bel_drewN (bel_drewN hfin _) _⟩
theorem windowHas_walk (w : World) (W : Int) (hW : -9223372036854775808 ≤ W ∧ W ≤ 9223372036854775807) (S : Int) (hS : -9223372036854775808 ≤ S ∧ S ≤ 9223372036854775807) (O : Int) (hO : -9223372036854775808 ≤ O ∧ O ≤ 9223372036854775807) (t : Int) (ht : -9223372036854775808 ≤ t ∧ t ≤ 9223372036854775807) :
    Calls Try.prog 5 #[.agg #[.int .i64 W, .int .i64 S, .int .i64 O], .int .i64 t] w fun e w' => e = .returned (.bool true) ∧ Below w.heap.size w w' := by
  by_cases hv : valid W S O
  · have hb : -1152921504606846976 < t.tmod 1152921504606846976 ∧ t.tmod 1152921504606846976 < 1152921504606846976 := by
      have h1 := Int.tmod_lt_of_pos t (show (0 : Int) < 1152921504606846976 by decide)
      have h2 := Int.lt_tmod_of_pos t (show (0 : Int) < 1152921504606846976 by decide)
      omega
    generalize ht' : t.tmod 1152921504606846976 = t' at hb
    have hF := firstW_bd (W := W) (S := S) (O := O) (t := t') (by have := hv.2.2.1; omega)
    obtain ⟨f1, f2, f3, f4, f5, f6, f7, f8⟩ := has_facts (t := t') hv _ rfl
    exact windowHas_core w W S O t t' (firstW W S O t') (countW (firstW W S O t') S t') hv ht' hb.1 hb.2 hF.1 hF.2 f1 f2 f3 f4 f5 f6 f7 f8 (fun w => of_pairs W S O t' w hv (by unfold isTime; omega))
  · exact windowHas_no w W S O t hv
end Go.Proofs.Ytjbdnomnjdpckaa

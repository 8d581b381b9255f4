/- The walk of WindowCovers: it returns true for every kind of windows, time and count. -/
import Derived.Test.YtjbdnomnjdpckaaWindowMovesWalk
import Derived.Test.YtjbdnomnjdpckaaWindowAll
namespace Go.Proofs.Ytjbdnomnjdpckaa
open Go.RowKit
set_option linter.unusedVariables false

theorem wins_3304 : wins (firstW 3 3 0 0) 3 3 (countW (firstW 3 3 0 0) 3 (4 - 1)) = [(0, 3), (3, 6)] := by decide
theorem all_3304 (w : World) : Calls Try.prog 15 #[.agg #[.int .i64 3, .int .i64 3, .int .i64 0], .agg #[.int .i64 0, .int .i64 4]] w
    fun e w' => ∃ A c, e = .returned (.tuple #[.slice A 2 c, .int .i64 0]) ∧ Below w.heap.size w w' := by
  refine (all_yes 3 3 0 0 4 w ⟨by unfold valid; decide, by decide, by decide, by decide⟩ (by decide)).mono fun e w' h => ?_
  have hc : countW (firstW 3 3 0 0) 3 (4 - 1) ≤ 65536 := by decide
  unfold AllPost at h
  rw [if_pos hc, wins_3304] at h
  obtain ⟨A, c, he, _, hb⟩ := h
  exact ⟨A, c, he, hb⟩
set_option maxRecDepth 100000 in
set_option maxHeartbeats 4000000 in
theorem windowCovers_no (w : World) (W S O f n f' n' : Int) (hv : ¬ valid W S O) (hf : f.tmod 1099511627776 = f') (hf0 : -1099511627776 < f') (hf1 : f' < 1099511627776) (hn : bits BinOp.and IntKind.i64 n 63 = n') (hn0 : 0 ≤ n') (hn1 : n' ≤ 63) :
    Calls Try.prog 7 #[.agg #[.int .i64 W, .int .i64 S, .int .i64 O], .int .i64 f, .int .i64 n] w fun e w' => e = .returned (.bool true) ∧ Below w.heap.size w w' := by
  have HA := Lib.hid (fun w f t hf ht => all_none W S O f t w 2 (.inr ⟨fun h => hv h.1, rfl⟩) hf ht)
  have HV := Lib.hid (fun w => valid_no W S O w hv)
  clear hv
  go_enter Try.func7, Try.ntmps7
  go_wp2_with fail
  with_reducible refine (HA.out _ _ _ (by omega) (by omega)).mono ?_
  rintro e w1 ⟨A, c, rfl, ho, hb1⟩
  simp only [World.size_alloc] at hb1
  have hk1 := kind_cells hb1
  go_wp2_with fail
  with_reducible refine (HV.out _).mono ?_
  rintro e w2 ⟨rfl, hb2⟩
  have hb12 := bel_step hb1 (by simp) hb2
  go_wp2_with fail
  with_reducible refine (all_3304 _).mono ?_
  rintro e w3 ⟨A3, c3, rfl, hb3⟩
  have hb := bel_step hb12 (by simp) hb3
  go_wp2
  go_ret
  exact ⟨rfl, ((Below.refl w.heap.size w).alloc (Nat.le_refl _) _).trans (hb.mono (by omega))⟩
/-- the outer loop's state -/
def CovRel (w : World) (W S O f F : Int) (n N : Nat) (A : Option Addr) (q i : Value) (wr : World) : Prop :=
  ∃ j a : Nat, j ≤ n ∧ a ≤ N ∧ i = .int .i64 (f + j) ∧ q = .int .i64 a ∧ Below (w.heap.size + 1) (w.alloc (.cells #[.int .i64 W, .int .i64 S, .int .i64 O] 35)) wr ∧ Pairs wr A (wins F S W N)
def CovRel2 (w2 : World) (m N : Nat) (q i : Value) (wr : World) : Prop :=
  ∃ j a nn : Nat, j ≤ m ∧ a ≤ N ∧ i = .int .i64 j ∧ q = .int .i64 a ∧ wr = w2.drewN nn
def CovRel3 (w2 : World) (N : Nat) (q : Value) (wr : World) : Prop := ∃ a nn : Nat, a ≤ N ∧ q = .int .i64 a ∧ wr = w2.drewN nn
def CovRel4 (w2 : World) (r : Nat) (q : Value) (wr : World) : Prop := ∃ a nn : Nat, a ≤ r ∧ q = .int .i64 a ∧ wr = w2.drewN nn
set_option maxRecDepth 100000 in
set_option maxHeartbeats 8000000 in
theorem windowCovers_core (w : World) (W S O f n f' F : Int) (n' N : Nat) (qf nf : Int → Nat) (hv : valid W S O) (hf : f.tmod 1099511627776 = f') (hf0 : -1099511627776 < f') (hf1 : f' < 1099511627776)
    (hn : bits BinOp.and IntKind.i64 n 63 = n') (hn1 : n' ≤ 63) (hN : N ≤ 1000) (hF0 : -2305843009213693952 ≤ F) (hF1 : F ≤ 1152921504606846976)
    (hq : ∀ t : Int, f' ≤ t → t < f' + n' → qf t + nf t ≤ N ∧ nf t ≤ 64)
    (ha : ∀ w : World, Calls Try.prog 15 #[.agg #[.int .i64 W, .int .i64 S, .int .i64 O], .agg #[.int .i64 f', .int .i64 (f' + n')]] w (PairsPost w (wins F S W N) 0))
    (ho : ∀ (t : Int) (w : World), f' ≤ t → t < f' + n' → Calls Try.prog 12 #[.agg #[.int .i64 W, .int .i64 S, .int .i64 O], .int .i64 t] w (PairsPost w (wins (F + (qf t : Int) * S) S W (nf t)) 0))
    (hfin : ∀ i : Nat, i < N → f' < F + i * S + W ∧ F + i * S < f' + n') (hz : ((n' : Int) == 0) = ((N : Int) == 0)) :
    Calls Try.prog 7 #[.agg #[.int .i64 W, .int .i64 S, .int .i64 O], .int .i64 f, .int .i64 n] w fun e w' => e = .returned (.bool true) ∧ Below w.heap.size w w' := by
  have HA := Lib.hid ha; clear ha
  have HO := Lib.hid ho; clear ho
  have HFIN := Lib.hid hfin; clear hfin
  have HQ := Lib.hid hq; clear hq
  have HZ := Lib.hid hz; clear hz
  have HV := Lib.hid (fun w => valid_yes W S O w hv)
  obtain ⟨h1, h2, h3, h4, h5, h6, h7⟩ := hv
  go_enter Try.func7, Try.ntmps7
  go_wp2_with fail
  with_reducible refine (HA.out _).mono ?_
  rintro e w1 ⟨A, c, rfl, hp1, hb1⟩
  simp only [World.size_alloc] at hb1
  have hk1 := kind_cells hb1
  rw [wins_length]
  go_wp2_with fail
  with_reducible refine (HV.out _).mono ?_
  rintro e w2 ⟨rfl, hb2⟩
  have hb12 := bel_step hb1 (by simp) hb2
  have hp2 := hp1.below hb2
  clear hb1 hk1 hp1 hb2
  go_wp2_with fail
  go_loopw [11, 12] (CovRel w W S O f' F n' N A) (fun _ i _ => (f' + n' - intOf i).toNat)
  case atStart => exact ⟨0, 0, by omega, by omega, by simp, rfl, hb12, hp2⟩
  case round =>
    clear hb12 hp2
    obtain ⟨j, a, hj, haN, rfl, rfl, hbel, hpr⟩ := hrel
    obtain ⟨wo, rfl⟩ : ∃ wo : World, wo = wr := ⟨_, rfl⟩
    by_cases hjn : j < n'
    · obtain ⟨hk0, hk1, hk2⟩ := kind_cells hbel
      obtain ⟨hqn, hn64⟩ := HQ.out (f' + j) (by omega) (by omega)
      have HC := Lib.hid (HO.out (f' + j) wo (by omega) (by omega))
      generalize hqe : qf (f' + j) = q at *
      generalize hme : nf (f' + j) = m at *
      clear hqe hme
      have hdj : decide ((f' : Int) + j < f' + n') = true := by simp; omega
      go_wp2_with fail
      with_reducible refine HC.out.mono ?_
      rintro e w3 ⟨A3, c3, rfl, hp3, hb3⟩
      rw [wins_length]
      have hbel3 := bel_step hbel (by simp) hb3
      have hpr3 := hpr.below hb3
      clear hbel hpr hb3 HC hk0 hk1 hk2
      go_wp2_with fail
      go_loopw [11, 15] (CovRel2 w3 m N) (fun _ i _ => m - (intOf i).toNat)
      case atStart => exact ⟨0, a, 0, by omega, haN, rfl, rfl, rfl⟩
      case round =>
        obtain ⟨i, a2, nn, hi, ha2, rfl, rfl, rfl⟩ := hrel
        by_cases him : i < m
        · have hN0 : 0 < N := by omega
          obtain ⟨b1, off1, rfl, hbb1, hcc1⟩ := hpr3 (by rw [wins_length]; omega)
          obtain ⟨b3, off3, rfl, hbb3, hcc3⟩ := hp3 (by rw [wins_length]; omega)
          have HC1 := Lib.hid (wins_cells hcc1)
          obtain ⟨hl1, hl2⟩ := wins_cells hcc3 i him
          have hqS : 0 ≤ (q : Int) * S := Int.mul_nonneg (by omega) (by omega)
          have eqi : F + (q : Int) * S + (i : Int) * S = F + ((q + i : Nat) : Int) * S := by rw [Int.natCast_add, Int.add_mul]; omega
          rw [eqi] at hl1 hl2
          obtain ⟨r, hr⟩ : ∃ r, r = q + i := ⟨_, rfl⟩
          rw [← hr] at hl1 hl2
          have hrN : r < N := by omega
          have hmono : ∀ x y : Nat, F + (x : Int) * S ≤ F + (y : Int) * S ↔ x ≤ y := fun x y => by
            constructor
            · intro h
              rcases Nat.lt_or_ge y x with h' | h'
              · have := Int.mul_lt_mul_of_pos_right (show (y : Int) < x by omega) (show 0 < S by omega)
                omega
              · exact h'
            · intro h
              have := Int.mul_le_mul_of_nonneg_right (show (x : Int) ≤ y by omega) (show 0 ≤ S by omega)
              omega
          have HM := Lib.hid hmono
          have hrb : 0 ≤ (r : Int) * S := Int.mul_nonneg (by omega) (by omega)
          clear hmono hcc1 hcc3 hqS eqi hr hrb
          have i1 : (i : Int) < (m : Int) := by omega
          have i0 : (0 : Int) ≤ (i : Int) := Int.natCast_nonneg _
          obtain ⟨G, hG⟩ : ∃ G, G = F + (r : Int) * S := ⟨_, rfl⟩
          obtain ⟨G2, hG2⟩ : ∃ G2, G2 = G + W := ⟨_, rfl⟩
          rw [← hG] at hl1 hl2
          rw [← hG2] at hl2
          have HG := Lib.hid hG; clear hG
          have HG2 := Lib.hid hG2; clear hG2
          go_wp2_with fail
          go_loopw [11] (CovRel3 w3 N) (fun q _ => (intOf q).toNat)
          case atStart => exact ⟨a2, nn, ha2, rfl, rfl⟩
          case round =>
            obtain ⟨a3, nn3, ha3, rfl, rfl⟩ := hrel
            by_cases hdown : r < a3
            · obtain ⟨a4, ha4⟩ : ∃ a4, a3 = a4 + 1 := ⟨a3 - 1, by omega⟩
              obtain ⟨hc1, _⟩ := HC1.out a4 (by omega)
              have hge : G ≤ F + (a4 : Int) * S := by rw [HG.out]; exact (HM.out r a4).2 (by omega)
              generalize F + (a4 : Int) * S = x at hc1 hge
              have d1 : decide (G ≤ x) = true := by simp; omega
              have ea : IntKind.i64.wrap ((a3 : Int) - 1) = (a4 : Int) := by rw [ha4]; rw [IntWalk.i64_in _ (by omega)]; omega
              have p0 : (0 : Int) < (a3 : Int) := by omega
              have pn : 0 < a3 := by omega
              have p1 : (0 : Int) ≤ (a4 : Int) := by omega
              have p2 : (a4 : Int) < (N : Int) := by omega
              have HA4 := Lib.hid ha4; clear ha4
              go_wp2
              go_quiet (fail)
              go_wp2
              exact ⟨⟨a4, _, by omega, rfl, by first | rfl | (simp only [World.drewN_drewN]; rfl)⟩, by have := HA4.out; simp [intOf]; omega⟩
            · by_cases ha0 : 0 < a3
              · obtain ⟨a4, ha4⟩ : ∃ a4, a3 = a4 + 1 := ⟨a3 - 1, by omega⟩
                obtain ⟨hc1, _⟩ := HC1.out a4 (by omega)
                have hlt : F + (a4 : Int) * S < G := by
                  have : ¬ F + (r : Int) * S ≤ F + (a4 : Int) * S := fun h => absurd ((HM.out r a4).1 h) (by omega)
                  rw [HG.out]; omega
                generalize F + (a4 : Int) * S = x at hc1 hlt
                have d1 : decide (G ≤ x) = false := by simp; omega
                have ea : IntKind.i64.wrap ((a3 : Int) - 1) = (a4 : Int) := by rw [ha4]; rw [IntWalk.i64_in _ (by omega)]; omega
                have p0 : (0 : Int) < (a3 : Int) := by omega
                have p1 : (0 : Int) ≤ (a4 : Int) := by omega
                have p2 : (a4 : Int) < (N : Int) := by omega
                clear ha4
                go_wp2
                go_quiet (fail)
                clear d1 ea p0 p1 p2 hlt hc1
                go_wp2_with fail
                go_loopw [11] (CovRel4 w3 r) (fun q _ => r - (intOf q).toNat)
                case atStart => exact ⟨a3, _, by omega, rfl, by first | rfl | (simp only [World.drewN_drewN]; rfl)⟩
                case round =>
                  obtain ⟨a5, nn5, ha5, rfl, rfl⟩ := hrel
                  by_cases hup : a5 < r
                  · obtain ⟨hc1, _⟩ := HC1.out a5 (by omega)
                    have hlt : F + (a5 : Int) * S < G := by
                      have : ¬ F + (r : Int) * S ≤ F + (a5 : Int) * S := fun h => absurd ((HM.out r a5).1 h) (by omega)
                      rw [HG.out]; omega
                    generalize F + (a5 : Int) * S = x at hc1 hlt
                    have d1 : decide (x < G) = true := by simp; omega
                    have p1 : (0 : Int) ≤ (a5 : Int) := by omega
                    have p2 : (a5 : Int) < (N : Int) := by omega
                    have p3 : a5 < N := by omega
                    go_wp2
                    go_quiet (fail)
                    go_wp2
                    exact ⟨⟨a5 + 1, _, by omega, by go_num, by first | rfl | (simp only [World.drewN_drewN]; rfl)⟩, by simp [intOf]; omega⟩
                  · obtain rfl : a5 = r := by omega
                    obtain ⟨hc1, hc2⟩ := HC1.out a5 (by omega)
                    rw [← HG.out] at hc1 hc2
                    rw [← HG2.out] at hc2
                    have d1 : decide (G < G) = false := by simp
                    have p1 : (0 : Int) ≤ (a5 : Int) := by omega
                    have p2 : (a5 : Int) < (N : Int) := by omega
                    have p3 : a5 < N := by omega
                    have z1 : ((a5 : Int) == (N : Int)) = false := by rw [beq_eq_false_iff_ne]; omega
                    have z2 : (a5 == N) = false := by rw [beq_eq_false_iff_ne]; omega
                    go_wp2
                    go_quiet (fail)
                    go_wp2
                    go_quiet (fail)
                    go_wp2
                    exact ⟨⟨i + 1, a5, _, by omega, by omega, by go_num, rfl, by first | rfl | (simp only [World.drewN_drewN]; rfl)⟩, by simp [intOf]; omega⟩
              · have hd : decide (0 < (a3 : Int)) = false := by simp; omega
                go_wp2
                go_quiet (fail)
                clear hd
                go_wp2_with fail
                go_loopw [11] (CovRel4 w3 r) (fun q _ => r - (intOf q).toNat)
                case atStart => exact ⟨a3, _, by omega, rfl, by first | rfl | (simp only [World.drewN_drewN]; rfl)⟩
                case round =>
                  obtain ⟨a5, nn5, ha5, rfl, rfl⟩ := hrel
                  by_cases hup : a5 < r
                  · obtain ⟨hc1, _⟩ := HC1.out a5 (by omega)
                    have hlt : F + (a5 : Int) * S < G := by
                      have : ¬ F + (r : Int) * S ≤ F + (a5 : Int) * S := fun h => absurd ((HM.out r a5).1 h) (by omega)
                      rw [HG.out]; omega
                    generalize F + (a5 : Int) * S = x at hc1 hlt
                    have d1 : decide (x < G) = true := by simp; omega
                    have p1 : (0 : Int) ≤ (a5 : Int) := by omega
                    have p2 : (a5 : Int) < (N : Int) := by omega
                    have p3 : a5 < N := by omega
                    go_wp2
                    go_quiet (fail)
                    go_wp2
                    exact ⟨⟨a5 + 1, _, by omega, by go_num, by first | rfl | (simp only [World.drewN_drewN]; rfl)⟩, by simp [intOf]; omega⟩
                  · obtain rfl : a5 = r := by omega
                    obtain ⟨hc1, hc2⟩ := HC1.out a5 (by omega)
                    rw [← HG.out] at hc1 hc2
                    rw [← HG2.out] at hc2
                    have d1 : decide (G < G) = false := by simp
                    have p1 : (0 : Int) ≤ (a5 : Int) := by omega
                    have p2 : (a5 : Int) < (N : Int) := by omega
                    have p3 : a5 < N := by omega
                    have z1 : ((a5 : Int) == (N : Int)) = false := by rw [beq_eq_false_iff_ne]; omega
                    have z2 : (a5 == N) = false := by rw [beq_eq_false_iff_ne]; omega
                    go_wp2
                    go_quiet (fail)
                    go_wp2
                    go_quiet (fail)
                    go_wp2
                    exact ⟨⟨i + 1, a5, _, by omega, by omega, by go_num, rfl, by first | rfl | (simp only [World.drewN_drewN]; rfl)⟩, by simp [intOf]; omega⟩
        · go_wp2
          exact ⟨⟨j + 1, a2, by omega, ha2, by go_num, rfl, bel_drewN hbel3 _, hpr3⟩, by simp [intOf]; omega⟩
    · obtain rfl : j = n' := by omega
      have hfinb : Below w.heap.size w wo := ((Below.refl w.heap.size w).alloc (Nat.le_refl _) _).trans (hbel.mono (by omega))
      obtain ⟨hk0, hk1, hk2⟩ := kind_cells hbel
      have hdj : decide ((f' : Int) + j < f' + j) = false := by simp
      clear hbel HA HO HQ HV
      go_wp2_with fail
      go_loopw [16] (CovRel3 wo N) (fun q _ => N - (intOf q).toNat)
      case atStart => exact ⟨0, 0, by omega, rfl, rfl⟩
      case round =>
        obtain ⟨i, nn, hi, rfl, rfl⟩ := hrel
        by_cases hiN : i < N
        · obtain ⟨b1, off1, rfl, hbb1, hcc1⟩ := hpr (by rw [wins_length]; omega)
          have HC1 := Lib.hid (wins_cells hcc1)
          clear hcc1
          obtain ⟨hc1, hc2⟩ := HC1.out i hiN
          obtain ⟨hg1, hg2⟩ := HFIN.out i hiN
          have hp0 : 0 ≤ (i : Int) * S := Int.mul_nonneg (by omega) (by omega)
          have hp1 : (i : Int) * S ≤ 1000 * S := Int.mul_le_mul_of_nonneg_right (by omega) (by omega)
          obtain ⟨x, hx⟩ : ∃ x, x = F + (i : Int) * S := ⟨_, rfl⟩
          rw [← hx] at hc1 hc2 hg1 hg2
          have hxb : F ≤ x ∧ x ≤ F + 1000 * S := by omega
          have d1 : decide (x + W ≤ f') = false := by simp; omega
          have d2 : decide (f' + (j : Int) ≤ x) = false := by simp; omega
          have es : IntKind.i64.wrap (f' + (j : Int)) = f' + j := IntWalk.i64_in _ (by omega)
          have i1 : (i : Int) < (N : Int) := by omega
          have i0 : (0 : Int) ≤ (i : Int) := Int.natCast_nonneg _
          by_cases hi0 : 0 < i
          · obtain ⟨i2, hi2⟩ : ∃ i2, i = i2 + 1 := ⟨i - 1, by omega⟩
            obtain ⟨hc3, _⟩ := HC1.out i2 (by omega)
            have hdx : x - (F + (i2 : Int) * S) = S := by rw [hx, hi2, Int.natCast_add, Int.add_mul]; omega
            obtain ⟨y, hy⟩ : ∃ y, y = F + (i2 : Int) * S := ⟨_, rfl⟩
            rw [← hy] at hc3 hdx
            have e2 : IntKind.i64.wrap (x - y) = S := by rw [hdx]; exact IntWalk.i64_in _ (by omega)
            have ei : IntKind.i64.wrap ((i : Int) - 1) = (i2 : Int) := by rw [hi2]; rw [IntWalk.i64_in _ (by omega)]; omega
            have p0 : (0 : Int) < (i : Int) := by omega
            have p1 : (0 : Int) ≤ (i2 : Int) := by omega
            have p2 : (i2 : Int) < (N : Int) := by omega
            have b1 : (S != S) = false := by simp
            clear hx hy hdx hi2 hp0 hp1
            go_wp2
            go_quiet (fail)
            go_wp2
            exact ⟨⟨i + 1, _, by omega, by go_num, by first | rfl | (simp only [World.drewN_drewN]; rfl)⟩, by simp [intOf]; omega⟩
          · have hd : decide (0 < (i : Int)) = false := by simp; omega
            clear hx hp0 hp1
            go_wp2
            go_quiet (fail)
            go_wp2
            exact ⟨⟨i + 1, _, by omega, by go_num, by first | rfl | (simp only [World.drewN_drewN]; rfl)⟩, by simp [intOf]; omega⟩
        · go_wp2
          go_ret
          refine ⟨?_, bel_drewN hfinb _⟩
          have := HZ.out
          simp only [Array.getD]
          exact ret_bool (by rw [this]; simp)
/-- the windows of the times of a span lie among the span's -/
theorem cov_facts {W S O f : Int} (hv : valid W S O) (n : Nat) (hn : 0 < n) (t : Int) (h1 : f ≤ t) (h2 : t < f + n) :
    ∃ q : Nat, firstW W S O t = firstW W S O f + q * S ∧ q + countW (firstW W S O t) S t ≤ countW (firstW W S O f) S (f + n - 1) := by
  obtain ⟨g1, g2, g3, g4, g5, g6, g7⟩ := hv
  have hS : 0 < S := by omega
  have a := firstW_form W S O f
  have b := firstW_form W S O t
  have hle : (f - W - O) / S ≤ (t - W - O) / S := Int.ediv_le_ediv hS (by omega)
  have hbt := firstW_bd (W := W) (S := S) (O := O) (t := t) hS
  have hbf := firstW_bd (W := W) (S := S) (O := O) (t := f) hS
  refine ⟨((t - W - O) / S - (f - W - O) / S).toNat, ?_, ?_⟩
  · have e : ((((t - W - O) / S - (f - W - O) / S).toNat : Nat) : Int) = (t - W - O) / S - (f - W - O) / S := Int.toNat_of_nonneg (by omega)
    rw [a, b, e, Int.sub_mul, Int.mul_comm _ S, Int.mul_comm _ S]
    simp only [Int.mul_add]; omega
  · have e : ((((t - W - O) / S - (f - W - O) / S).toNat : Nat) : Int) = (t - W - O) / S - (f - W - O) / S := Int.toNat_of_nonneg (by omega)
    have hd := ediv_bds (x := t - firstW W S O t) (S := S) hS
    have h0 := ediv_nonneg_of (x := t - firstW W S O t) (S := S) hS (by omega)
    have key : (t - W - O) / S - (f - W - O) / S + (t - firstW W S O t) / S ≤ (f + n - 1 - firstW W S O f) / S := by
      refine Int.le_ediv_of_mul_le hS ?_
      rw [Int.add_mul, Int.sub_mul, Int.mul_comm _ S, Int.mul_comm _ S, Int.mul_comm _ S]
      have : S * ((t - W - O) / S) - S * ((f - W - O) / S) = firstW W S O t - firstW W S O f := by rw [a, b]; simp only [Int.mul_add]; omega
      omega
    unfold countW
    omega
theorem windowCovers_walk (w : World) (W : Int) (hW : -9223372036854775808 ≤ W ∧ W ≤ 9223372036854775807) (S : Int) (hS : -9223372036854775808 ≤ S ∧ S ≤ 9223372036854775807) (O : Int) (hO : -9223372036854775808 ≤ O ∧ O ≤ 9223372036854775807) (f : Int) (hf : -9223372036854775808 ≤ f ∧ f ≤ 9223372036854775807) (n : Int) (hn : -9223372036854775808 ≤ n ∧ n ≤ 9223372036854775807) :
    Calls Try.prog 7 #[.agg #[.int .i64 W, .int .i64 S, .int .i64 O], .int .i64 f, .int .i64 n] w fun e w' => e = .returned (.bool true) ∧ Below w.heap.size w w' := by
  have hb : -1099511627776 < f.tmod 1099511627776 ∧ f.tmod 1099511627776 < 1099511627776 := by
    have h1 := Int.tmod_lt_of_pos f (show (0 : Int) < 1099511627776 by decide)
    have h2 := Int.lt_tmod_of_pos f (show (0 : Int) < 1099511627776 by decide)
    omega
  generalize hf' : f.tmod 1099511627776 = f' at hb
  have hm := WordMath.and_mask_i64 n 63 6 (by decide) rfl
  by_cases hv : valid W S O
  · obtain ⟨n', hn'⟩ := Int.eq_ofNat_of_zero_le (show 0 ≤ n % (63 + 1) by omega)
    rw [hn'] at hm
    have hn63 : n' ≤ 63 := by omega
    obtain ⟨g1, g2, g3, g4, g5, g6, g7⟩ := id hv
    have hbf := firstW_bd (W := W) (S := S) (O := O) (t := f') (by omega)
    rcases Nat.eq_zero_or_pos n' with h0 | h0
    · subst h0
      refine windowCovers_core w W S O f n f' (firstW W S O f') 0 0 (fun _ => 0) (fun _ => 0) hv hf' hb.1 hb.2 hm (by omega) (by omega) (by omega) (by omega) (fun t h1 h2 => by omega) (fun w => ?_) (fun t w h1 h2 => by omega) (fun i hi => by omega) rfl
      have := (all_none W S O f' (f' + (0 : Nat)) w 0 (.inl ⟨⟨hv, by unfold isTime; omega, by unfold isTime; omega, by omega⟩, by omega, rfl⟩) (by omega) (by omega)).mono fun _ _ h => h.pairs
      exact this
    · have hcov := fun t h1 h2 => cov_facts (f := f') hv n' h0 t h1 h2
      have hN : countW (firstW W S O f') S (f' + n' - 1) ≤ 1000 := by
        have : (f' + n' - 1 - firstW W S O f') / S < 128 := Int.ediv_lt_of_lt_mul (by omega) (by omega)
        unfold countW; omega
      have hN1 : 1 ≤ countW (firstW W S O f') S (f' + n' - 1) := by
        have := ediv_nonneg_of (x := f' + n' - 1 - firstW W S O f') (S := S) (by omega) (by omega)
        unfold countW; omega
      refine windowCovers_core w W S O f n f' (firstW W S O f') n' (countW (firstW W S O f') S (f' + n' - 1)) (fun t => if h : f' ≤ t ∧ t < f' + n' then (hcov t h.1 h.2).choose else 0) (fun t => countW (firstW W S O t) S t) hv hf' hb.1 hb.2 hm hn63 hN (by omega) (by omega) ?_ (fun w => ?_) ?_ ?_ ?_
      · intro t h1 h2
        obtain ⟨_, f2, _⟩ := has_facts (t := t) hv _ rfl
        refine ⟨?_, f2⟩
        show (if h : f' ≤ t ∧ t < f' + n' then (hcov t h.1 h.2).choose else 0) + _ ≤ _
        rw [dif_pos ⟨h1, h2⟩]
        exact (hcov t h1 h2).choose_spec.2
      · have := all_yes W S O f' (f' + n') w ⟨hv, by unfold isTime; omega, by unfold isTime; omega, by omega⟩ (by omega)
        refine this.mono fun _ _ h => ?_
        unfold AllPost at h
        rw [if_pos (by omega)] at h
        exact h.pairs
      · intro t w h1 h2
        have h3 := (hcov t h1 h2).choose_spec.1
        have h4 := of_pairs W S O t w hv (by unfold isTime; omega)
        show Calls _ _ _ _ (PairsPost w (wins (firstW W S O f' + ((if h : f' ≤ t ∧ t < f' + n' then (hcov t h.1 h.2).choose else 0 : Nat) : Int) * S) S W (countW (firstW W S O t) S t)) 0)
        rw [dif_pos ⟨h1, h2⟩, ← h3]
        exact h4
      · intro i hi
        have h3 := (count_lt (firstW W S O f') S (f' + n' - 1) i (by omega) (by omega)).2 hi
        have h4 : 0 ≤ (i : Int) * S := Int.mul_nonneg (by omega) (by omega)
        omega
      · rw [Bool.eq_iff_iff, beq_iff_eq, beq_iff_eq]; omega
  · exact windowCovers_no w W S O f n f' (n % (63 + 1)) hv hf' hb.1 hb.2 hm (by omega) (by omega)
end Go.Proofs.Ytjbdnomnjdpckaa

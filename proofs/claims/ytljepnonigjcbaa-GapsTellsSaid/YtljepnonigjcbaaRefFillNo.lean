/- The contract of tidemillref23.Fill, mode no. -/
import Derived.Test.YtljepnonigjcbaaRefFillH
namespace Go.Proofs.Ytljepnonigjcbaa
open Go Go.RowKit
set_option linter.unusedVariables false
set_option maxRecDepth 100000 in
set_option maxHeartbeats 4000000 in
theorem rfill_no (A : Option Addr) (R : List Rw) (c : Nat) (W S O fr to_ how : Int) (L : List (Int × Int)) (w : World) (hh : 0 ≤ how ∧ how ≤ 3) (hr : RowsAt w A R) (hR : ∀ r ∈ R, rwOk r) (hRn : R.length ≤ 65536) (hLn : L.length ≤ 65536) (hL : ∀ p ∈ L, in64' p.1 ∧ in64' p.2 ∧ tb p.1) (hA : A = none → c = 0) (hlc : R.length ≤ c) (hcm : c ≤ 9223372036854775807) (hup : risesL L) (hfn : ¬ fineR R L)
    (hall : ∀ w, Calls Try.prog 17 #[.int .i64 W, .int .i64 S, .int .i64 O, .agg #[.int .i64 fr, .int .i64 to_]] w (RefPairs w L 0)) :
    Calls Try.prog 7 #[.slice A R.length c, .int .i64 W, .int .i64 S, .int .i64 O, .int .i64 fr, .int .i64 to_, .int .i64 how] w (FillPost w [] 2) := by
  have HALL := Lib.hid hall; have HR := Lib.hid hR; have HL := Lib.hid hL; have HUP := Lib.hid hup; have HFN := Lib.hid hfn; have HA := Lib.hid (And.intro hA (And.intro hlc hcm)); have HROW := Lib.hid hr
  clear hall hR hL hup hfn hA hlc hcm hr
  skip
  have g1 : ¬ how < 0 := by omega
  have g2 : ¬ 3 < how := by omega
  go_enter Try.func7, Try.ntmps7
  go_wp2_with fail
  with_reducible refine (HALL.out _).mono ?_
  rintro e w1 ⟨A1, c1, rfl, hp, hb1⟩
  have HP := Lib.hid hp; have HB1 := Lib.hid hb1
  replace HROW := Lib.hid (HROW.out.below hb1)
  clear hp hb1 HALL
  go_wp2_with fail
  go_loopw [18, 19] (ScanRel w1 R L) (fun _ i _ => R.length - (intOf i).toNat)
  case atStart => exact ⟨0, 0, 0, by omega, by omega, rfl, rfl, fun j h => by omega, fun m h => by omega, rfl⟩
  case round =>
    obtain ⟨i, k, nn, hi, hk, rfl, rfl, hok, hpre, rfl⟩ := hrel
    replace hok := Lib.hid hok; replace hpre := Lib.hid hpre
    by_cases hlt : i < R.length
    · obtain ⟨br, fr', rfl, hbr, hcr⟩ := HROW.out (by omega)
      obtain ⟨r0, r1, r2, r3, r4⟩ := RowsAt.at_ hcr (i := i) hlt
      replace hcr := Lib.hid hcr
      have hrw := HR.out (R.getD i rw0) (by rw [List.getD_eq_getElem?_getD, List.getElem?_eq_getElem hlt]; exact List.getElem_mem _)
      have hfb : in64' (R.getD i rw0).f := hrw.1
      unfold in64' at hfb
      obtain ⟨rf, hrf⟩ : ∃ rf, rf = (R.getD i rw0).f := ⟨_, rfl⟩
      obtain ⟨rt, hrt⟩ : ∃ rt, rt = (R.getD i rw0).t := ⟨_, rfl⟩
      obtain ⟨rz, hrz⟩ : ∃ rz, rz = (R.getD i rw0).z := ⟨_, rfl⟩
      rw [← hrf] at r0 hfb; rw [← hrt] at r1; rw [← hrz] at r2
      replace hrf := Lib.hid hrf; replace hrt := Lib.hid hrt; replace hrz := Lib.hid hrz; replace hrw := Lib.hid hrw
      clear r3 r4
      have i0 : (0 : Int) ≤ (i : Int) := Int.natCast_nonneg _
      have i1 : (i : Int) < (R.length : Int) := by omega
      skip
      go_wp2_with fail
      go_loopw [18] (InnRel w1 R L i k) (fun v _ => L.length - (intOf v).toNat)
      case atStart => exact ⟨k, nn, hk, rfl, fun m h => .inl h, rfl⟩
      case round =>
        obtain ⟨q, nq, hq, rfl, hqb, rfl⟩ := hrel
        replace hqb := Lib.hid hqb
        have q0 : (0 : Int) ≤ (q : Int) := Int.natCast_nonneg _
        by_cases hql : q < L.length
        · obtain ⟨bl, fl, rfl, hbl, hcl⟩ := HP.out (by omega)
          obtain ⟨l0, l1⟩ := Pairs.at2 hcl (i := q) hql
          replace hcl := Lib.hid hcl
          have hlw := HL.out (L.getD q (0, 0)) (by rw [List.getD_eq_getElem?_getD, List.getElem?_eq_getElem hql]; exact List.getElem_mem _)
          obtain ⟨lf, hlf⟩ : ∃ lf, lf = (L.getD q (0, 0)).1 := ⟨_, rfl⟩
          obtain ⟨lt, hlt'⟩ : ∃ lt, lt = (L.getD q (0, 0)).2 := ⟨_, rfl⟩
          rw [← hlf] at l0; rw [← hlt'] at l1
          replace hlf := Lib.hid hlf; replace hlt' := Lib.hid hlt'; replace hlw := Lib.hid hlw
          have q1 : (q : Int) < (L.length : Int) := by omega
          have qd : decide ((q : Int) < (L.length : Int)) = true := by simp; omega
          by_cases hc : lf < rf
          · go_wp2_with fail
            go_quiet (fail)
            go_wp2_with fail
            refine ⟨⟨q + 1, _, by omega, by go_num, fun m hm => ?_, by first | rfl | (simp only [World.drewN_drewN]; rfl)⟩, by simp [intOf]; omega⟩
            rcases (show m < q ∨ m = q by omega) with h | h
            · exact hqb.out m h
            · subst h; exact .inr (by rw [← hlf.out, ← hrf.out]; exact hc)
          · have hqn : ((q : Int) == L.length) = false := by simp; omega
            cases rz with
            | true =>
              go_wp2_with fail
              go_quiet (fail)
              go_wp2_with fail
              go_quiet (fail)
              go_wp2_with fail
              go_ret2
              exact ⟨none, 0, rfl, Cells.zero _ _ _, fun _ => rfl, by decide, by decide, bel_drewN (bel_drewN (bel_drewN HB1.out _) _) _⟩
            | false =>
              by_cases hne : lf = rf
              · have dne : (lf != rf) = false := by simp [hne]
                by_cases hnt : lt = rt
                · have dnt : (lt != rt) = false := by simp [hnt]
                  replace hne := Lib.hid hne; replace hnt := Lib.hid hnt
                  rcases Nat.eq_zero_or_pos i with hi0 | hi0
                  · have d0 : ¬ 0 < i := by omega
                    replace hi0 := Lib.hid hi0
                    go_wp2_with fail
                    go_quiet (fail)
                    go_wp2_with fail
                    go_quiet (fail)
                    go_wp2_with fail
                    refine ⟨⟨i + 1, q, _, by omega, by omega, by go_num, rfl, fun j hj => ?_, fun m hm => ⟨by omega, ?_⟩, by first | rfl | (simp only [World.drewN_drewN]; rfl)⟩, by simp [intOf]; omega⟩
                    · rcases (show j < i ∨ j = i by omega) with h | h
                      · exact hok.out j h
                      · subst h; exact scan_yes R L j q hrz.out.symm hql (by rw [← hlf.out, ← hrf.out]; exact hne.out) (by rw [← hlt'.out, ← hrt.out]; exact hnt.out) (fun h => absurd h (by have := hi0.out; omega))
                    · rw [Nat.add_sub_cancel]
                      rcases hqb.out m hm with h | h
                      · exact absurd (hpre.out m h).1 d0
                      · exact h
                  · obtain ⟨i', hi'⟩ : ∃ i', i = i' + 1 := ⟨i - 1, by omega⟩
                    have ei : IntKind.i64.wrap ((i : Int) - 1) = (i' : Int) := by rw [IntWalk.i64_in _ (by omega)]; omega
                    have rp := (RowsAt.at_ hcr.out (i := i') (by omega)).1
                    obtain ⟨pf, hpf⟩ : ∃ pf, pf = (R.getD i' rw0).f := ⟨_, rfl⟩
                    rw [← hpf] at rp
                    have hpf' : (R.getD (i - 1) rw0).f = pf := by rw [hpf, hi']; rfl
                    replace hpf := Lib.hid hpf'; clear hpf'
                    have ip0 : (0 : Int) ≤ (i' : Int) := Int.natCast_nonneg _
                    have ip1 : (i' : Int) < (R.length : Int) := by omega
                    replace hi' := Lib.hid hi'
                    by_cases hgo : pf < rf
                    · have dg : ¬ rf ≤ pf := by omega
                      go_wp2_with fail
                      go_quiet (fail)
                      go_wp2_with fail
                      go_quiet (fail)
                      go_wp2_with fail
                      refine ⟨⟨i + 1, q, _, by omega, by omega, by go_num, rfl, fun j hj => ?_, fun m hm => ⟨by omega, ?_⟩, by first | rfl | (simp only [World.drewN_drewN]; rfl)⟩, by simp [intOf]; omega⟩
                      · rcases (show j < i ∨ j = i by omega) with h | h
                        · exact hok.out j h
                        · subst h; exact scan_yes R L j q hrz.out.symm hql (by rw [← hlf.out, ← hrf.out]; exact hne.out) (by rw [← hlt'.out, ← hrt.out]; exact hnt.out) (fun h => by rw [hpf.out, ← hrf.out]; exact hgo)
                      · rw [Nat.add_sub_cancel]
                        rcases hqb.out m hm with h | h
                        · exact Int.lt_trans (hpre.out m h).2 (by rw [hpf.out, ← hrf.out]; exact hgo)
                        · exact h
                    · have dg : rf ≤ pf := by omega
                      go_wp2_with fail
                      go_quiet (fail)
                      go_wp2_with fail
                      go_quiet (fail)
                      go_wp2_with fail
                      go_ret2
                      exact ⟨none, 0, rfl, Cells.zero _ _ _, fun _ => rfl, by decide, by decide, bel_drewN (bel_drewN (bel_drewN HB1.out _) _) _⟩
                · have dnt : (lt != rt) = true := by simp [hnt]
                  replace hne := Lib.hid hne
                  go_wp2_with fail
                  go_quiet (fail)
                  go_wp2_with fail
                  go_quiet (fail)
                  go_wp2_with fail
                  go_ret2
                  exact ⟨none, 0, rfl, Cells.zero _ _ _, fun _ => rfl, by decide, by decide, bel_drewN (bel_drewN (bel_drewN HB1.out _) _) _⟩
              · have dne : (lf != rf) = true := by simp [hne]
                go_wp2_with fail
                go_quiet (fail)
                go_wp2_with fail
                go_quiet (fail)
                go_wp2_with fail
                go_ret2
                exact ⟨none, 0, rfl, Cells.zero _ _ _, fun _ => rfl, by decide, by decide, bel_drewN (bel_drewN (bel_drewN HB1.out _) _) _⟩
        · obtain rfl : q = L.length := by omega
          have qd : ((L.length : Int) == L.length) = true := by simp
          cases rz with
          | true =>
            go_wp2_with fail
            go_quiet (fail)
            go_wp2_with fail
            go_quiet (fail)
            go_wp2_with fail
            go_ret2
            exact ⟨none, 0, rfl, Cells.zero _ _ _, fun _ => rfl, by decide, by decide, bel_drewN (bel_drewN (bel_drewN HB1.out _) _) _⟩
          | false =>
            go_wp2_with fail
            go_quiet (fail)
            go_wp2_with fail
            go_quiet (fail)
            go_wp2_with fail
            go_ret2
            exact ⟨none, 0, rfl, Cells.zero _ _ _, fun _ => rfl, by decide, by decide, bel_drewN (bel_drewN (bel_drewN HB1.out _) _) _⟩
    · exact absurd (fun j hj => hok.out j (by omega)) HFN.out
end Go.Proofs.Ytljepnonigjcbaa

/- The contract of tidemillref23.Fill, mode 1. -/
import Derived.Test.YtljepnonigjcbaaRefFillH
namespace Go.Proofs.Ytljepnonigjcbaa
open Go Go.RowKit
set_option linter.unusedVariables false
set_option maxRecDepth 100000 in
set_option maxHeartbeats 4000000 in
theorem rfill_1 (A : Option Addr) (R : List Rw) (c : Nat) (W S O fr to_ how : Int) (L : List (Int × Int)) (w : World) (hh : 0 ≤ how ∧ how ≤ 3) (hw : how = 1) (hr : RowsAt w A R) (hR : ∀ r ∈ R, rwOk r) (hRn : R.length ≤ 65536) (hLn : L.length ≤ 65536) (hL : ∀ p ∈ L, in64' p.1 ∧ in64' p.2 ∧ tb p.1) (hA : A = none → c = 0) (hlc : R.length ≤ c) (hcm : c ≤ 9223372036854775807) (hup : risesL L) (hfn : fineR R L)
    (hall : ∀ w, Calls Try.prog 17 #[.int .i64 W, .int .i64 S, .int .i64 O, .agg #[.int .i64 fr, .int .i64 to_]] w (RefPairs w L 0)) :
    Calls Try.prog 7 #[.slice A R.length c, .int .i64 W, .int .i64 S, .int .i64 O, .int .i64 fr, .int .i64 to_, .int .i64 how] w (FillPost w (fillO how R L) 0) := by
  have HALL := Lib.hid hall; have HR := Lib.hid hR; have HL := Lib.hid hL; have HUP := Lib.hid hup; have HFN := Lib.hid hfn; have HA := Lib.hid (And.intro hA (And.intro hlc hcm)); have HROW := Lib.hid hr
  clear hall hR hL hup hfn hA hlc hcm hr
  have HW := Lib.hid hw; clear hw
  skip
  have g1 : ¬ how < 0 := by omega
  have g2 : ¬ 3 < how := by omega
  go_enter Try.func7, Try.ntmps7
  go_wp2_with fail
  with_reducible refine (HALL.out _).mono ?_
  rintro e w1 ⟨A1, c1, rfl, hp, hb1⟩
  have HP := Lib.hid hp; have HB1 := Lib.hid hb1
  replace HROW := Lib.hid (HROW.out.below hb1)
  clear hp hb1 HALL
  go_wp2_with fail
  go_loopw [18, 19] (ScanRel w1 R L) (fun _ i _ => R.length - (intOf i).toNat)
  case atStart => exact ⟨0, 0, 0, by omega, by omega, rfl, rfl, fun j h => by omega, fun m h => by omega, rfl⟩
  case round =>
    obtain ⟨i, k, nn, hi, hk, rfl, rfl, hok, hpre, rfl⟩ := hrel
    replace hok := Lib.hid hok; replace hpre := Lib.hid hpre
    by_cases hlt : i < R.length
    · obtain ⟨br, fr', rfl, hbr, hcr⟩ := HROW.out (by omega)
      obtain ⟨r0, r1, r2, r3, r4⟩ := RowsAt.at_ hcr (i := i) hlt
      replace hcr := Lib.hid hcr
      have hrw := HR.out (R.getD i rw0) (by rw [List.getD_eq_getElem?_getD, List.getElem?_eq_getElem hlt]; exact List.getElem_mem _)
      have hfb : in64' (R.getD i rw0).f := hrw.1
      unfold in64' at hfb
      obtain ⟨rf, hrf⟩ : ∃ rf, rf = (R.getD i rw0).f := ⟨_, rfl⟩
      obtain ⟨rt, hrt⟩ : ∃ rt, rt = (R.getD i rw0).t := ⟨_, rfl⟩
      obtain ⟨rz, hrz⟩ : ∃ rz, rz = (R.getD i rw0).z := ⟨_, rfl⟩
      rw [← hrf] at r0 hfb; rw [← hrt] at r1; rw [← hrz] at r2
      replace hrf := Lib.hid hrf; replace hrt := Lib.hid hrt; replace hrz := Lib.hid hrz; replace hrw := Lib.hid hrw
      clear r3 r4
      have i0 : (0 : Int) ≤ (i : Int) := Int.natCast_nonneg _
      have i1 : (i : Int) < (R.length : Int) := by omega
      skip
      go_wp2_with fail
      go_loopw [18] (InnRel w1 R L i k) (fun v _ => L.length - (intOf v).toNat)
      case atStart => exact ⟨k, nn, hk, rfl, fun m h => .inl h, rfl⟩
      case round =>
        obtain ⟨q, nq, hq, rfl, hqb, rfl⟩ := hrel
        replace hqb := Lib.hid hqb
        have q0 : (0 : Int) ≤ (q : Int) := Int.natCast_nonneg _
        by_cases hql : q < L.length
        · obtain ⟨bl, fl, rfl, hbl, hcl⟩ := HP.out (by omega)
          obtain ⟨l0, l1⟩ := Pairs.at2 hcl (i := q) hql
          replace hcl := Lib.hid hcl
          have hlw := HL.out (L.getD q (0, 0)) (by rw [List.getD_eq_getElem?_getD, List.getElem?_eq_getElem hql]; exact List.getElem_mem _)
          obtain ⟨lf, hlf⟩ : ∃ lf, lf = (L.getD q (0, 0)).1 := ⟨_, rfl⟩
          obtain ⟨lt, hlt'⟩ : ∃ lt, lt = (L.getD q (0, 0)).2 := ⟨_, rfl⟩
          rw [← hlf] at l0; rw [← hlt'] at l1
          replace hlf := Lib.hid hlf; replace hlt' := Lib.hid hlt'; replace hlw := Lib.hid hlw
          have q1 : (q : Int) < (L.length : Int) := by omega
          have qd : decide ((q : Int) < (L.length : Int)) = true := by simp; omega
          by_cases hc : lf < rf
          · go_wp2_with fail
            go_quiet (fail)
            go_wp2_with fail
            refine ⟨⟨q + 1, _, by omega, by go_num, fun m hm => ?_, by first | rfl | (simp only [World.drewN_drewN]; rfl)⟩, by simp [intOf]; omega⟩
            rcases (show m < q ∨ m = q by omega) with h | h
            · exact hqb.out m h
            · subst h; exact .inr (by rw [← hlf.out, ← hrf.out]; exact hc)
          · have hqn : ((q : Int) == L.length) = false := by simp; omega
            cases rz with
            | true =>
              exact absurd (HFN.out i hlt) (fun h => by have h7 := h.1; rw [← hrz.out] at h7; cases h7)
            | false =>
              by_cases hne : lf = rf
              · have dne : (lf != rf) = false := by simp [hne]
                by_cases hnt : lt = rt
                · have dnt : (lt != rt) = false := by simp [hnt]
                  replace hne := Lib.hid hne; replace hnt := Lib.hid hnt
                  rcases Nat.eq_zero_or_pos i with hi0 | hi0
                  · have d0 : ¬ 0 < i := by omega
                    replace hi0 := Lib.hid hi0
                    go_wp2_with fail
                    go_quiet (fail)
                    go_wp2_with fail
                    go_quiet (fail)
                    go_wp2_with fail
                    refine ⟨⟨i + 1, q, _, by omega, by omega, by go_num, rfl, fun j hj => ?_, fun m hm => ⟨by omega, ?_⟩, by first | rfl | (simp only [World.drewN_drewN]; rfl)⟩, by simp [intOf]; omega⟩
                    · rcases (show j < i ∨ j = i by omega) with h | h
                      · exact hok.out j h
                      · subst h; exact scan_yes R L j q hrz.out.symm hql (by rw [← hlf.out, ← hrf.out]; exact hne.out) (by rw [← hlt'.out, ← hrt.out]; exact hnt.out) (fun h => absurd h (by have := hi0.out; omega))
                    · rw [Nat.add_sub_cancel]
                      rcases hqb.out m hm with h | h
                      · exact absurd (hpre.out m h).1 d0
                      · exact h
                  · obtain ⟨i', hi'⟩ : ∃ i', i = i' + 1 := ⟨i - 1, by omega⟩
                    have ei : IntKind.i64.wrap ((i : Int) - 1) = (i' : Int) := by rw [IntWalk.i64_in _ (by omega)]; omega
                    have rp := (RowsAt.at_ hcr.out (i := i') (by omega)).1
                    obtain ⟨pf, hpf⟩ : ∃ pf, pf = (R.getD i' rw0).f := ⟨_, rfl⟩
                    rw [← hpf] at rp
                    have hpf' : (R.getD (i - 1) rw0).f = pf := by rw [hpf, hi']; rfl
                    replace hpf := Lib.hid hpf'; clear hpf'
                    have ip0 : (0 : Int) ≤ (i' : Int) := Int.natCast_nonneg _
                    have ip1 : (i' : Int) < (R.length : Int) := by omega
                    replace hi' := Lib.hid hi'
                    by_cases hgo : pf < rf
                    · have dg : ¬ rf ≤ pf := by omega
                      go_wp2_with fail
                      go_quiet (fail)
                      go_wp2_with fail
                      go_quiet (fail)
                      go_wp2_with fail
                      refine ⟨⟨i + 1, q, _, by omega, by omega, by go_num, rfl, fun j hj => ?_, fun m hm => ⟨by omega, ?_⟩, by first | rfl | (simp only [World.drewN_drewN]; rfl)⟩, by simp [intOf]; omega⟩
                      · rcases (show j < i ∨ j = i by omega) with h | h
                        · exact hok.out j h
                        · subst h; exact scan_yes R L j q hrz.out.symm hql (by rw [← hlf.out, ← hrf.out]; exact hne.out) (by rw [← hlt'.out, ← hrt.out]; exact hnt.out) (fun h => by rw [hpf.out, ← hrf.out]; exact hgo)
                      · rw [Nat.add_sub_cancel]
                        rcases hqb.out m hm with h | h
                        · exact Int.lt_trans (hpre.out m h).2 (by rw [hpf.out, ← hrf.out]; exact hgo)
                        · exact h
                    · have dg : rf ≤ pf := by omega
                      exact absurd (HFN.out i hlt) (fun h => by have h7 := h.2.2 hi0; rw [hpf.out, ← hrf.out] at h7; omega)
                · have dnt : (lt != rt) = true := by simp [hnt]
                  replace hne := Lib.hid hne
                  exact absurd (HFN.out i hlt) (fun h => by have h7 := scan_row R L i q HUP.out (fun m hm => by rcases hqb.out m hm with h9 | h9; exact Int.lt_trans (hpre.out m h9).2 (h.2.2 (hpre.out m h9).1); exact h9) (fun _ => by rw [← hrf.out, ← hlf.out]; omega) h; rw [← hlt'.out, ← hrt.out] at h7; exact hnt h7.2.2.2)
              · have dne : (lf != rf) = true := by simp [hne]
                exact absurd (HFN.out i hlt) (fun h => by have h7 := scan_row R L i q HUP.out (fun m hm => by rcases hqb.out m hm with h9 | h9; exact Int.lt_trans (hpre.out m h9).2 (h.2.2 (hpre.out m h9).1); exact h9) (fun _ => by rw [← hrf.out, ← hlf.out]; omega) h; rw [← hlf.out, ← hrf.out] at h7; exact hne h7.2.2.1)
        · obtain rfl : q = L.length := by omega
          have qd : ((L.length : Int) == L.length) = true := by simp
          cases rz with
          | true =>
            exact absurd (HFN.out i hlt) (fun h => by have h7 := h.1; rw [← hrz.out] at h7; cases h7)
          | false =>
            exact absurd (HFN.out i hlt) (fun h => by have h7 := scan_row R L i L.length HUP.out (fun m hm => by rcases hqb.out m hm with h9 | h9; exact Int.lt_trans (hpre.out m h9).2 (h.2.2 (hpre.out m h9).1); exact h9) (fun h8 => absurd h8 (by omega)) h; omega)
    · obtain rfl : i = R.length := by omega
      have hf : fineR R L := HFN.out
      replace hf := Lib.hid hf
      obtain ⟨w2, hw2⟩ : ∃ w2, w2 = w1.drewN nn := ⟨_, rfl⟩
      have HB2 : Hid (Below w.heap.size w w2) := Lib.hid (by rw [hw2]; exact bel_drewN HB1.out _)
      have HRO2 : Hid (RowsAt w2 A R) := Lib.hid (by rw [hw2]; exact HROW.out)
      have HP2 : Hid (Pairs w2 A1 L) := Lib.hid (by rw [hw2]; exact HP.out)
      rw [← hw2]
      clear hw2 HP HROW HB1 hok hpre
      by_cases h0 : how = 0
      · exact absurd (h0.symm.trans HW.out) (by decide)
      · have EO := Lib.hid (show fillO how R L = (fillN how R L L.length).1 from if_neg h0)
        have h0b : (how == 0) = false := by simpa using h0
        go_wp2_with fail
        go_loopw [20, 21, 22] (FillRel w2 how R L) (fun _ _ i _ => L.length - (intOf i).toNat)
        case atStart => exact ⟨0, none, 0, by omega, rfl, rfl, rfl, World.ownsRow_nil _ _ _ _, Below.refl _ _⟩
        case round =>
          obtain ⟨q, Aq, cq, hq, rfl, rfl, rfl, hown, hbl⟩ := hrel
          have hsz := hbl.size
          obtain ⟨hle1, hle2⟩ := fillN_le how R L q
          by_cases hql : q < L.length
          · obtain ⟨bl, fl, rfl, hbl', hcl⟩ := HP2.out (by omega)
            obtain ⟨l0, l1⟩ := Pairs.at2 hcl (i := q) hql
            have hlw := HL.out (L.getD q (0, 0)) (by rw [List.getD_eq_getElem?_getD, List.getElem?_eq_getElem hql]; exact List.getElem_mem _)
            replace l0 := cell_be hbl l0; replace l1 := cell_be hbl l1
            obtain ⟨lf, hlf⟩ : ∃ lf, lf = (L.getD q (0, 0)).1 := ⟨_, rfl⟩
            obtain ⟨lt, hlt'⟩ : ∃ lt, lt = (L.getD q (0, 0)).2 := ⟨_, rfl⟩
            rw [← hlf] at l0; rw [← hlt'] at l1
            have HIT := Lib.hid (@fillN_hit how R L q); have MISS := Lib.hid (@fillN_miss how R L q)
            rw [← hlf, ← hlt'] at MISS; rw [← hlf] at HIT
            replace hlw : Hid (in64' lf ∧ in64' lt ∧ tb lf) := Lib.hid (by rw [hlf, hlt']; exact hlw)
            clear hlf hlt' hcl
            obtain ⟨nx, hnx⟩ : ∃ nx, nx = (fillN how R L q).2 := ⟨_, rfl⟩
            rw [← hnx] at hle1 hle2 HIT MISS ⊢
            replace hnx := Lib.hid hnx
            have q0 : (0 : Int) ≤ (q : Int) := Int.natCast_nonneg _
            have q1 : (q : Int) < (L.length : Int) := by omega
            have n0 : (0 : Int) ≤ (nx : Int) := Int.natCast_nonneg _
            have h63 : q + 1 ≤ maxLen := Nat.le_trans (show q + 1 ≤ 65537 by omega) (by decide)
            have hby : (q + 1) * 40 ≤ 140737488355328 := by omega
            by_cases hnl : nx < R.length
            · obtain ⟨br, fr', rfl, hbr, hcr⟩ := HRO2.out (by omega)
              obtain ⟨r0, r1, r2, r3, r4⟩ := RowsAt.at_ hcr (i := nx) hnl
              replace r0 := cell_be hbl r0; replace r1 := cell_be hbl r1; replace r2 := cell_be hbl r2; replace r3 := cell_be hbl r3; replace r4 := cell_be hbl r4
              have n1 : (nx : Int) < (R.length : Int) := by omega
              by_cases he : (R.getD nx rw0).f = lf
              · have X := HIT.out hnl he
                obtain ⟨P, hP⟩ : ∃ P, P = R.getD nx rw0 := ⟨_, rfl⟩
                rw [← hP] at r0 r1 r2 r3 r4 X he
                replace X := Lib.hid X; replace hP := Lib.hid hP
                rw [he] at r0
                replace he := Lib.hid he
                clear hcr HIT MISS
                go_wp2_with fail
                go_quiet (fail)
                have hownq := own_drewN hown nq
                have hblq := bel_drewN hbl nq
                go_wp2_with (at_builtin; refine wpList_append_g rowElem hownq hblq (Nat.le_refl _) hblq.size wr.heap.size rfl rfl _ _ rfl [.int .i64 lf, .int .i64 P.t, .bool P.z, .int .i64 (hiW P.v), .int .u64 (loW P.v)] rfl rfl rfl (by simp [Value.oneCell']) h63 hby ?_; intro A1 c1 w3 ho1 hb3 hg1)
                refine ⟨⟨q + 1, A1, c1, by omega, by go_num, rfl, by rw [X.out]; go_num, ?_, hb3⟩, by simp [intOf]; omega⟩
                rw [X.out, cells5_append, cells5_one]
                unfold rwCells
                rw [he.out]
                exact ho1
              · have X := Lib.hid (MISS.out (fun h => he h.2))
                obtain ⟨P, hP⟩ : ∃ P, P = R.getD nx rw0 := ⟨_, rfl⟩
                rw [← hP] at r0 r1 r2 r3 r4 he
                replace hP := Lib.hid hP; replace hcr := Lib.hid hcr
                have dhe : (P.f == lf) = false := by simpa using he
                rcases (show how = 1 ∨ how = 2 ∨ how = 3 by omega) with hw | hw | hw
                · rcases Nat.eq_zero_or_pos nx with hz | hz
                  · have ww2 : (how == 2) = false := by (rw [hw]; rfl)
                    have ww3 : (how == 3) = false := by (rw [hw]; rfl)
                    replace hw := Lib.hid hw
                    have dnx : ¬ 0 < nx := by omega
                    replace hz := Lib.hid hz
                    go_wp2_with fail
                    go_quiet (fail)
                    go_wp2_with fail
                    obtain ⟨wq, hwq⟩ : ∃ wq, wq = wr.drewN nq := ⟨_, rfl⟩
                    rw [← hwq]
                    have bq : Below wr.heap.size wr wq := by rw [hwq]; exact bel_drewN (Below.refl _ _) _
                    replace l0 := cell_be bq l0; replace l1 := cell_be bq l1
                    clear hwq
                    go_region_held3 (fun w' => w'.cell? ⟨bl, fl + q * 2, none⟩ = some (.int .i64 lf) ∧ w'.cell? ⟨bl, fl + q * 2 + 1, none⟩ = some (.int .i64 lt)) ((refine ⟨?_, ?_⟩ <;> (repeat (first | (with_reducible refine cset ?_ (by omega)) | (with_reducible refine cell_al ?_) | (with_reducible refine cell_dr ?_))) <;> (with_reducible first | exact l0 | exact l1))) (first | fail)
                    go_upto_region 25 with fail
                    obtain ⟨w3, hw3⟩ : ∃ w3, w3 = (wq.alloc (.cells #[.int .i64 lf, .int .i64 lt, .bool true, .int .i64 0, .int .u64 0] 39)).drew := ⟨_, rfl⟩
                    rw [← hw3]
                    have F := Lib.hid (show FiveZ w3 wq.heap.size (.int .i64 lf) (.int .i64 lt) (.bool true) (.int .i64 0) (.int .u64 0) by rw [hw3]; exact FiveZ.new rfl _ _ _ _ _ _)
                    have b3w : Below wq.heap.size wq w3 := by rw [hw3]; exact ((Below.refl _ _).alloc (Nat.le_refl _) _).drew
                    have b3 : Below wr.heap.size wr w3 := by rw [hw3]; exact (bq.alloc bq.size _).drew
                    have hg3 : wr.heap.size ≤ wq.heap.size := bq.size
                    clear hw3 bq
                    have Y : Hid (fillN how R L (q + 1) = ((fillN how R L q).1 ++ [nullRow lf lt], nx)) := Lib.hid (by rw [X.out, show holeRow how (if 0 < nx then R[nx - 1]? else none) R[nx]? lf lt = nullRow lf lt from by rw [hw.out]; rfl])
                    clear X
                    obtain ⟨x0, x1, x2, x3, x4, y0, y1, y2, y3, y4⟩ := F.out
                    have hownX := own_below hown b3
                    have hblX := bel_step hbl (Nat.le_refl _) b3
                    go_wp2_with (at_builtin; refine wpList_append_g rowElem hownX hblX (Nat.le_refl _) hblX.size w3.heap.size rfl rfl _ _ rfl [.int .i64 lf, .int .i64 lt, .bool true, .int .i64 0, .int .u64 0] rfl rfl rfl (by simp [Value.oneCell']) h63 hby ?_; intro A2 c2 w9 ho1 hb9 hg1)
                    refine ⟨⟨q + 1, A2, c2, by omega, by go_num, rfl, by rw [Y.out], ?_, hb9⟩, by simp [intOf]; omega⟩
                    rw [Y.out, cells5_append, cells5_one]
                    have z : rwCells (nullRow lf lt) = [.int .i64 lf, .int .i64 lt, .bool true, .int .i64 0, .int .u64 0] := rfl
                    rw [z]
                    exact ho1
                  · have ww2 : (how == 2) = false := by (rw [hw]; rfl)
                    have ww3 : (how == 3) = false := by (rw [hw]; rfl)
                    replace hw := Lib.hid hw
                    have dnx : 0 < nx := by omega
                    replace hz := Lib.hid hz
                    go_wp2_with fail
                    go_quiet (fail)
                    go_wp2_with fail
                    obtain ⟨wq, hwq⟩ : ∃ wq, wq = wr.drewN nq := ⟨_, rfl⟩
                    rw [← hwq]
                    have bq : Below wr.heap.size wr wq := by rw [hwq]; exact bel_drewN (Below.refl _ _) _
                    replace l0 := cell_be bq l0; replace l1 := cell_be bq l1
                    clear hwq
                    go_region_held3 (fun w' => w'.cell? ⟨bl, fl + q * 2, none⟩ = some (.int .i64 lf) ∧ w'.cell? ⟨bl, fl + q * 2 + 1, none⟩ = some (.int .i64 lt)) ((refine ⟨?_, ?_⟩ <;> (repeat (first | (with_reducible refine cset ?_ (by omega)) | (with_reducible refine cell_al ?_) | (with_reducible refine cell_dr ?_))) <;> (with_reducible first | exact l0 | exact l1))) (first | fail)
                    go_upto_region 25 with fail
                    obtain ⟨w3, hw3⟩ : ∃ w3, w3 = (wq.alloc (.cells #[.int .i64 lf, .int .i64 lt, .bool true, .int .i64 0, .int .u64 0] 39)).drew := ⟨_, rfl⟩
                    rw [← hw3]
                    have F := Lib.hid (show FiveZ w3 wq.heap.size (.int .i64 lf) (.int .i64 lt) (.bool true) (.int .i64 0) (.int .u64 0) by rw [hw3]; exact FiveZ.new rfl _ _ _ _ _ _)
                    have b3w : Below wq.heap.size wq w3 := by rw [hw3]; exact ((Below.refl _ _).alloc (Nat.le_refl _) _).drew
                    have b3 : Below wr.heap.size wr w3 := by rw [hw3]; exact (bq.alloc bq.size _).drew
                    have hg3 : wr.heap.size ≤ wq.heap.size := bq.size
                    clear hw3 bq
                    have Y : Hid (fillN how R L (q + 1) = ((fillN how R L q).1 ++ [nullRow lf lt], nx)) := Lib.hid (by rw [X.out, show holeRow how (if 0 < nx then R[nx - 1]? else none) R[nx]? lf lt = nullRow lf lt from by rw [hw.out]; rfl])
                    clear X
                    obtain ⟨x0, x1, x2, x3, x4, y0, y1, y2, y3, y4⟩ := F.out
                    have hownX := own_below hown b3
                    have hblX := bel_step hbl (Nat.le_refl _) b3
                    go_wp2_with (at_builtin; refine wpList_append_g rowElem hownX hblX (Nat.le_refl _) hblX.size w3.heap.size rfl rfl _ _ rfl [.int .i64 lf, .int .i64 lt, .bool true, .int .i64 0, .int .u64 0] rfl rfl rfl (by simp [Value.oneCell']) h63 hby ?_; intro A2 c2 w9 ho1 hb9 hg1)
                    refine ⟨⟨q + 1, A2, c2, by omega, by go_num, rfl, by rw [Y.out], ?_, hb9⟩, by simp [intOf]; omega⟩
                    rw [Y.out, cells5_append, cells5_one]
                    have z : rwCells (nullRow lf lt) = [.int .i64 lf, .int .i64 lt, .bool true, .int .i64 0, .int .u64 0] := rfl
                    rw [z]
                    exact ho1
                · rcases Nat.eq_zero_or_pos nx with hz | hz
                  · exact absurd (hw.symm.trans HW.out) (by decide)
                  · exact absurd (hw.symm.trans HW.out) (by decide)
                · rcases Nat.eq_zero_or_pos nx with hz | hz
                  · exact absurd (hw.symm.trans HW.out) (by decide)
                  · exact absurd (hw.symm.trans HW.out) (by decide)
            · have X := Lib.hid (MISS.out (fun h => hnl h.1))
              rcases (show how = 1 ∨ how = 2 ∨ how = 3 by omega) with hw | hw | hw
              · rcases Nat.eq_zero_or_pos nx with hz | hz
                · have ww2 : (how == 2) = false := by (rw [hw]; rfl)
                  have ww3 : (how == 3) = false := by (rw [hw]; rfl)
                  replace hw := Lib.hid hw
                  have dnx : ¬ 0 < nx := by omega
                  replace hz := Lib.hid hz
                  go_wp2_with fail
                  go_quiet (fail)
                  go_wp2_with fail
                  obtain ⟨wq, hwq⟩ : ∃ wq, wq = wr.drewN nq := ⟨_, rfl⟩
                  rw [← hwq]
                  have bq : Below wr.heap.size wr wq := by rw [hwq]; exact bel_drewN (Below.refl _ _) _
                  replace l0 := cell_be bq l0; replace l1 := cell_be bq l1
                  clear hwq
                  go_region_held3 (fun w' => w'.cell? ⟨bl, fl + q * 2, none⟩ = some (.int .i64 lf) ∧ w'.cell? ⟨bl, fl + q * 2 + 1, none⟩ = some (.int .i64 lt)) ((refine ⟨?_, ?_⟩ <;> (repeat (first | (with_reducible refine cset ?_ (by omega)) | (with_reducible refine cell_al ?_) | (with_reducible refine cell_dr ?_))) <;> (with_reducible first | exact l0 | exact l1))) (first | fail)
                  go_upto_region 25 with fail
                  obtain ⟨w3, hw3⟩ : ∃ w3, w3 = (wq.alloc (.cells #[.int .i64 lf, .int .i64 lt, .bool true, .int .i64 0, .int .u64 0] 39)).drew := ⟨_, rfl⟩
                  rw [← hw3]
                  have F := Lib.hid (show FiveZ w3 wq.heap.size (.int .i64 lf) (.int .i64 lt) (.bool true) (.int .i64 0) (.int .u64 0) by rw [hw3]; exact FiveZ.new rfl _ _ _ _ _ _)
                  have b3w : Below wq.heap.size wq w3 := by rw [hw3]; exact ((Below.refl _ _).alloc (Nat.le_refl _) _).drew
                  have b3 : Below wr.heap.size wr w3 := by rw [hw3]; exact (bq.alloc bq.size _).drew
                  have hg3 : wr.heap.size ≤ wq.heap.size := bq.size
                  clear hw3 bq
                  have Y : Hid (fillN how R L (q + 1) = ((fillN how R L q).1 ++ [nullRow lf lt], nx)) := Lib.hid (by rw [X.out, show holeRow how (if 0 < nx then R[nx - 1]? else none) R[nx]? lf lt = nullRow lf lt from by rw [hw.out]; rfl])
                  clear X
                  obtain ⟨x0, x1, x2, x3, x4, y0, y1, y2, y3, y4⟩ := F.out
                  have hownX := own_below hown b3
                  have hblX := bel_step hbl (Nat.le_refl _) b3
                  go_wp2_with (at_builtin; refine wpList_append_g rowElem hownX hblX (Nat.le_refl _) hblX.size w3.heap.size rfl rfl _ _ rfl [.int .i64 lf, .int .i64 lt, .bool true, .int .i64 0, .int .u64 0] rfl rfl rfl (by simp [Value.oneCell']) h63 hby ?_; intro A2 c2 w9 ho1 hb9 hg1)
                  refine ⟨⟨q + 1, A2, c2, by omega, by go_num, rfl, by rw [Y.out], ?_, hb9⟩, by simp [intOf]; omega⟩
                  rw [Y.out, cells5_append, cells5_one]
                  have z : rwCells (nullRow lf lt) = [.int .i64 lf, .int .i64 lt, .bool true, .int .i64 0, .int .u64 0] := rfl
                  rw [z]
                  exact ho1
                · have ww2 : (how == 2) = false := by (rw [hw]; rfl)
                  have ww3 : (how == 3) = false := by (rw [hw]; rfl)
                  replace hw := Lib.hid hw
                  have dnx : 0 < nx := by omega
                  replace hz := Lib.hid hz
                  go_wp2_with fail
                  go_quiet (fail)
                  go_wp2_with fail
                  obtain ⟨wq, hwq⟩ : ∃ wq, wq = wr.drewN nq := ⟨_, rfl⟩
                  rw [← hwq]
                  have bq : Below wr.heap.size wr wq := by rw [hwq]; exact bel_drewN (Below.refl _ _) _
                  replace l0 := cell_be bq l0; replace l1 := cell_be bq l1
                  clear hwq
                  go_region_held3 (fun w' => w'.cell? ⟨bl, fl + q * 2, none⟩ = some (.int .i64 lf) ∧ w'.cell? ⟨bl, fl + q * 2 + 1, none⟩ = some (.int .i64 lt)) ((refine ⟨?_, ?_⟩ <;> (repeat (first | (with_reducible refine cset ?_ (by omega)) | (with_reducible refine cell_al ?_) | (with_reducible refine cell_dr ?_))) <;> (with_reducible first | exact l0 | exact l1))) (first | fail)
                  go_upto_region 25 with fail
                  obtain ⟨w3, hw3⟩ : ∃ w3, w3 = (wq.alloc (.cells #[.int .i64 lf, .int .i64 lt, .bool true, .int .i64 0, .int .u64 0] 39)).drew := ⟨_, rfl⟩
                  rw [← hw3]
                  have F := Lib.hid (show FiveZ w3 wq.heap.size (.int .i64 lf) (.int .i64 lt) (.bool true) (.int .i64 0) (.int .u64 0) by rw [hw3]; exact FiveZ.new rfl _ _ _ _ _ _)
                  have b3w : Below wq.heap.size wq w3 := by rw [hw3]; exact ((Below.refl _ _).alloc (Nat.le_refl _) _).drew
                  have b3 : Below wr.heap.size wr w3 := by rw [hw3]; exact (bq.alloc bq.size _).drew
                  have hg3 : wr.heap.size ≤ wq.heap.size := bq.size
                  clear hw3 bq
                  have Y : Hid (fillN how R L (q + 1) = ((fillN how R L q).1 ++ [nullRow lf lt], nx)) := Lib.hid (by rw [X.out, show holeRow how (if 0 < nx then R[nx - 1]? else none) R[nx]? lf lt = nullRow lf lt from by rw [hw.out]; rfl])
                  clear X
                  obtain ⟨x0, x1, x2, x3, x4, y0, y1, y2, y3, y4⟩ := F.out
                  have hownX := own_below hown b3
                  have hblX := bel_step hbl (Nat.le_refl _) b3
                  go_wp2_with (at_builtin; refine wpList_append_g rowElem hownX hblX (Nat.le_refl _) hblX.size w3.heap.size rfl rfl _ _ rfl [.int .i64 lf, .int .i64 lt, .bool true, .int .i64 0, .int .u64 0] rfl rfl rfl (by simp [Value.oneCell']) h63 hby ?_; intro A2 c2 w9 ho1 hb9 hg1)
                  refine ⟨⟨q + 1, A2, c2, by omega, by go_num, rfl, by rw [Y.out], ?_, hb9⟩, by simp [intOf]; omega⟩
                  rw [Y.out, cells5_append, cells5_one]
                  have z : rwCells (nullRow lf lt) = [.int .i64 lf, .int .i64 lt, .bool true, .int .i64 0, .int .u64 0] := rfl
                  rw [z]
                  exact ho1
              · rcases Nat.eq_zero_or_pos nx with hz | hz
                · exact absurd (hw.symm.trans HW.out) (by decide)
                · exact absurd (hw.symm.trans HW.out) (by decide)
              · rcases Nat.eq_zero_or_pos nx with hz | hz
                · exact absurd (hw.symm.trans HW.out) (by decide)
                · exact absurd (hw.symm.trans HW.out) (by decide)
          · obtain rfl : q = L.length := by omega
            have e1 := Lib.hid (fillN_length how R L L.length)
            have hcap := own_cap hown
            go_wp2_with fail
            go_ret2
            rw [EO.out]
            refine ⟨Aq, cq, by rw [e1.out]; rfl, RowsAt.of_own (base := w2.heap.size) (e := 39) (c := cq) (by rw [e1.out]; exact hown), hcap.1, by rw [e1.out]; exact hcap.2.1, hcap.2.2, bel_step HB2.out (Nat.le_refl _) hbl⟩
end Go.Proofs.Ytljepnonigjcbaa

/- The walk of GapsLines: it returns true for any values, any windows that have them, and any way. -/
import Derived.Test.YtljepnonigjcbaaGLines
import Derived.Test.YtljepnonigjcbaaGLines37
import Derived.Test.YtljepnonigjcbaaWordMath
namespace Go.Proofs.Ytljepnonigjcbaa
open Go Go.RowKit
set_option linter.unusedVariables false

/-- an argument that is a slice of Bools -/
structure BoolArg (w : World) (A : Option Addr) (n c : Nat) (b : Nat → Bool) : Prop where
  cells : Cells w A n (fun j => .bool (b j))
  le : n ≤ c
  max : c ≤ 9223372036854775807
theorem side_wins0 (n : Nat) (hn1 : n ≤ 1000) (w : World) :
    Calls Try.prog 11 #[.agg #[.int .i64 10, .int .i64 10, .int .i64 0], .agg #[.int .i64 0, .int .i64 (10 * n)]] w (PairsPost w (wins 0 10 10 n) 0) := by
  rcases Nat.eq_zero_or_pos n with rfl | hn
  · have h := all_none 10 10 0 0 0 w 0 (.inl ⟨⟨by unfold valid; omega, ⟨by omega, by omega⟩, ⟨by omega, by omega⟩, by omega⟩, rfl, rfl⟩) (by omega) (by omega)
    exact h.mono fun e w' hp => hp.pairs
  · exact side_wins 10 n (by decide) (by decide) hn hn1 w
theorem has_ok (x : Nat → Int) (b : Nat → Bool) (n : Nat) (hx : ∀ j, j < n → in64x (x j)) (hn : n ≤ 60) : ∀ r ∈ hasR x b n, rwOk r := by
  intro r hr
  obtain ⟨j, hj, rfl⟩ := hasR_mem x b n r hr
  exact ⟨⟨by simp only [lrow]; omega, by simp only [lrow]; omega⟩, ⟨by simp only [lrow]; omega, by simp only [lrow]; omega⟩, fits_in64 (hx j hj)⟩
theorem fillO_has (how : Int) (x : Nat → Int) (b : Nat → Bool) (n : Nat) (hh : how ≠ 0) : fillO how (hasR x b n) (wins 0 10 10 n) = hasF how x b n := by
  unfold fillO hasF
  rw [if_neg hh, wins_length]
theorem fillO_nil2 (how : Int) (hh : how ≠ 0) : fillO how [] (wins 0 10 10 2) = nullR 10 2 := by
  unfold fillO
  rw [if_neg hh, wins_length, fill_nil how 10 2 2 (Nat.le_refl _)]
def LinesRel (W : World) (x : Nat → Int) (b : Nat → Bool) (n m : Nat) (v7 v8 v9 v10 : Value) (wr : World) : Prop :=
  ∃ (k : Nat) (A : Option Addr) (c : Nat), k ≤ n ∧ k ≤ m ∧ k ≤ 60 ∧ v9 = .int .i64 k ∧ v8 = .int .i64 k ∧ v7 = .slice A (cntB b k) c ∧ wr.ownsRow W.heap.size 39 5 (.slice A (cntB b k) c) (cntB b k) (cells5 (hasR x b k)) ∧ Below W.heap.size W wr
def LinesAt (W : World) (b : Nat → Bool) (n : Nat) (v15 v16 : Value) (wr : World) : Prop := ∃ j : Nat, j ≤ n ∧ v16 = .int .i64 j ∧ v15 = .int .i64 (cntB b j) ∧ Below W.heap.size W wr
set_option maxRecDepth 100000 in
set_option maxHeartbeats 4000000 in
theorem lines_at (w : World) (A : Option Addr) (n c : Nat) (x : Nat → Int) (ha : IntArg w A n c x) (B : Option Addr) (m d : Nat) (b : Nat → Bool) (hb : BoolArg w B m d b) (how r H0 H : Int)
    (h1 : how.tmod 3 = r) (hr0 : -2 ≤ r) (hr1 : r ≤ 2) (h2 : (r + 3).tmod 3 = H0) (hHH : H = H0 + 1) (hH1 : 1 ≤ H) (hH3 : H ≤ 3) :
    Calls Try.prog 4 #[.slice A n c, .slice B m d, .int .i64 how] w fun e w' => e = .returned (.bool true) ∧ Below w.heap.size w w' := by
  obtain ⟨hi, hle, hmax, hbd⟩ := ha
  obtain ⟨hj, hle2, hmax2⟩ := hb
  have HBD := Lib.hid hbd; clear hbd
  have e3 : IntKind.i64.wrap (r + 3) = r + 3 := IntWalk.i64_in _ (by omega)
  have e4 : IntKind.i64.wrap (1 + H0) = H := by rw [IntWalk.i64_in _ (by omega)]; omega
  clear hHH
  go_enter Try.func4, Try.ntmps4
  go_wp2_with fail
  go_loopw [7, 8, 9, 10] (LinesRel w x b n m) (fun _ _ i _ _ => 60 - (intOf i).toNat)
  case atStart => exact ⟨0, none, 0, by omega, by omega, by omega, rfl, rfl, rfl, World.ownsRow_nil _ _ _ _, Below.refl _ _⟩
  case round =>
    obtain ⟨k, A', c', hk, hk1, hk2, rfl, rfl, rfl, hown, hbl⟩ := hrel
    have hsz := hbl.size
    go_upto_region 5 with fail
    go_cut [39] (fun t wx => t = .bool (decide (k < n ∧ k < m ∧ k < 60)) ∧ wr = wx)
    case first =>
      rcases (show (k < n ∧ k < m ∧ k < 60) ∨ (k < n ∧ k < m ∧ ¬ k < 60) ∨ (k < n ∧ ¬ k < m) ∨ ¬ k < n by omega) with ⟨hl1, hl2, hl3⟩ | ⟨hl1, hl2, hl3⟩ | ⟨hl1, hl2⟩ | hl1
      all_goals
        go_wp2_with fail
        go_meet
        exact ⟨by (try simp only [hl1, hl2, hl3]); (try simp); (try omega), rfl⟩
    case rest =>
    obtain ⟨rfl, rfl⟩ := hcut
    by_cases hlt : k < n ∧ k < m ∧ k < 60
    · rw [decide_eq_true hlt]
      obtain ⟨hl1, hl2, hl3⟩ := hlt
      obtain ⟨ba, fa, rfl, hba, hca⟩ := hi (by omega)
      obtain ⟨bb, fb, rfl, hbb, hcb⟩ := hj (by omega)
      have xk : wr.cell? ⟨ba, fa + k, none⟩ = some (.int .i64 (x k)) := (hbl.cell (p := ⟨ba, fa + k, none⟩) hba).trans (hca k hl1)
      have bk : wr.cell? ⟨bb, fb + k, none⟩ = some (.bool (b k)) := (hbl.cell (p := ⟨bb, fb + k, none⟩) hbb).trans (hcb k hl2)
      have xb := HBD.out k hl1
      have HS := Lib.hid (hiW_shift (x k) xb.1 xb.2)
      have HL := Lib.hid (show IntKind.u64.wrap (x k) = loW (x k) by rw [IntKind.wrap_u64]; rfl)
      have hcn := cntB_le b k
      have h63 : cntB b k + 1 ≤ maxLen := Nat.le_trans (show cntB b k + 1 ≤ 65536 by omega) (by decide)
      have hby : (cntB b k + 1) * 40 ≤ 140737488355328 := by omega
      have c1 : cntB b (k + 1) = cntB b k + if b k = true then 1 else 0 := rfl
      have r1 : hasR x b (k + 1) = hasR x b k ++ hasG x b k := rfl
      have C1 := Lib.hid c1; have R1 := Lib.hid r1
      clear c1 r1 hca hcb
      cases hbk : b k with
      | false =>
        rw [hbk] at bk
        have C2 : Hid (cntB b (k + 1) = cntB b k) := Lib.hid (by rw [C1.out, hbk]; rfl)
        have R2 : Hid (hasR x b (k + 1) = hasR x b k) := Lib.hid (by rw [R1.out]; unfold hasG; rw [hbk]; simp)
        clear hbk
        go_wp2_with fail
        refine ⟨⟨k + 1, A', c', by omega, by omega, by omega, by go_num, by go_num, by rw [C2.out], by rw [C2.out, R2.out]; exact hown, hbl⟩, by simp [intOf]; omega⟩
      | true =>
        rw [hbk] at bk
        have C2 : Hid (cntB b (k + 1) = cntB b k + 1) := Lib.hid (by rw [C1.out, hbk]; rfl)
        have R2 : Hid (hasR x b (k + 1) = hasR x b k ++ [lrow x k]) := Lib.hid (by rw [R1.out]; unfold hasG; rw [hbk]; simp)
        clear hbk
        go_wp2_with (at_builtin; refine wpList_append_g rowElem hown hbl (Nat.le_refl _) hsz wr.heap.size rfl rfl _ _ rfl [.int .i64 (10 * (k : Int)), .int .i64 (10 * (k : Int) + 10), .bool false, .int .i64 (x k / 9223372036854775808), .int .u64 (IntKind.u64.wrap (x k))] rfl rfl rfl (by simp [Value.oneCell']) h63 hby ?_; intro A1 c1 w3 ho1 hb3 hg1)
        refine ⟨⟨k + 1, A1, c1, by omega, by omega, by omega, by go_num, by go_num, by rw [C2.out], ?_, hb3⟩, by simp [intOf]; omega⟩
        rw [C2.out, R2.out, cells5_append, cells5_one]
        unfold rwCells lrow
        rw [← HS.out, ← HL.out, Int.mul_comm]
        exact ho1
    rw [decide_eq_false hlt]
    obtain ⟨hcn, hN⟩ : (¬ (k < n ∧ k < m ∧ k < 60)) ∧ k ≤ 60 := ⟨hlt, hk2⟩
    have hx64 : ∀ j, j < k → in64x (x j) := fun j hj' => HBD.out j (by omega)
    have hsok := side_ok 10 k (by decide) (by decide) (by omega)
    have hsok2 := side_ok 10 2 (by decide) (by decide) (by omega)
    have hal := fun w => side_wins0 k (by omega) w
    have hal2 : ∀ w, Calls Try.prog 11 #[.agg #[.int .i64 10, .int .i64 10, .int .i64 0], .agg #[.int .i64 0, .int .i64 20]] w (PairsPost w (wins 0 10 10 2) 0) := fun w => side_wins0 2 (by omega) w
    have hcl := cntB_le b k
    have hra : RowsAt wr A' (hasR x b k) := RowsAt.of_own (base := w.heap.size) (e := 39) (c := c') (by rw [hasR_length]; exact hown)
    have hcap := own_cap hown
    have HFA := Lib.hid (fun (w : World) (hr : RowsAt w A' (hasR x b k)) => fill_fine A' (hasR x b k) c' 10 10 0 0 (10 * k) H (wins 0 10 10 k) w ⟨by omega, hH3⟩ hr (has_ok x b k hx64 hN) (by rw [hasR_length]; omega) (by rw [wins_length]; omega) hsok (has_fine x b k) hcap.1 hal)
    have HFN := Lib.hid (fun (w : World) => fill_fine none [] 0 10 10 0 0 20 H (wins 0 10 10 2) w ⟨by omega, hH3⟩ (Cells.zero _ _ _) (by simp) (by simp) (by rw [wins_length]; omega) hsok2 (nil_fine _) (fun _ => rfl) hal2)
    simp only [fillO_nil2 H (by omega), List.length_nil] at HFN
    simp only [hasR_length, fillO_has H x b k (by omega)] at HFA
    have hjk := Cells.below (w := w) (w' := wr) hj hbl
    have e7 : IntKind.i64.wrap (10 * (k : Int)) = 10 * (k : Int) := IntWalk.i64_in _ (by omega)
    replace hx64 := Lib.hid hx64
    clear hal hal2 hsok hsok2 hown hi hj
    go_wp2_with fail
    with_reducible refine (HFA.out _ hra).mono ?_
    rintro e w1 ⟨A1, c1, rfl, hr1, hn1, hl1, hm1, hb1⟩
    rw [hasF_length] at hl1 ⊢
    replace hra := hra.below hb1
    replace hjk := Cells.below hjk hb1
    replace hbl := bel_step hbl (Nat.le_refl _) hb1
    clear hb1 HFA
    go_wp2_with fail
    with_reducible refine (HFN.out _).mono ?_
    rintro e w2 ⟨A2, c2, rfl, hr2, hn2, hl2, hm2, hb2⟩
    rw [nullR_length] at hl2 ⊢
    replace hra := hra.below hb2
    replace hr1 := hr1.below hb2
    replace hjk := Cells.below hjk hb2
    replace hbl := bel_step hbl (Nat.le_refl _) hb2
    clear hb2 HFN
    obtain ⟨b2, f2, rfl, hb2, hc2⟩ := hr2 (by rw [nullR_length]; omega)
    have z2 := (RowsAt.at_ hc2 (i := 1) (by rw [nullR_length]; omega)).2.2.1
    rw [nullR_getD 10 2 1 (by omega)] at z2
    simp only [nullRow, Nat.one_mul] at z2
    clear hc2 hb2 hn1 hn2
    replace hra := Lib.hid hra; replace hr1 := Lib.hid hr1; replace hjk := Lib.hid hjk
    have hkk : ((k : Int) != k) = false := by simp
    go_wp2_with fail
    go_loopw [15, 16] (LinesAt w2 b k) (fun _ i _ => k - (intOf i).toNat)
    case atStart => exact ⟨0, by omega, rfl, rfl, Below.refl _ _⟩
    case round =>
      obtain ⟨j, hjn, rfl, rfl, hbr⟩ := hrel
      by_cases hjlt : j < k
      · have hl := hr1.out.below hbr
        have hr := hra.out.below hbr
        have hs := Cells.below hjk.out hbr
        replace hbl := bel_step hbl (Nat.le_refl _) hbr
        have i1 : (j : Int) < (k : Int) := by omega
        have i0 : (0 : Int) ≤ (j : Int) := Int.natCast_nonneg _
        have i2 : (j : Int) < (m : Int) := by omega
        have f1 : IntKind.i64.wrap (10 * (j : Int)) = 10 * (j : Int) := IntWalk.i64_in _ (by omega)
        have f2' : IntKind.i64.wrap (10 * (j : Int) + 10) = 10 * (j : Int) + 10 := IntWalk.i64_in _ (by omega)
        obtain ⟨bs, fs, rfl, hbs, hcs⟩ := hs (by omega)
        have sj : wr.cell? ⟨bs, fs + j, none⟩ = some (.bool (b j)) := hcs j (by omega)
        obtain ⟨bl, fl, rfl, hbl', hcl'⟩ := hl (by rw [hasF_length]; omega)
        have lc := RowsAt.at_ hcl' (i := j) (by rw [hasF_length]; exact hjlt)
        have C1 : Hid (cntB b (j + 1) = cntB b j + if b j = true then 1 else 0) := Lib.hid rfl
        have ckj := cntB_le b j
        clear hcs hcl' hs hl
        cases hbj : b j with
        | true =>
          rw [hbj] at sj
          obtain ⟨hh1, hh2⟩ := has_hit x b j k hjlt hbj
          rw [hasR_length] at hh1
          rw [hasF_hit H x b k j hjlt hbj] at lc
          obtain ⟨br, fr, rfl, hbr', hcr⟩ := hr (by rw [hasR_length]; omega)
          have rc := RowsAt.at_ hcr (i := cntB b j) (by rw [hasR_length]; exact hh1)
          rw [hh2] at rc
          have C2 : Hid (cntB b (j + 1) = cntB b j + 1) := Lib.hid (by rw [C1.out, hbj]; rfl)
          clear hh2 hcr hr hbj C1
          simp only [lrow, Int.mul_comm (j : Int) 10] at lc rc
          obtain ⟨l0, l1, l2, l3, l4⟩ := lc
          obtain ⟨r0, r1, r2, r3, r4⟩ := rc
          obtain ⟨kk, hkk'⟩ : ∃ kk, kk = cntB b j := ⟨_, rfl⟩
          rw [← hkk'] at hh1 r0 r1 r2 r3 r4 C2 ckj ⊢
          clear hkk'
          have i3 : (kk : Int) < (cntB b k : Int) := by omega
          have i4 : (0 : Int) ≤ (kk : Int) := Int.natCast_nonneg _
          go_wp2_with fail
          go_quiet (fail)
          go_wp2_with fail
          exact ⟨⟨j + 1, by omega, by go_num, by rw [C2.out]; go_num, bel_drewN hbr _⟩, by simp [intOf]; omega⟩
        | false =>
          rw [hbj] at sj
          have C2 : Hid (cntB b (j + 1) = cntB b j) := Lib.hid (by rw [C1.out, hbj]; rfl)
          obtain ⟨hm1, hm2, hm3⟩ := has_miss x b j k hjlt hbj
          replace hbj := Lib.hid hbj
          rw [hasR_length] at hm1
          replace hm2 := Lib.hid hm2; replace hm3 := Lib.hid hm3
          clear C1
          rcases (show H = 1 ∨ H = 2 ∨ H = 3 by omega) with rfl | rfl | rfl
          · -- way 1
            rcases (show cntB b j = 0 ∨ (0 < cntB b j ∧ cntB b j < cntB b k) ∨ (0 < cntB b j ∧ cntB b j = cntB b k) by omega) with hp | hp | hp
            · rw [miss_1 x b k j hjlt hbj.out] at lc
              simp only [nullRow, Int.mul_comm (j : Int) 10] at lc
              obtain ⟨l0, l1, l2, l3, l4⟩ := lc
              rw [hp] at hm1 ckj C2 ⊢
              skip
              go_wp2_with fail
              exact ⟨⟨j + 1, by omega, by go_num, by rw [C2.out], hbr⟩, by simp [intOf]; omega⟩
            · rw [miss_1 x b k j hjlt hbj.out] at lc
              simp only [nullRow, Int.mul_comm (j : Int) 10] at lc
              obtain ⟨l0, l1, l2, l3, l4⟩ := lc
              obtain ⟨k1, hk1'⟩ : ∃ k1, cntB b j = k1 + 1 := ⟨cntB b j - 1, by omega⟩
              have ek : IntKind.i64.wrap (((cntB b j : Nat) : Int) - 1) = (k1 : Int) := by rw [IntWalk.i64_in _ (by omega)]; omega
              obtain ⟨kk, hkk'⟩ : ∃ kk, kk = cntB b j := ⟨_, rfl⟩
              rw [← hkk'] at hp hm1 ckj C2 hk1' ek ⊢
              replace hkk' := Lib.hid hkk'
              have g0 : decide ((0 : Int) < (kk : Int)) = true := by simp; omega
              have g1 : decide ((kk : Int) < (cntB b k : Int)) = true := by simp; omega
              have g2 : ((kk : Int) == 0) = false := by simp; omega
              have j0 : (0 : Int) ≤ (k1 : Int) := Int.natCast_nonneg _
              have j1 : (k1 : Int) < (cntB b k : Int) := by omega
              have kkm : kk ≤ 60 := by omega
              have hp0 : 0 < kk := by omega
              have kkl : kk < cntB b k := by omega
              have hpz : ¬ kk = 0 := by omega
              replace hk1' := Lib.hid hk1'; replace hp := Lib.hid hp
              go_wp2_with fail
              exact ⟨⟨j + 1, by omega, by go_num, by rw [C2.out], hbr⟩, by simp [intOf]; omega⟩
            · rw [miss_1 x b k j hjlt hbj.out] at lc
              simp only [nullRow, Int.mul_comm (j : Int) 10] at lc
              obtain ⟨l0, l1, l2, l3, l4⟩ := lc
              obtain ⟨k1, hk1'⟩ : ∃ k1, cntB b j = k1 + 1 := ⟨cntB b j - 1, by omega⟩
              have ek : IntKind.i64.wrap (((cntB b j : Nat) : Int) - 1) = (k1 : Int) := by rw [IntWalk.i64_in _ (by omega)]; omega
              obtain ⟨kk, hkk'⟩ : ∃ kk, kk = cntB b j := ⟨_, rfl⟩
              rw [← hkk'] at hp hm1 ckj C2 hk1' ek ⊢
              replace hkk' := Lib.hid hkk'
              have g0 : decide ((0 : Int) < (kk : Int)) = true := by simp; omega
              have g1 : decide ((kk : Int) < (cntB b k : Int)) = false := by simp; omega
              have g2 : ((kk : Int) == 0) = false := by simp; omega
              have j0 : (0 : Int) ≤ (k1 : Int) := Int.natCast_nonneg _
              have j1 : (k1 : Int) < (cntB b k : Int) := by omega
              have kkm : kk ≤ 60 := by omega
              have hp0 : 0 < kk := by omega
              have kkl : ¬ kk < cntB b k := by omega
              have hpz : ¬ kk = 0 := by omega
              replace hk1' := Lib.hid hk1'; replace hp := Lib.hid hp
              go_wp2_with fail
              exact ⟨⟨j + 1, by omega, by go_num, by rw [C2.out], hbr⟩, by simp [intOf]; omega⟩
          · -- way 2
            rcases (show cntB b j = 0 ∨ (0 < cntB b j ∧ cntB b j < cntB b k) ∨ (0 < cntB b j ∧ cntB b j = cntB b k) by omega) with hp | hp | hp
            · rw [miss_2 x b k j hjlt hbj.out, if_neg (by omega)] at lc
              simp only [nullRow, Int.mul_comm (j : Int) 10] at lc
              obtain ⟨l0, l1, l2, l3, l4⟩ := lc
              rw [hp] at hm1 ckj C2 ⊢
              skip
              go_wp2_with fail
              go_quiet (fail)
              go_wp2_with fail
              exact ⟨⟨j + 1, by omega, by go_num, by rw [C2.out], bel_drewN hbr _⟩, by simp [intOf]; omega⟩
            · rw [miss_2 x b k j hjlt hbj.out, if_pos (by omega)] at lc
              simp only [Int.mul_comm (j : Int) 10] at lc
              obtain ⟨l0, l1, l2, l3, l4⟩ := lc
              obtain ⟨br, fr, rfl, hbr', hcr⟩ := hr (by rw [hasR_length]; omega)
              have rc := RowsAt.at_ hcr (i := cntB b j - 1) (by rw [hasR_length]; omega)
              clear hcr hr
              obtain ⟨k1, hk1'⟩ : ∃ k1, cntB b j = k1 + 1 := ⟨cntB b j - 1, by omega⟩
              have ek : IntKind.i64.wrap (((cntB b j : Nat) : Int) - 1) = (k1 : Int) := by rw [IntWalk.i64_in _ (by omega)]; omega
              rw [show cntB b j - 1 = k1 by omega] at rc l3 l4
              obtain ⟨r0, r1, r2, r3, r4⟩ := rc
              obtain ⟨kk, hkk'⟩ : ∃ kk, kk = cntB b j := ⟨_, rfl⟩
              rw [← hkk'] at hp hm1 ckj C2 hk1' ek ⊢
              replace hkk' := Lib.hid hkk'
              have g0 : decide ((0 : Int) < (kk : Int)) = true := by simp; omega
              have g1 : decide ((kk : Int) < (cntB b k : Int)) = true := by simp; omega
              have g2 : ((kk : Int) == 0) = false := by simp; omega
              have j0 : (0 : Int) ≤ (k1 : Int) := Int.natCast_nonneg _
              have j1 : (k1 : Int) < (cntB b k : Int) := by omega
              have kkm : kk ≤ 60 := by omega
              have hp0 : 0 < kk := by omega
              have kkl : kk < cntB b k := by omega
              have hpz : ¬ kk = 0 := by omega
              replace hk1' := Lib.hid hk1'; replace hp := Lib.hid hp
              go_wp2_with fail
              go_quiet (fail)
              go_wp2_with fail
              exact ⟨⟨j + 1, by omega, by go_num, by rw [C2.out], bel_drewN hbr _⟩, by simp [intOf]; omega⟩
            · rw [miss_2 x b k j hjlt hbj.out, if_pos (by omega)] at lc
              simp only [Int.mul_comm (j : Int) 10] at lc
              obtain ⟨l0, l1, l2, l3, l4⟩ := lc
              obtain ⟨br, fr, rfl, hbr', hcr⟩ := hr (by rw [hasR_length]; omega)
              have rc := RowsAt.at_ hcr (i := cntB b j - 1) (by rw [hasR_length]; omega)
              clear hcr hr
              obtain ⟨k1, hk1'⟩ : ∃ k1, cntB b j = k1 + 1 := ⟨cntB b j - 1, by omega⟩
              have ek : IntKind.i64.wrap (((cntB b j : Nat) : Int) - 1) = (k1 : Int) := by rw [IntWalk.i64_in _ (by omega)]; omega
              rw [show cntB b j - 1 = k1 by omega] at rc l3 l4
              obtain ⟨r0, r1, r2, r3, r4⟩ := rc
              obtain ⟨kk, hkk'⟩ : ∃ kk, kk = cntB b j := ⟨_, rfl⟩
              rw [← hkk'] at hp hm1 ckj C2 hk1' ek ⊢
              replace hkk' := Lib.hid hkk'
              have g0 : decide ((0 : Int) < (kk : Int)) = true := by simp; omega
              have g1 : decide ((kk : Int) < (cntB b k : Int)) = false := by simp; omega
              have g2 : ((kk : Int) == 0) = false := by simp; omega
              have j0 : (0 : Int) ≤ (k1 : Int) := Int.natCast_nonneg _
              have j1 : (k1 : Int) < (cntB b k : Int) := by omega
              have kkm : kk ≤ 60 := by omega
              have hp0 : 0 < kk := by omega
              have kkl : ¬ kk < cntB b k := by omega
              have hpz : ¬ kk = 0 := by omega
              replace hk1' := Lib.hid hk1'; replace hp := Lib.hid hp
              go_wp2_with fail
              go_quiet (fail)
              go_wp2_with fail
              exact ⟨⟨j + 1, by omega, by go_num, by rw [C2.out], bel_drewN hbr _⟩, by simp [intOf]; omega⟩
          · -- way 3
            rcases (show cntB b j = 0 ∨ (0 < cntB b j ∧ cntB b j < cntB b k) ∨ (0 < cntB b j ∧ cntB b j = cntB b k) by omega) with hp | hp | hp
            · rw [miss_3n x b k j hjlt hbj.out (by rw [hasR_length]; omega)] at lc
              simp only [nullRow, Int.mul_comm (j : Int) 10] at lc
              obtain ⟨l0, l1, l2, l3, l4⟩ := lc
              rw [hp] at hm1 ckj C2 ⊢
              skip
              go_wp2_with fail
              exact ⟨⟨j + 1, by omega, by go_num, by rw [C2.out], hbr⟩, by simp [intOf]; omega⟩
            · obtain ⟨v, ev, hbt, fv, fp, fq⟩ := miss_3 x b k j hx64.out hN hjlt hbj.out (by omega) (by rw [hasR_length]; omega)
              rw [ev] at lc
              replace hbt := Lib.hid hbt; replace fv := Lib.hid fv; replace fp := Lib.hid fp; replace fq := Lib.hid fq
              clear ev
              simp only [Int.mul_comm (j : Int) 10] at lc
              obtain ⟨l0, l1, l2, l3, l4⟩ := lc
              obtain ⟨br, fr, rfl, hbr', hcr⟩ := hr (by rw [hasR_length]; omega)
              have rc := RowsAt.at_ hcr (i := cntB b j - 1) (by rw [hasR_length]; omega)
              have rd := RowsAt.at_ hcr (i := cntB b j) (by rw [hasR_length]; omega)
              clear hcr hr
              obtain ⟨k1, hk1'⟩ : ∃ k1, cntB b j = k1 + 1 := ⟨cntB b j - 1, by omega⟩
              have ek : IntKind.i64.wrap (((cntB b j : Nat) : Int) - 1) = (k1 : Int) := by rw [IntWalk.i64_in _ (by omega)]; omega
              rw [show cntB b j - 1 = k1 by omega] at rc hbt fp
              obtain ⟨r0, r1, r2, r3, r4⟩ := rc
              obtain ⟨q0, q1, q2, q3, q4⟩ := rd
              obtain ⟨kk, hkk'⟩ : ∃ kk, kk = cntB b j := ⟨_, rfl⟩
              rw [← hkk'] at hp hm1 ckj C2 hk1' ek q0 q1 q2 q3 q4 hbt fq ⊢
              replace hkk' := Lib.hid hkk'
              have g0 : decide ((0 : Int) < (kk : Int)) = true := by simp; omega
              have g1 : decide ((kk : Int) < (cntB b k : Int)) = true := by simp; omega
              have g2 : ((kk : Int) == 0) = false := by simp; omega
              have j0 : (0 : Int) ≤ (k1 : Int) := Int.natCast_nonneg _
              have j1 : (k1 : Int) < (cntB b k : Int) := by omega
              have kkm : kk ≤ 60 := by omega
              have hp0 : 0 < kk := by omega
              have kkl : kk < cntB b k := by omega
              have hpz : ¬ kk = 0 := by omega
              replace hk1' := Lib.hid hk1'; replace hp := Lib.hid hp
              obtain ⟨pv, hpv⟩ : ∃ pv, pv = ((hasR x b k).getD k1 rw0).v := ⟨_, rfl⟩
              obtain ⟨qv, hqv⟩ : ∃ qv, qv = ((hasR x b k).getD kk rw0).v := ⟨_, rfl⟩
              rw [← hpv] at r3 r4 hbt fp
              rw [← hqv] at q3 q4 hbt fq
              clear hpv hqv r0 r1 r2 q0 q1 q2
              have HB1 := Lib.hid (fun w => rbelow_any qv pv w fq.out fp.out)
              go_upto_region 37 with fail
              refine lines37 wr br fr (cntB b k) c' bl fl k c1 kk k1 j pv qv v _ _ _ _ _ _ _ _ _ _ _ _ _ _ _ _ _ _ _ _ _ _ _ _ _ _ _ _ _ _ _ _ _ _ _ _ _ _ _ _ _ _ _ _ _ _ _ _ _ _ _ _ _ _ _ _ _ _ _ _ _ _ _ _ _ _ _ _ _ _ _ _ _ _ _ _ _ _ _ _ _ _ _ _ _ _ _ _ _ _ _ _ _ _ _ _ _ _ _ _ _ _ _ _ _ _ _ _ _ _ _ _ _ _ _ _ _ _ _ _ _ _ _ _ _ _ _ _ _ _ _ _ _ _ _ _ _ _ _ _ _ _ _ _ _ _ _ _ _ _ _ _ _ _ _ _ _ _ _ _ _ _ _ _ _ _ _ _ _ _ _ _ _ _ _ _ _ _ _ _ _ _ _ _ _ _ _ _ _ _ _ _ _ _ _ _ _ _ _ _ _ _ _ _ _ _ _ _ _ _ _ _ _ _ _ _ _ _ _ _ _ _ _ _ _ _ _ _ _ _ _ _ _ _ _ hk1'.out kkl hjlt (by omega) (by omega) r3 r4 q3 q4 l3 l4 (Lib.hid ?_)
              intro u201 u202 u203 u204 u205 u206 u207 u208 u209 u210 u211 u212 u213 u214 u215 u216 u217 u218 u219 g1' g2' g3' wx hbx la lb_ lc_ n1 n2 n3 E1 E2 E3
              have ca0 := (E1 0 (by omega)).1
              have ca1 := (E1 1 (by omega)).1
              have ca2 := (E1 2 (by omega)).1
              have ca3 := (E1 3 (by omega)).1
              have ca4 := (E1 4 (by omega)).1
              have ca5 := (E1 5 (by omega)).1
              have ca6 := (E1 6 (by omega)).1
              have ca7 := (E1 7 (by omega)).1
              have cb0 := (E2 0 (by omega)).1
              have cb1 := (E2 1 (by omega)).1
              have cb2 := (E2 2 (by omega)).1
              have cb3 := (E2 3 (by omega)).1
              have cb4 := (E2 4 (by omega)).1
              have cb5 := (E2 5 (by omega)).1
              have cb6 := (E2 6 (by omega)).1
              have cb7 := (E2 7 (by omega)).1
              replace E1 := Lib.hid E1; replace E2 := Lib.hid E2; replace E3 := Lib.hid E3
              go_wp2_with fail
              with_reducible refine (HB1.out _).mono ?_
              rintro e w4 ⟨rfl, hb4⟩
              clear ca0 ca1 ca2 ca3 ca4 ca5 ca6 ca7 cb0 cb1 cb2 cb3 cb4 cb5 cb6 cb7
              replace E1 := E1.out.be hb4
              replace E2 := E2.out.be hb4
              replace E3 := E3.out.be hb4
              replace hbx := bel_step hbx (Nat.le_refl _) hb4
              clear hb4 HB1
              by_cases hqp : qv < pv
              · rw [decide_eq_true hqp]
                have ca0 := (E1 0 (by omega)).1
                have caf0 := (E1 0 (by omega)).2
                have ca1 := (E1 1 (by omega)).1
                have caf1 := (E1 1 (by omega)).2
                have ca2 := (E1 2 (by omega)).1
                have caf2 := (E1 2 (by omega)).2
                have ca3 := (E1 3 (by omega)).1
                have caf3 := (E1 3 (by omega)).2
                have ca4 := (E1 4 (by omega)).1
                have caf4 := (E1 4 (by omega)).2
                have ca5 := (E1 5 (by omega)).1
                have caf5 := (E1 5 (by omega)).2
                have ca6 := (E1 6 (by omega)).1
                have caf6 := (E1 6 (by omega)).2
                have ca7 := (E1 7 (by omega)).1
                have caf7 := (E1 7 (by omega)).2
                have cb0 := (E2 0 (by omega)).1
                have cbf0 := (E2 0 (by omega)).2
                have cb1 := (E2 1 (by omega)).1
                have cbf1 := (E2 1 (by omega)).2
                have cb2 := (E2 2 (by omega)).1
                have cbf2 := (E2 2 (by omega)).2
                have cb3 := (E2 3 (by omega)).1
                have cbf3 := (E2 3 (by omega)).2
                have cb4 := (E2 4 (by omega)).1
                have cbf4 := (E2 4 (by omega)).2
                have cb5 := (E2 5 (by omega)).1
                have cbf5 := (E2 5 (by omega)).2
                have cb6 := (E2 6 (by omega)).1
                have cbf6 := (E2 6 (by omega)).2
                have cb7 := (E2 7 (by omega)).1
                have cbf7 := (E2 7 (by omega)).2
                have X1 := Lib.hid E1; have X2 := Lib.hid E2; have X3 := Lib.hid E3; clear E1 E2 E3
                go_upto_region 40 with fail
                clear ca0 ca1 ca2 ca3 ca4 ca5 ca6 ca7 cb0 cb1 cb2 cb3 cb4 cb5 cb6 cb7 caf0 caf1 caf2 caf3 caf4 caf5 caf6 caf7 cbf0 cbf1 cbf2 cbf3 cbf4 cbf5 cbf6 cbf7
                obtain ⟨w5, hw5⟩ : ∃ w5, w5 = ((((((((((((((((w4.setCell ⟨g1', 0, none⟩ (.int .i64 (lb qv 0))).setCell ⟨g1', 1, none⟩ (.int .i64 (lb qv 1))).setCell ⟨g1', 2, none⟩ (.int .i64 (lb qv 2))).setCell ⟨g1', 3, none⟩ (.int .i64 (lb qv 3))).setCell ⟨g1', 4, none⟩ (.int .i64 (lb qv 4))).setCell ⟨g1', 5, none⟩ (.int .i64 (lb qv 5))).setCell ⟨g1', 6, none⟩ (.int .i64 (lb qv 6))).setCell ⟨g1', 7, none⟩ (.int .i64 (lb qv 7))).setCell ⟨g2', 0, none⟩ (.int .i64 (lb pv 0))).setCell ⟨g2', 1, none⟩ (.int .i64 (lb pv 1))).setCell ⟨g2', 2, none⟩ (.int .i64 (lb pv 2))).setCell ⟨g2', 3, none⟩ (.int .i64 (lb pv 3))).setCell ⟨g2', 4, none⟩ (.int .i64 (lb pv 4))).setCell ⟨g2', 5, none⟩ (.int .i64 (lb pv 5))).setCell ⟨g2', 6, none⟩ (.int .i64 (lb pv 6))).setCell ⟨g2', 7, none⟩ (.int .i64 (lb pv 7))) := ⟨_, rfl⟩
                rw [← hw5]
                have E1 : Eight w5 g1' (lb qv) := by rw [hw5]; exact eight_far (eight_store X1.out (lb qv)) n1 (lb pv)
                have E2 : Eight w5 g2' (lb pv) := by rw [hw5]; exact eight_store (eight_far X2.out (Ne.symm n1) (lb qv)) (lb pv)
                have E3 : Eight w5 g3' (lb v) := by rw [hw5]; exact eight_far (eight_far X3.out (Ne.symm n2) (lb qv)) (Ne.symm n3) (lb pv)
                replace hbx : Below wr.heap.size wr w5 := by rw [hw5]; exact bel_store (bel_store hbx la (lb qv)) lb_ (lb pv)
                clear hw5 X1 X2 X3
                have HB2 := Lib.hid (fun w => rbelow_any v qv w fv.out fq.out)
                have HB3 := Lib.hid (fun w => rbelow_any pv v w fp.out fv.out)
                have D2 : decide (v < qv) = false := decide_eq_false (by have := hbt.out.2 (by omega); omega)
                have D3 : decide (pv < v) = false := decide_eq_false (by have := hbt.out.2 (by omega); omega)
                have ca0 := (E1 0 (by omega)).1
                have ca1 := (E1 1 (by omega)).1
                have ca2 := (E1 2 (by omega)).1
                have ca3 := (E1 3 (by omega)).1
                have ca4 := (E1 4 (by omega)).1
                have ca5 := (E1 5 (by omega)).1
                have ca6 := (E1 6 (by omega)).1
                have ca7 := (E1 7 (by omega)).1
                have cc0 := (E3 0 (by omega)).1
                have cc1 := (E3 1 (by omega)).1
                have cc2 := (E3 2 (by omega)).1
                have cc3 := (E3 3 (by omega)).1
                have cc4 := (E3 4 (by omega)).1
                have cc5 := (E3 5 (by omega)).1
                have cc6 := (E3 6 (by omega)).1
                have cc7 := (E3 7 (by omega)).1
                have X1 := Lib.hid E1; have X2 := Lib.hid E2; have X3 := Lib.hid E3; clear E1 E2 E3
                go_wp2_with fail
                with_reducible refine (HB2.out _).mono ?_
                rintro e w6 ⟨rfl, hb6⟩
                rw [D2]
                clear ca0 ca1 ca2 ca3 ca4 ca5 ca6 ca7 cc0 cc1 cc2 cc3 cc4 cc5 cc6 cc7
                have E3 := X3.out.be hb6
                have E2 := X2.out.be hb6
                replace hbx := bel_step hbx (Nat.le_refl _) hb6
                clear hb6 HB2 D2 X1 X2 X3
                have cb0 := (E2 0 (by omega)).1
                have cb1 := (E2 1 (by omega)).1
                have cb2 := (E2 2 (by omega)).1
                have cb3 := (E2 3 (by omega)).1
                have cb4 := (E2 4 (by omega)).1
                have cb5 := (E2 5 (by omega)).1
                have cb6 := (E2 6 (by omega)).1
                have cb7 := (E2 7 (by omega)).1
                have cc0 := (E3 0 (by omega)).1
                have cc1 := (E3 1 (by omega)).1
                have cc2 := (E3 2 (by omega)).1
                have cc3 := (E3 3 (by omega)).1
                have cc4 := (E3 4 (by omega)).1
                have cc5 := (E3 5 (by omega)).1
                have cc6 := (E3 6 (by omega)).1
                have cc7 := (E3 7 (by omega)).1
                clear E3 E2
                go_wp2_with fail
                with_reducible refine (HB3.out _).mono ?_
                rintro e w7 ⟨rfl, hb7⟩
                rw [D3]
                clear cb0 cb1 cb2 cb3 cb4 cb5 cb6 cb7 cc0 cc1 cc2 cc3 cc4 cc5 cc6 cc7
                replace hbx := bel_step hbx (Nat.le_refl _) hb7
                clear hb7 HB3 D3
                go_wp2_with fail
                exact ⟨⟨j + 1, by omega, by go_num, by rw [C2.out], bel_step hbr (Nat.le_refl _) hbx⟩, by simp [intOf]; omega⟩
              · rw [decide_eq_false hqp]
                have HB2 := Lib.hid (fun w => rbelow_any v pv w fv.out fp.out)
                have HB3 := Lib.hid (fun w => rbelow_any qv v w fq.out fv.out)
                have D2 : decide (v < pv) = false := decide_eq_false (by have := hbt.out.1 (by omega); omega)
                have D3 : decide (qv < v) = false := decide_eq_false (by have := hbt.out.1 (by omega); omega)
                have ca0 := (E1 0 (by omega)).1
                have ca1 := (E1 1 (by omega)).1
                have ca2 := (E1 2 (by omega)).1
                have ca3 := (E1 3 (by omega)).1
                have ca4 := (E1 4 (by omega)).1
                have ca5 := (E1 5 (by omega)).1
                have ca6 := (E1 6 (by omega)).1
                have ca7 := (E1 7 (by omega)).1
                have cc0 := (E3 0 (by omega)).1
                have cc1 := (E3 1 (by omega)).1
                have cc2 := (E3 2 (by omega)).1
                have cc3 := (E3 3 (by omega)).1
                have cc4 := (E3 4 (by omega)).1
                have cc5 := (E3 5 (by omega)).1
                have cc6 := (E3 6 (by omega)).1
                have cc7 := (E3 7 (by omega)).1
                have X1 := Lib.hid E1; have X2 := Lib.hid E2; have X3 := Lib.hid E3; clear E1 E2 E3
                go_wp2_with fail
                with_reducible refine (HB2.out _).mono ?_
                rintro e w6 ⟨rfl, hb6⟩
                rw [D2]
                clear ca0 ca1 ca2 ca3 ca4 ca5 ca6 ca7 cc0 cc1 cc2 cc3 cc4 cc5 cc6 cc7
                have E3 := X3.out.be hb6
                have E2 := X2.out.be hb6
                replace hbx := bel_step hbx (Nat.le_refl _) hb6
                clear hb6 HB2 D2 X1 X2 X3
                have cb0 := (E2 0 (by omega)).1
                have cb1 := (E2 1 (by omega)).1
                have cb2 := (E2 2 (by omega)).1
                have cb3 := (E2 3 (by omega)).1
                have cb4 := (E2 4 (by omega)).1
                have cb5 := (E2 5 (by omega)).1
                have cb6 := (E2 6 (by omega)).1
                have cb7 := (E2 7 (by omega)).1
                have cc0 := (E3 0 (by omega)).1
                have cc1 := (E3 1 (by omega)).1
                have cc2 := (E3 2 (by omega)).1
                have cc3 := (E3 3 (by omega)).1
                have cc4 := (E3 4 (by omega)).1
                have cc5 := (E3 5 (by omega)).1
                have cc6 := (E3 6 (by omega)).1
                have cc7 := (E3 7 (by omega)).1
                clear E3 E2
                go_wp2_with fail
                with_reducible refine (HB3.out _).mono ?_
                rintro e w7 ⟨rfl, hb7⟩
                rw [D3]
                clear cb0 cb1 cb2 cb3 cb4 cb5 cb6 cb7 cc0 cc1 cc2 cc3 cc4 cc5 cc6 cc7
                replace hbx := bel_step hbx (Nat.le_refl _) hb7
                clear hb7 HB3 D3
                go_wp2_with fail
                exact ⟨⟨j + 1, by omega, by go_num, by rw [C2.out], bel_step hbr (Nat.le_refl _) hbx⟩, by simp [intOf]; omega⟩
            · rw [miss_3n x b k j hjlt hbj.out (by rw [hasR_length]; omega)] at lc
              simp only [nullRow, Int.mul_comm (j : Int) 10] at lc
              obtain ⟨l0, l1, l2, l3, l4⟩ := lc
              obtain ⟨k1, hk1'⟩ : ∃ k1, cntB b j = k1 + 1 := ⟨cntB b j - 1, by omega⟩
              have ek : IntKind.i64.wrap (((cntB b j : Nat) : Int) - 1) = (k1 : Int) := by rw [IntWalk.i64_in _ (by omega)]; omega
              obtain ⟨kk, hkk'⟩ : ∃ kk, kk = cntB b j := ⟨_, rfl⟩
              rw [← hkk'] at hp hm1 ckj C2 hk1' ek ⊢
              replace hkk' := Lib.hid hkk'
              have g0 : decide ((0 : Int) < (kk : Int)) = true := by simp; omega
              have g1 : decide ((kk : Int) < (cntB b k : Int)) = false := by simp; omega
              have g2 : ((kk : Int) == 0) = false := by simp; omega
              have j0 : (0 : Int) ≤ (k1 : Int) := Int.natCast_nonneg _
              have j1 : (k1 : Int) < (cntB b k : Int) := by omega
              have kkm : kk ≤ 60 := by omega
              have hp0 : 0 < kk := by omega
              have kkl : ¬ kk < cntB b k := by omega
              have hpz : ¬ kk = 0 := by omega
              replace hk1' := Lib.hid hk1'; replace hp := Lib.hid hp
              go_wp2_with fail
              exact ⟨⟨j + 1, by omega, by go_num, by rw [C2.out], hbr⟩, by simp [intOf]; omega⟩
      · obtain rfl : j = k := by omega
        have hfin : ((cntB b j : Int) == cntB b j) = true := by simp
        go_wp2_with fail
        go_ret
        exact ⟨rfl, bel_step hbl (Nat.le_refl _) hbr⟩
theorem gapsLines_walk (w : World) (A : Option Addr) (n c : Nat) (x : Nat → Int) (ha : IntArg w A n c x) (B : Option Addr) (m d : Nat) (b : Nat → Bool) (hb : BoolArg w B m d b) (how : Int) (hh : -9223372036854775808 ≤ how ∧ how ≤ 9223372036854775807) :
    Calls Try.prog 4 #[.slice A n c, .slice B m d, .int .i64 how] w fun e w' => e = .returned (.bool true) ∧ Below w.heap.size w w' := by
  have h1 := Int.tmod_lt_of_pos how (show (0 : Int) < 3 by decide)
  have h2 := Int.tmod_lt_of_pos (-how) (show (0 : Int) < 3 by decide)
  rw [Int.neg_tmod] at h2
  have h3 : (how.tmod 3 + 3).tmod 3 = (how.tmod 3 + 3) % 3 := Int.tmod_eq_emod_of_nonneg (by omega)
  exact lines_at w A n c x ha B m d b hb how (how.tmod 3) _ ((how.tmod 3 + 3) % 3 + 1) rfl (by omega) (by omega) h3 rfl (by omega) (by omega)
end Go.Proofs.Ytljepnonigjcbaa

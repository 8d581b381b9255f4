/- The walk of ScanParts: it returns true for any points, size and value. -/
import Derived.Test.YtmdpdhdjbnhmeaaScanPartsMath
import Derived.Test.YtmdpdhdjbnhmeaaScanSelectsWalk
namespace Go.Proofs.Ytmdpdhdjbnhmeaa
open Go.RowKit
set_option linter.unusedVariables false

def PtsCut (w : World) (A : Option Addr) (a : Nat → Pt) (t : Value) (wx : World) : Prop := ∃ n c, t = .slice A n c ∧ n ≤ 300 ∧ n ≤ c ∧ c ≤ 9223372036854775807 ∧ Pts w A n a ∧ w = wx
def PartsRel (w1 : World) (a : Nat → Pt) (sz n N : Nat) (v i : Value) (wr : World) : Prop :=
  ∃ (q m : Nat) (A : Option Addr) (c : Nat), q ≤ N ∧ i = .int .i64 q ∧ m = upN sz n q ∧ v = .slice A m c ∧ wr.ownsRow w1.heap.size 47 3 (.slice A m c) m (ptCells (ptsTo a m)) ∧ Below w1.heap.size w1 wr
/-- behind the append: the points so far, and the batch's -/
def PartsMid (w1 wr : World) (a : Nat → Pt) (L : List Pt) (m : Nat) (s9 s11 : Value) (wx : World) : Prop :=
  ∃ (A1 : Option Addr) (c1 : Nat) (PP : Option Addr) (cp : Nat), s9 = .slice A1 (m + L.length) c1 ∧ s11 = .slice PP L.length cp ∧ wx.ownsRow w1.heap.size 47 3 (.slice A1 (m + L.length) c1) (m + L.length) (ptCells (ptsTo a m) ++ ptCells L) ∧ Pts wx PP L.length (ptAt L) ∧ Below w1.heap.size w1 wx ∧ wr.heap.size ≤ wx.heap.size
theorem holds2 (value n : Int) : holdsB 2 value n = decide (n < value) := by simp [holdsB]
theorem holds5 (value n : Int) : holdsB 5 value n = decide (value ≤ n) := by simp [holdsB]
theorem holds1 (value n : Int) : holdsB 1 value n = (n != value) := by simp [holdsB]
theorem holds0 (value n : Int) : holdsB 0 value n = (n == value) := by simp [holdsB]
theorem wrapEq (x : Int) : IntKind.i64.wrap x = wrap64 x := by rw [IntKind.wrap_i64]; unfold wrap64; first | rfl | omega
theorem own_above {w : World} {base : Nat} {e : TypeId} {size : Nat} {v : Value} {n : Nat} {xs : List Value} {r : Option Nat} (h : w.ownsRow base e size v n xs) (hr : ∀ k, r = some k → k < base) : v.ownBlock = none ∨ v.ownBlock ≠ r := by
  cases hv : v.ownBlock with
  | none => exact .inl rfl
  | some k => exact .inr (fun e => by have h1 := (h.lt k hv).1; have h2 := hr k e.symm; omega)
theorem Ints.below' {w w' : World} {A : Option Addr} {n : Nat} {x : Nat → Int} (h : Ints w A n x) (hb : Below w.heap.size w w') : Ints w' A n x := Cells.below h hb
/-- a place of the second filter, back through the first one -/
theorem parts_at (L : List Pt) (value vm : Int) (F Y : List Int) (yv yF : Nat → Int) (hyv : yv = fun j => (L.map Pt.v).getD j 0) (hF : F = whereL yv (holdsB 2 value) L.length) (hyF : yF = fun j => (takeL yv F).getD j 0) (hY : Y = whereL yF (holdsB 1 vm) F.length) (r : Nat) (hr : r < Y.length) :
    ∃ (j i : Nat) (u : Int), j < F.length ∧ i < L.length ∧ Y.getD r 0 = (j : Int) ∧ F.getD j 0 = (i : Int) ∧ yv i = u ∧ (ptAt L i).v = u ∧ u < value ∧ (u == vm) = false := by
  rw [hY] at hr
  obtain ⟨j, hj, ej, pj⟩ := whereL_at yF _ F.length r hr
  rw [← hY] at ej
  have hj2 := hj
  rw [hF] at hj2
  obtain ⟨i, hi, ei, pi⟩ := whereL_at yv _ L.length j hj2
  rw [← hF] at ei
  refine ⟨j, i, yv i, hj, hi, ej, ei, rfl, ?_, ?_, ?_⟩
  · rw [hyv]; unfold ptAt; simp [hi]
  · rw [holds2] at pi; simpa using pi
  · rw [holds1, hyF] at pj
    have e : (takeL yv F).getD j 0 = yv i := by
      unfold takeL
      rw [List.getD_eq_getElem?_getD, List.getElem?_map, List.getElem?_eq_getElem hj, Option.map_some, Option.getD_some]
      rw [List.getD_eq_getElem?_getD, List.getElem?_eq_getElem hj, Option.getD_some] at ei
      rw [ei]; rfl
    simp only [e] at pj
    simpa using pj
theorem points_bat (A B C : Option Addr) (ca cb cc : Nat) (L : List Pt) (w : World) (h : BatIs w A B C ca cb cc L) (hn : L.length ≤ 1000000) :
    Calls Try.prog 13 #[.agg #[.slice A L.length ca, .slice B L.length cb, .slice C L.length cc]] w (PtsPost w L 0) := by
  have := points_yes A B C L.length L.length L.length ca cb cc _ _ _ w h.t h.v h.s hn ⟨rfl, rfl⟩
  rw [zip3_map] at this
  exact this
/-- the law's sums of two lengths -/
theorem parts_len (y : Nat → Int) (value : Int) (m : Nat) : (whereL y (holdsB 2 value) m).length + (whereL y (holdsB 5 value) m).length = m :=
  whereL_not y _ _ m (fun i _ => by rw [holds2, holds5]; by_cases h : y i < value <;> simp [h] <;> omega)
theorem parts_len2 (y : Nat → Int) (value : Int) (m : Nat) : (whereL y (holdsB 0 value) m).length + (whereL y (holdsB 1 value) m).length = m :=
  whereL_not y _ _ m (fun i _ => by rw [holds0, holds1]; rfl)
set_option maxRecDepth 100000 in
set_option maxHeartbeats 8000000 in
theorem scanParts_walk (w : World) (A : Option Addr) (n0 c0 : Nat) (a : Nat → Pt) (hA : PtsArg w A n0 c0 a) (size : Int) (hsz : -9223372036854775808 ≤ size ∧ size ≤ 9223372036854775807) (value : Int) (hv : -9223372036854775808 ≤ value ∧ value ≤ 9223372036854775807) :
    Calls Try.prog 6 #[.slice A n0 c0, .int .i64 size, .int .i64 value] w fun e w' => e = .returned (.bool true) ∧ Below w.heap.size w w' := by
  have QA := Lib.hid hA
  obtain ⟨_, lA, mA, _⟩ := hA
  go_enter Try.func6, Try.ntmps6
  go_upto_if 24 with fail
  go_cut [0] (PtsCut w A a)
  case first =>
    rcases Nat.lt_or_ge 300 n0 with h | h
    · have d0 : decide (300 < (n0 : Int)) = true := by simp; omega
      have d1 : (300 : Int) ≤ (c0 : Int) := by omega
      have d2 : 300 ≤ c0 := by omega
      go_wp2_with fail
      go_meet
      exact ⟨300, c0, rfl, by omega, by omega, mA, Cells.take QA.out.pts (by omega), rfl⟩
    · have d0 : decide (300 < (n0 : Int)) = false := by simp; omega
      go_wp2_with fail
      go_meet
      exact ⟨n0, c0, rfl, h, lA, mA, QA.out.pts, rfl⟩
  case rest =>
  obtain ⟨n, c, rfl, hn, hnc, hcm, hP, rfl⟩ := hcut
  clear QA lA mA
  have PA := Lib.hid hP; clear hP
  obtain ⟨z, hz⟩ : ∃ z : Nat, (z : Int) = size % 32 := ⟨(size % 32).toNat, by omega⟩
  have em : bits .and .i64 size 31 = (z : Int) := by rw [hz]; exact WordMath.and_mask_i64 size 31 5 (by omega) (by decide)
  have hz31 : z ≤ 31 := by omega
  obtain ⟨sz, hs⟩ : ∃ sz, sz = z + 1 := ⟨_, rfl⟩
  have es : IntKind.i64.wrap (1 + (z : Int)) = (sz : Int) := by rw [IntWalk.i64_in _ (by omega)]; omega
  have hs1 : 1 ≤ sz := by omega
  have hs2 : sz ≤ 32 := by omega
  clear hz hs
  go_wp2_with fail
  clear em es
  with_reducible refine (batches_yes A n c a sz w PA.out (by omega) hnc hcm hs1 (by omega)).mono ?_
  rintro e w1 ⟨G, cg, rfl, hbs, hb1⟩
  have HBS := Lib.hid hbs; clear hbs
  have hN0 := chunkNum_zero sz n hs1
  have hN1 := chunkNum_le sz n hs1
  obtain ⟨N, hN⟩ : ∃ N, N = chunkNum sz n := ⟨_, rfl⟩
  have HL := Lib.hid (chunksOf_len a sz n)
  rw [HL.out, ← hN]
  have HN := Lib.hid hN
  rw [← hN] at hN0 hN1
  clear hN
  have hq : ((N : Int) == 0) = ((n : Int) == 0) := by
    rcases Nat.eq_zero_or_pos n with h | h
    · rw [hN0.2 h, h]
    · have : N ≠ 0 := fun e => by have := hN0.1 e; omega
      rw [Bool.eq_iff_iff]; simp; omega
  clear hN0
  obtain ⟨bz, hbz⟩ : ∃ bz, bz = ((n : Int) == 0) := ⟨_, rfl⟩
  rw [← hbz] at hq
  have hbz' := hbz.symm
  clear hbz
  go_wp2_with fail
  clear hq hbz'
  go_loopw [9, 10] (PartsRel w1 a sz n N) (fun _ i _ => N - (intOf i).toNat)
  case atStart => exact ⟨0, 0, none, 0, by omega, rfl, by simp [upN], rfl, by simpa [ptsTo, ptCells] using World.ownsRow_nil w1 _ _ _, Below.refl _ _⟩
  case round =>
    obtain ⟨q, m, A', c', hqN, rfl, hm, rfl, hown, hbl⟩ := hrel
    have hmn : m ≤ n := by rw [hm]; unfold upN; omega
    have HM := Lib.hid hm; clear hm
    by_cases hlt : q < N
    · have hq1 : q * sz < n := chunkNum_lt sz n q hs1 (by rw [← HN.out]; exact hlt)
      have hch := chunksOf_at a sz n q (by rw [← HN.out]; exact hlt)
      obtain ⟨L, hL⟩ : ∃ L, L = chunkPts a sz n q := ⟨_, rfl⟩
      rw [← hL] at hch
      have hll : L.length = chunkLen sz n q := by rw [hL]; exact chunkPts_len a sz n q
      have hl1 : 1 ≤ L.length := by rw [hll]; unfold chunkLen; omega
      have hl2 : L.length ≤ sz := by rw [hll]; exact chunkLen_small sz n q
      obtain ⟨up1, up2⟩ := upN_step a sz n q hq1
      rw [← hL] at up1
      rw [← hll] at up2
      have UP1 := Lib.hid up1; clear up1
      have hup : m + L.length = upN sz n (q + 1) := by rw [up2, HM.out]
      have hup2 : m + L.length ≤ n := by rw [hup]; unfold upN; omega
      have UP2 := Lib.hid hup; clear hup up2 hll hL hq1
      have hbs := HBS.out
      rw [show (chunksOf a sz n).length = (chunksOf a sz n).length from rfl] at hbs
      obtain ⟨g, BA, BB, BC, ka, kb, kc, hG, g0, g1, g2, hbat⟩ := IsBats.at_ hbs hch
      clear hch hbs
      subst hG
      have G0 := Lib.hid g0
      have G1 := Lib.hid g1
      have G2 := Lib.hid g2
      have HBAT := Lib.hid hbat
      have hgl : g < w1.heap.size := World.block_lt_of_cell? w1 _ g0
      clear g0 g1 g2 hbat
      obtain ⟨xv, hxv⟩ : ∃ y : Nat → Int, y = fun j => (L.map Pt.t).getD j 0 := ⟨_, rfl⟩
      obtain ⟨yv, hyv⟩ : ∃ y : Nat → Int, y = fun j => (L.map Pt.v).getD j 0 := ⟨_, rfl⟩
      obtain ⟨zv, hzv⟩ : ∃ y : Nat → Int, y = fun j => (L.map Pt.s).getD j 0 := ⟨_, rfl⟩
      have IX : Hid (Ints w1 BA L.length xv) := Lib.hid (by rw [hxv]; exact HBAT.out.t)
      have IY : Hid (Ints w1 BB L.length yv) := Lib.hid (by rw [hyv]; exact HBAT.out.v)
      have IZ : Hid (Ints w1 BC L.length zv) := Lib.hid (by rw [hzv]; exact HBAT.out.s)
      have HYV := Lib.hid hyv
      clear hxv hyv hzv
      obtain ⟨F, hF⟩ : ∃ F, F = whereL yv (holdsB 2 value) L.length := ⟨_, rfl⟩
      obtain ⟨R, hR⟩ : ∃ R, R = whereL yv (holdsB 5 value) L.length := ⟨_, rfl⟩
      have hFR := parts_len yv value L.length
      rw [← hF, ← hR] at hFR
      have fr1 : F.length + R.length ≤ L.length := by omega
      have fr2 : L.length ≤ F.length + R.length := by omega
      have S2 := Lib.hid (fun w' (hb : Below w1.heap.size w1 w') => select_2 BA BB BC L.length L.length L.length ka kb kc yv value w' (Cells.below IY.out hb) (by omega) ⟨rfl, rfl⟩)
      have S5 := Lib.hid (fun w' (hb : Below w1.heap.size w1 w') => select_5 BA BB BC L.length L.length L.length ka kb kc yv value w' (Cells.below IY.out hb) (by omega) ⟨rfl, rfl⟩)
      rw [← hF] at S2
      rw [← hR] at S5
      have HF := Lib.hid hF
      clear hF hR hFR
      have HIN := Lib.hid (show ∀ j, j < F.length → inside L.length (F.getD j 0) by
        intro j hj
        rw [HF.out] at hj ⊢
        obtain ⟨i, hi, e, _⟩ := whereL_at yv _ L.length j hj
        rw [e]; exact ⟨by omega, by omega⟩)
      obtain ⟨yF, hyF⟩ : ∃ y : Nat → Int, y = fun j => (takeL yv F).getD j 0 := ⟨_, rfl⟩
      obtain ⟨vm, hvm⟩ : ∃ vm, vm = IntKind.i64.wrap (value - 1) := ⟨_, rfl⟩
      obtain ⟨Y, hY⟩ : ∃ Y, Y = whereL yF (holdsB 1 vm) F.length := ⟨_, rfl⟩
      obtain ⟨Z, hZ⟩ : ∃ Z, Z = whereL yF (holdsB 0 vm) F.length := ⟨_, rfl⟩
      have hYZ := parts_len2 yF vm F.length
      rw [← hY, ← hZ] at hYZ
      have yz1 : Z.length + Y.length ≤ F.length := by omega
      have yz2 : F.length ≤ Z.length + Y.length := by omega
      have HY := Lib.hid hY
      have HZ := Lib.hid hZ
      have HYF := Lib.hid hyF
      clear hY hZ hyF hYZ
      have hvm1 := hvm.symm
      have hvm2 : wrap64 (value - 1) = vm := by rw [hvm]; exact (wrapEq _).symm
      clear hvm
      have g0 := cell_be hbl G0.out
      have g1 := cell_be hbl G1.out
      have g2 := cell_be hbl G2.out
      have hsz1 := hbl.size
      have y0 : (0 : Int) ≤ (q : Int) := by omega
      have y1 : (q : Int) < (N : Int) := by omega
      have hal := hown.lt
      have HAL := Lib.hid hal; clear hal
      go_wp2_with fail
      clear g0 g1 g2
      with_reducible refine (points_bat BA BB BC ka kb kc L wr (HBAT.out.below hbl) (by omega)).mono ?_
      rintro e w2 ⟨PP, cp, rfl, hpp, hb2⟩
      replace hown := own_below hown hb2
      replace hbl := bel_step hbl (Nat.le_refl _) hb2
      have hsz2 := hbl.size
      have hszr := hb2.size
      clear hb2 hsz1
      have t1 : decide ((sz : Int) < (L.length : Int)) = false := by simp; omega
      have t2 : ((L.length : Int) == 0) = false := by rw [beq_eq_false_iff_ne]; omega
      go_upto_region 14 with fail
      clear t1 t2
      go_cut [9, 11] (PartsMid w1 wr a L m)
      case first =>
        go_wp2_with (at_builtin; refine wpList_append_pts hown hbl (Nat.le_refl _) (by omega) rfl _ _ rfl PP L cp wr.heap.size rfl rfl hpp (by omega) (by omega) ?_; intro A1 c1 w3 ho1 hb3 hg1)
        go_meet
        refine ⟨A1, c1, PP, cp, rfl, rfl, ho1, Pts.of_own (hpp.kept hg1 (own_above hpp (fun k hk => (HAL.out k hk).2))), hb3, ?_⟩
        have := hg1.size; omega
      case rest =>
      obtain ⟨A1, c1, PP', cp', rfl, rfl, ho1, hPt, hbl', hszw⟩ := hcut
      clear hown hpp hbl hsz2 hszr
      have hbl := hbl'; clear hbl'
      have g0 := cell_be hbl G0.out
      have g1 := cell_be hbl G1.out
      have g2 := cell_be hbl G2.out
      go_wp2_with fail
      clear g0 g1 g2
      with_reducible refine (S2.out wc hbl).mono ?_
      rintro e v1 ⟨FA, cf, rfl, LF, hbb⟩
      replace ho1 := own_below ho1 hbb
      replace hPt := hPt.below hbb
      replace hbl := bel_step hbl (Nat.le_refl _) hbb
      clear hbb
      have g0 := cell_be hbl G0.out
      have g1 := cell_be hbl G1.out
      have g2 := cell_be hbl G2.out
      go_wp2_with fail
      clear g0 g1 g2
      with_reducible refine (S5.out v1 hbl).mono ?_
      rintro e v2 ⟨RA, cr, rfl, LR, hbb⟩
      clear LR
      replace ho1 := own_below ho1 hbb
      replace hPt := hPt.below hbb
      replace LF := LF.below hbb
      replace hbl := bel_step hbl (Nat.le_refl _) hbb
      clear hbb
      have g0 := cell_be hbl G0.out
      have g1 := cell_be hbl G1.out
      have g2 := cell_be hbl G2.out
      go_wp2_with fail
      clear g0 g1 g2
      with_reducible refine (take_yes BA BB BC FA L.length ka kb kc cf xv yv zv F v2 (Ints.below' IX.out hbl) (Ints.below' IY.out hbl) (Ints.below' IZ.out hbl) LF (by omega) HIN.out).mono ?_
      rintro e v3 ⟨TA, TB, TC, ta, tb, tc, rfl, M1, M2, M3, hbb⟩
      clear M1 M3
      replace ho1 := own_below ho1 hbb
      replace hPt := hPt.below hbb
      replace LF := LF.below hbb
      replace hbl := bel_step hbl (Nat.le_refl _) hbb
      clear hbb
      simp only [takeL_length]
      have hM : Ints v3 TB F.length yF := by
        rw [HYF.out]
        have h := M2
        unfold LInts at h
        rw [takeL_length] at h
        exact h
      clear M2
      have hbb := bel_al v3 (.cells #[.slice TA F.length ta, .slice TB F.length tb, .slice TC F.length tc] 25)
      replace ho1 := own_below ho1 hbb
      replace hPt := hPt.below hbb
      replace LF := LF.below hbb
      replace hM := Ints.below' hM hbb
      replace hbl := bel_step hbl (Nat.le_refl _) hbb
      clear hbb
      have G := Three.new v3 (.slice TA F.length ta) (.slice TB F.length tb) (.slice TC F.length tc) 25
      have e0 := G.c0
      have e1 := G.c1
      have e2 := G.c2
      go_wp2_with fail
      clear e0 e1 e2
      obtain ⟨v4, hv4⟩ : ∃ v4, v4 = v3.alloc (.cells #[.slice TA F.length ta, .slice TB F.length tb, .slice TC F.length tc] 25) := ⟨_, rfl⟩
      rw [← hv4] at ho1 hPt LF hM hbl G ⊢
      clear hv4
      have S1 := select_1 TA TB TC F.length F.length F.length ta tb tc yF vm v4 hM (by omega) ⟨rfl, rfl⟩
      rw [← HY.out] at S1
      have HS1 := Lib.hid S1; clear S1
      with_reducible refine HS1.out.mono ?_
      rintro e v5 ⟨YA, cy, rfl, LY, hbb⟩
      clear HS1
      replace ho1 := own_below ho1 hbb
      replace hPt := hPt.below hbb
      replace LF := LF.below hbb
      replace hM := Ints.below' hM hbb
      replace G := G.step hbb
      replace hbl := bel_step hbl (Nat.le_refl _) hbb
      clear hbb
      have S0 := select_0 TA TB TC F.length F.length F.length ta tb tc yF vm v5 hM (by omega) ⟨rfl, rfl⟩
      rw [← HZ.out] at S0
      have HS0 := Lib.hid S0; clear S0
      go_wp2_with fail
      go_loop [19] (fun i => ∃ r : Nat, r ≤ Y.length ∧ i = .int .i64 r) (fun i => Y.length - (intOf i).toNat)
      case atStart => exact ⟨0, by omega, rfl⟩
      case round =>
        obtain ⟨r, hr, rfl⟩ := hrel
        by_cases hrl : r < Y.length
        · obtain ⟨j, i', u, hj, hi', ey, ef, eu, ev, u1, u2⟩ := parts_at L value vm F Y yv yF HYV.out HF.out HYF.out HY.out r hrl
          obtain ⟨b1, o1, rfl, hb1', hc1⟩ := LY (by omega)
          obtain ⟨b2, o2, rfl, hb2', hc2⟩ := LF (by omega)
          obtain ⟨b3, o3, rfl, hb3', hc3⟩ := hPt (by omega)
          have t1 : v5.cell? ⟨b1, o1 + r, none⟩ = some (.int .i64 j) := by rw [hc1 r hrl]; simp only; rw [ey]
          have t2 : v5.cell? ⟨b2, o2 + j, none⟩ = some (.int .i64 i') := by rw [hc2 j hj]; simp only; rw [ef]
          have t3 : v5.cell? ⟨b3, o3 + i' * 3 + 1, none⟩ = some (.int .i64 u) := by rw [(Pts.at_ hc3 hi').2.1, ev]
          clear hc1 hc2 hc3 ey ef eu ev
          have k0 : (0 : Int) ≤ (r : Int) := by omega
          have k1 : (r : Int) < (Y.length : Int) := by omega
          have k2 : (0 : Int) ≤ (j : Int) := by omega
          have k3 : (j : Int) < (F.length : Int) := by omega
          have k4 : (0 : Int) ≤ (i' : Int) := by omega
          have k5 : (i' : Int) < (L.length : Int) := by omega
          have k6 : decide (value ≤ u) = false := by simp; omega
          go_wp2
          exact ⟨⟨r + 1, by omega, by go_num⟩, by simp [intOf]; omega⟩
        · have e0 := G.c0
          have e1 := G.c1
          have e2 := G.c2
          go_wp2_with fail
          clear e0 e1 e2
          with_reducible refine HS0.out.mono ?_
          rintro e v6 ⟨ZA, cz, rfl, LZ, hbb⟩
          clear LZ
          replace ho1 := own_below ho1 hbb
          replace hbl := bel_step hbl (Nat.le_refl _) hbb
          clear hbb
          have FIN := Lib.hid (show PartsRel w1 a sz n N (.slice A1 (m + L.length) c1) (.int .i64 ((q : Int) + 1)) v6 from ⟨q + 1, m + L.length, A1, c1, by omega, by go_num, UP2.out, rfl, by
            rw [UP2.out, UP1.out, ptCells_append, ← HM.out, ← UP2.out]; exact ho1, hbl⟩)
          clear ho1 hPt LF hM LY
          go_wp2
          exact ⟨FIN.out, by simp [intOf]; omega⟩
    · have hmn2 : m = n := by
        rw [HM.out]
        have h1 := chunkNum_all sz n hs1
        rw [← HN.out] at h1
        have h2 : q = N := by omega
        unfold upN
        rw [h2]; omega
      have hP2 : Pts wr A' n a := by
        have h := Pts.of_own (L := ptsTo a m) (by rw [ptsTo_len]; exact hown)
        rw [ptsTo_len, hmn2] at h
        exact Cells.congr h (fun j hj => by
          unfold ptCell
          rw [show ptAt (ptsTo a n) (j / 3) = a (j / 3) by unfold ptAt ptsTo; simp [show j / 3 < n by omega]])
      have hBB : Below w.heap.size w wr := hb1.trans (hbl.mono hb1.size)
      have KS := Lib.hid (same13 A' c' A c n a wr hP2 (PA.out.below hBB) (by omega))
      clear hP2 hown
      subst hmn2
      go_wp2_with fail
      with_reducible refine KS.out.mono ?_
      rintro e w9 ⟨rfl, hb9⟩
      go_wp2
      go_ret
      exact ⟨rfl, bel_step hBB (Nat.le_refl _) hb9⟩
end Go.Proofs.Ytmdpdhdjbnhmeaa

/- The contract of tidemillref07.Times. -/
import Derived.Test.YtljepnonigjcbaaRefAdd
import Derived.Test.YtljepnonigjcbaaArrEq
import Derived.Test.YtljepnonigjcbaaWideTimesMath
namespace Go.Proofs.Ytljepnonigjcbaa
open Go.RowKit
set_option linter.unusedVariables false

theorem fits_less (s U q : Int) (h : fits (s * U)) (h0 : 0 ≤ q) (h1 : q ≤ U) : fits (s * q) := by
  unfold fits at *
  rcases Int.lt_or_le s 0 with hs | hs
  · have a1 : s * U ≤ s * q := Int.mul_le_mul_of_nonpos_left (by omega) h1
    have a2 : s * q ≤ s * 0 := Int.mul_le_mul_of_nonpos_left (by omega) h0
    rw [Int.mul_zero] at a2
    omega
  · have a1 : s * q ≤ s * U := Int.mul_le_mul_of_nonneg_left h1 hs
    have a2 : 0 ≤ s * q := Int.mul_nonneg hs h0
    omega
theorem half_bits (U : Int) (k : Nat) (h : 0 ≤ U) : U / 2 ^ k = 2 * (U / 2 ^ (k + 1)) + U / 2 ^ k % 2 ∧ 0 ≤ U / 2 ^ (k + 1) ∧ U / 2 ^ k ≤ U := by
  have e : U / 2 ^ (k + 1) = U / 2 ^ k / 2 := by rw [Int.pow_succ, Int.ediv_ediv_of_nonneg (Int.le_of_lt (Int.pow_pos (by decide)))]
  have p : (0 : Int) < 2 ^ k := Int.pow_pos (by decide)
  have q0 : 0 ≤ U / 2 ^ k := Int.ediv_nonneg h (by omega)
  have q1 : U / 2 ^ k ≤ U := Int.ediv_le_self _ h
  rw [e]
  generalize U / 2 ^ k = Q at *
  omega
theorem and_one (a : Int) (h0 : 0 ≤ a) (h1 : a ≤ 18446744073709551615) : bits .and .u64 a 1 = a % 2 := by
  obtain ⟨X, rfl⟩ := Int.eq_ofNat_of_zero_le h0
  have h := bits_and_u64_nat X 1 (by omega) (by omega)
  have e : X &&& 1 = X % 2 := Nat.and_one_is_mod X
  rw [e] at h
  rw [show ((1 : Nat) : Int) = 1 from rfl] at h
  rw [h]; omega
/-- a sum that fits, and one that does not -/
theorem radd_yes (a b : Int) (w : World) (ha : fits a) (hb : fits b) (hf : fits (a + b)) :
    Calls Try.prog 38 #[.agg #[.int .i64 (lb a 0), .int .i64 (lb a 1), .int .i64 (lb a 2), .int .i64 (lb a 3), .int .i64 (lb a 4), .int .i64 (lb a 5), .int .i64 (lb a 6), .int .i64 (lb a 7)], .agg #[.int .i64 (lb b 0), .int .i64 (lb b 1), .int .i64 (lb b 2), .int .i64 (lb b 3), .int .i64 (lb b 4), .int .i64 (lb b 5), .int .i64 (lb b 6), .int .i64 (lb b 7)]] w fun e w' => e = .returned (.tuple #[.agg #[.int .i64 (lb (a + b) 0), .int .i64 (lb (a + b) 1), .int .i64 (lb (a + b) 2), .int .i64 (lb (a + b) 3), .int .i64 (lb (a + b) 4), .int .i64 (lb (a + b) 5), .int .i64 (lb (a + b) 6), .int .i64 (lb (a + b) 7)], .bool true]) ∧ Below w.heap.size w w' := by
  have h := radd_any a b w ha hb
  rw [sumOf_yes hf, decide_eq_true hf] at h
  exact h
theorem radd_no (a b : Int) (w : World) (ha : fits a) (hb : fits b) (hf : ¬ fits (a + b)) :
    Calls Try.prog 38 #[.agg #[.int .i64 (lb a 0), .int .i64 (lb a 1), .int .i64 (lb a 2), .int .i64 (lb a 3), .int .i64 (lb a 4), .int .i64 (lb a 5), .int .i64 (lb a 6), .int .i64 (lb a 7)], .agg #[.int .i64 (lb b 0), .int .i64 (lb b 1), .int .i64 (lb b 2), .int .i64 (lb b 3), .int .i64 (lb b 4), .int .i64 (lb b 5), .int .i64 (lb b 6), .int .i64 (lb b 7)]] w fun e w' => e = .returned (.tuple #[.agg #[.int .i64 (lb 0 0), .int .i64 (lb 0 1), .int .i64 (lb 0 2), .int .i64 (lb 0 3), .int .i64 (lb 0 4), .int .i64 (lb 0 5), .int .i64 (lb 0 6), .int .i64 (lb 0 7)], .bool false]) ∧ Below w.heap.size w w' := by
  have h := radd_any a b w ha hb
  rw [sumOf_no hf, decide_eq_false hf] at h
  exact h
/-- the call's own blocks: the result, the product so far, the step -/
structure TimAt (w : World) (gr go gs : Nat) (st v : Int) (wx : World) : Prop where
  bel : Below w.heap.size w wx
  er : Eight wx gr (fun _ => 0)
  eo : Eight wx go (lb v)
  es : Eight wx gs (lb st)
theorem TimAt.step {w wx wy : World} {gr go gs : Nat} {st v : Int} (h : TimAt w gr go gs st v wx) (hb : Below wx.heap.size wx wy) : TimAt w gr go gs st v wy :=
  ⟨h.bel.trans (hb.mono h.bel.size), h.er.be hb, h.eo.be hb, h.es.be hb⟩
theorem eight_far {W : World} {g g' : Nat} {f : Nat → Int} (h : Eight W g f) (hne : g ≠ g') (s : Nat → Int) : Eight (((((((((W.setCell ⟨g', 0, none⟩ (.int .i64 (s 0))).setCell ⟨g', 1, none⟩ (.int .i64 (s 1))).setCell ⟨g', 2, none⟩ (.int .i64 (s 2))).setCell ⟨g', 3, none⟩ (.int .i64 (s 3))).setCell ⟨g', 4, none⟩ (.int .i64 (s 4))).setCell ⟨g', 5, none⟩ (.int .i64 (s 5))).setCell ⟨g', 6, none⟩ (.int .i64 (s 6))).setCell ⟨g', 7, none⟩ (.int .i64 (s 7)))) g f :=
  eight_set (eight_set (eight_set (eight_set (eight_set (eight_set (eight_set (eight_set h hne) hne) hne) hne) hne) hne) hne) hne
theorem TimAt.put {w wx : World} {gr go gs : Nat} {st v : Int} (h : TimAt w gr go gs st v wx) (h1 : w.heap.size ≤ go) (h2 : gr ≠ go) (h3 : gs ≠ go) (v' : Int) : TimAt w gr go gs st v' (((((((((wx.setCell ⟨go, 0, none⟩ (.int .i64 (lb v' 0))).setCell ⟨go, 1, none⟩ (.int .i64 (lb v' 1))).setCell ⟨go, 2, none⟩ (.int .i64 (lb v' 2))).setCell ⟨go, 3, none⟩ (.int .i64 (lb v' 3))).setCell ⟨go, 4, none⟩ (.int .i64 (lb v' 4))).setCell ⟨go, 5, none⟩ (.int .i64 (lb v' 5))).setCell ⟨go, 6, none⟩ (.int .i64 (lb v' 6))).setCell ⟨go, 7, none⟩ (.int .i64 (lb v' 7)))) :=
  ⟨bel_store h.bel h1 (lb v'), eight_far h.er h2 (lb v'), eight_store h.eo (lb v'), eight_far h.es h3 (lb v')⟩
theorem TimAt.putS {w wx : World} {gr go gs : Nat} {st v : Int} (h : TimAt w gr go gs st v wx) (h1 : w.heap.size ≤ gs) (h2 : gr ≠ gs) (h3 : go ≠ gs) (st' : Int) : TimAt w gr go gs st' v (((((((((wx.setCell ⟨gs, 0, none⟩ (.int .i64 (lb st' 0))).setCell ⟨gs, 1, none⟩ (.int .i64 (lb st' 1))).setCell ⟨gs, 2, none⟩ (.int .i64 (lb st' 2))).setCell ⟨gs, 3, none⟩ (.int .i64 (lb st' 3))).setCell ⟨gs, 4, none⟩ (.int .i64 (lb st' 4))).setCell ⟨gs, 5, none⟩ (.int .i64 (lb st' 5))).setCell ⟨gs, 6, none⟩ (.int .i64 (lb st' 6))).setCell ⟨gs, 7, none⟩ (.int .i64 (lb st' 7)))) :=
  ⟨bel_store h.bel h1 (lb st'), eight_far h.er h2 (lb st'), eight_far h.eo h3 (lb st'), eight_store h.es (lb st')⟩
def TimRel (w : World) (gr go gs : Nat) (st U : Int) (o i : Value) (wr : World) : Prop :=
  ∃ (k : Nat) (ok : Bool) (v : Int), k ≤ 64 ∧ i = .int .i64 ((k : Int) - 1) ∧ o = .bool ok ∧ TimAt w gr go gs st v wr ∧ (ok = true → v = st * (U / 2 ^ k) ∧ fits v) ∧ (ok = false → ¬ fits (st * U))
set_option maxRecDepth 100000 in
set_option maxHeartbeats 8000000 in
theorem rtimes_pos (a n : Int) (w : World) (ha : fits a) (h0 : 0 < n) (h1 : n ≤ 9223372036854775807) :
    Calls Try.prog 36 #[.agg #[.int .i64 (lb a 0), .int .i64 (lb a 1), .int .i64 (lb a 2), .int .i64 (lb a 3), .int .i64 (lb a 4), .int .i64 (lb a 5), .int .i64 (lb a 6), .int .i64 (lb a 7)], .int .i64 n] w fun e w' => e = .returned (.tuple #[.agg #[.int .i64 (lb (sumOf (a * n)) 0), .int .i64 (lb (sumOf (a * n)) 1), .int .i64 (lb (sumOf (a * n)) 2), .int .i64 (lb (sumOf (a * n)) 3), .int .i64 (lb (sumOf (a * n)) 4), .int .i64 (lb (sumOf (a * n)) 5), .int .i64 (lb (sumOf (a * n)) 6), .int .i64 (lb (sumOf (a * n)) 7)], .bool (decide (fits (a * n)))]) ∧ Below w.heap.size w w' := by
  obtain ⟨U, hU⟩ : ∃ U, U = n := ⟨_, rfl⟩
  obtain ⟨st, hst⟩ : ∃ st, st = a := ⟨_, rfl⟩
  have eU : IntKind.u64.wrap n = U := by rw [hU, IntKind.wrap_u64]; omega
  have hUb : 0 ≤ U ∧ U ≤ 9223372036854775807 := by omega
  obtain ⟨M, hM⟩ : ∃ M, M = a * n := ⟨_, rfl⟩
  rw [← hM]
  have HEND := Lib.hid (show M = st * U by rw [hM, hU, hst])
  clear hM
  have HU0 : U / 2 ^ 64 = 0 := Int.ediv_eq_zero_of_lt (by omega) (by omega)
  have HS := Lib.hid (show ∃ v, TimAt w (w.heap.size + 1) (w.heap.size + 1 + 1) (w.heap.size + 1 + 1 + 1) st v ((((w.alloc (.cells #[.int .i64 (lb a 0), .int .i64 (lb a 1), .int .i64 (lb a 2), .int .i64 (lb a 3), .int .i64 (lb a 4), .int .i64 (lb a 5), .int .i64 (lb a 6), .int .i64 (lb a 7)] 44)).alloc (.cells #[.int .i64 0, .int .i64 0, .int .i64 0, .int .i64 0, .int .i64 0, .int .i64 0, .int .i64 0, .int .i64 0] 44)).alloc (.cells #[.int .i64 0, .int .i64 0, .int .i64 0, .int .i64 0, .int .i64 0, .int .i64 0, .int .i64 0, .int .i64 0] 44)).alloc (.cells #[.int .i64 (lb a 0), .int .i64 (lb a 1), .int .i64 (lb a 2), .int .i64 (lb a 3), .int .i64 (lb a 4), .int .i64 (lb a 5), .int .i64 (lb a 6), .int .i64 (lb a 7)] 44)) ∧ v = st * (U / 2 ^ 64) ∧ fits v from ⟨0, ⟨((((Below.refl _ _).alloc (Nat.le_refl _) _).alloc (by simp) _).alloc (by simp; omega) _).alloc (by simp; omega) _, ((Eight.zero (by simp) _).al _).al _, ((Eight.zero (by simp) _).congr (fun j hj => (lb_zero j).symm)).al _, by rw [hst]; exact Eight.new (by simp) _ (lb a)⟩, by rw [HU0, Int.mul_zero], by decide⟩)
  have HST := Lib.hid (show fits st by rw [hst]; exact ha)
  have hz : (n == 0) = false := by simp; omega
  have dn : decide (n < 0) = false := by simp; omega
  clear hU hst HU0 ha
  go_enter Try.func36, Try.ntmps36
  go_wp2_with fail
  go_loopw [10, 11] (TimRel w (w.heap.size + 1) (w.heap.size + 1 + 1) (w.heap.size + 1 + 1 + 1) st U) (fun o i _ => (intOf i + 1).toNat)
  case atStart => (obtain ⟨v, hv1, hv2, hv3⟩ := HS.out; exact ⟨64, true, v, by omega, rfl, rfl, hv1, fun _ => ⟨hv2, hv3⟩, fun h => by cases h⟩)
  case round =>
    obtain ⟨k, ok, v, hk, rfl, rfl, HT, hyes, hno⟩ := hrel
    cases ok with
    | false =>
      have HN := Lib.hid (hno rfl); clear hno hyes
      obtain ⟨hbel, er, eo, es⟩ := HT
      obtain ⟨z0, z1, z2, z3, z4, z5, z6, z7, f0, f1, f2, f3, f4, f5, f6, f7⟩ := eight_cells er
      have HER := Lib.hid er; clear er eo es
      by_cases hk1 : (1 : Int) ≤ (k : Int)
      all_goals
        go_wp2
        obtain ⟨r0, r1, r2, r3, r4, r5, r6, r7, _⟩ := eight_cells (eight_store HER.out (fun _ => 0))
        exact bodyPost_ret (v := .tuple #[.agg #[.int .i64 0, .int .i64 0, .int .i64 0, .int .i64 0, .int .i64 0, .int .i64 0, .int .i64 0, .int .i64 0], .bool false]) (by simp only [results, Try.results36]; simp [go_sem, r0, r1, r2, r3, r4, r5, r6, r7]) rfl ⟨by rw [HEND.out, sumOf_no HN.out, decide_eq_false HN.out]; simp only [lb_zero], bel_store hbel (by omega) (fun _ => 0)⟩
    | true =>
      obtain ⟨hv, hfv⟩ := hyes rfl
      clear hno hyes
      rcases (show k = 0 ∨ ∃ k1, k = k1 + 1 by rcases k with _ | k1; exact .inl rfl; exact .inr ⟨k1, rfl⟩) with rfl | ⟨k1, rfl⟩
      · have hv2 : v = st * U := by rw [hv, Int.pow_zero, Int.ediv_one]
        rw [hv2] at hfv HT
        have HF := Lib.hid hfv; clear hfv hv hv2
        obtain ⟨hbel, er, eo, es⟩ := HT
        obtain ⟨z0, z1, z2, z3, z4, z5, z6, z7, f0, f1, f2, f3, f4, f5, f6, f7⟩ := eight_cells er
        obtain ⟨o0, o1, o2, o3, o4, o5, o6, o7, _⟩ := eight_cells eo
        have HER := Lib.hid er; clear er eo es
        go_wp2
        obtain ⟨r0, r1, r2, r3, r4, r5, r6, r7, _⟩ := eight_cells (eight_store HER.out (lb (st * U)))
        exact bodyPost_ret (v := .tuple #[.agg #[.int .i64 (lb (st * U) 0), .int .i64 (lb (st * U) 1), .int .i64 (lb (st * U) 2), .int .i64 (lb (st * U) 3), .int .i64 (lb (st * U) 4), .int .i64 (lb (st * U) 5), .int .i64 (lb (st * U) 6), .int .i64 (lb (st * U) 7)], .bool true]) (by simp only [results, Try.results36]; simp [go_sem, r0, r1, r2, r3, r4, r5, r6, r7]) rfl ⟨by rw [HEND.out, sumOf_yes HF.out, decide_eq_true HF.out], bel_store hbel (by omega) (lb (st * U))⟩
      · have e1 : (((k1 + 1 : Nat) : Int) - 1) = (k1 : Int) := by omega
        rw [e1]
        clear e1
        obtain ⟨hb1, hb2, hb3⟩ := half_bits U k1 (by omega)
        obtain ⟨Q, hQ⟩ : ∃ Q, Q = U / 2 ^ k1 := ⟨_, rfl⟩
        obtain ⟨Q1, hQ1⟩ : ∃ Q1, Q1 = U / 2 ^ (k1 + 1) := ⟨_, rfl⟩
        obtain ⟨bt, hbt⟩ : ∃ bt, bt = Q % 2 := ⟨_, rfl⟩
        rw [← hQ, ← hQ1] at hb1
        rw [← hQ1] at hb2 hv
        rw [← hQ] at hb3
        rw [← hbt] at hb1
        have hbt2 : bt = 0 ∨ bt = 1 := by omega
        have hQ0 : 0 ≤ Q := by omega
        have eQ : U / 2 ^ k1 = Q := hQ.symm
        have eB : bits BinOp.and IntKind.u64 Q 1 = bt := by rw [and_one Q hQ0 (by omega), hbt]
        have hv2 : v + v = st * (2 * Q1) := by rw [hv, ← Int.mul_add]; congr 1; omega
        have m2 : fits (st * U) → fits (v + v) := fun h => by rw [hv2]; exact fits_less st U _ h (by omega) (by omega)
        have hq1 : bt = 0 → v + v = st * Q := fun h => by rw [hv2]; congr 1; omega
        have hq2 : bt = 1 → v + v + st = st * Q := fun h => by rw [hv2, show Q = 2 * Q1 + 1 by omega, Int.mul_add, Int.mul_one]
        have m3 : fits (st * U) → fits (st * Q) := fun h => fits_less st U _ h hQ0 hb3
        have HV := Lib.hid hfv
        have HQQ := Lib.hid eQ
        have M2 := Lib.hid m2
        have M3 := Lib.hid m3
        have HQ1' := Lib.hid hq1
        have HQ2' := Lib.hid hq2
        clear hQ hQ1 hbt hb1 hv hv2 m2 m3 hq1 hq2 hfv
        obtain ⟨o0, o1, o2, o3, o4, o5, o6, o7, of0, of1, of2, of3, of4, of5, of6, of7⟩ := eight_cells HT.eo
        have i0 : (0 : Int) ≤ (k1 : Int) := Int.natCast_nonneg _
        have i1 : (k1 : Int) ≤ 63 := by omega
        by_cases h2 : fits (v + v)
        · have HA1 := Lib.hid (fun w => radd_yes v v w HV.out HV.out h2)
          have HF2 := Lib.hid h2; clear h2
          go_wp2_with fail
          with_reducible refine (HA1.out _).mono ?_
          rintro e w1 ⟨rfl, hb⟩
          replace HT := HT.step hb
          clear hb o0 o1 o2 o3 o4 o5 o6 o7 of0 of1 of2 of3 of4 of5 of6 of7
          obtain ⟨o0, o1, o2, o3, o4, o5, o6, o7, of0, of1, of2, of3, of4, of5, of6, of7⟩ := eight_cells HT.eo
          have HT2 := HT.put (by omega) (by omega) (by omega) (v + v)
          rcases hbt2 with hz | hz
          · have dz : (bt == 1) = false := by rw [hz]; rfl
            have HBT := Lib.hid hz; clear hz
            clear HT
            go_wp2
            exact ⟨⟨k1, true, v + v, by omega, rfl, rfl, HT2, fun _ => ⟨by rw [HQQ.out, HQ1'.out HBT.out], HF2.out⟩, fun h => by cases h⟩, by simp [intOf]⟩
          · have dz : (bt == 1) = true := by rw [hz]; rfl
            have HBT := Lib.hid hz; clear hz
            obtain ⟨V, hV⟩ : ∃ V, V = ((((((((w1.setCell ⟨w.heap.size + 1 + 1, 0, none⟩ (.int .i64 (lb (v + v) 0))).setCell ⟨w.heap.size + 1 + 1, 1, none⟩ (.int .i64 (lb (v + v) 1))).setCell ⟨w.heap.size + 1 + 1, 2, none⟩ (.int .i64 (lb (v + v) 2))).setCell ⟨w.heap.size + 1 + 1, 3, none⟩ (.int .i64 (lb (v + v) 3))).setCell ⟨w.heap.size + 1 + 1, 4, none⟩ (.int .i64 (lb (v + v) 4))).setCell ⟨w.heap.size + 1 + 1, 5, none⟩ (.int .i64 (lb (v + v) 5))).setCell ⟨w.heap.size + 1 + 1, 6, none⟩ (.int .i64 (lb (v + v) 6))).setCell ⟨w.heap.size + 1 + 1, 7, none⟩ (.int .i64 (lb (v + v) 7))) := ⟨_, rfl⟩
            rw [← hV] at HT2
            obtain ⟨p0, p1, p2, p3, p4, p5, p6, p7, pf0, pf1, pf2, pf3, pf4, pf5, pf6, pf7⟩ := eight_cells HT2.eo
            obtain ⟨s0, s1, s2, s3, s4, s5, s6, s7, _⟩ := eight_cells HT2.es
            clear HT
            have HP := Lib.hid (show True ∧ True from ⟨trivial, trivial⟩)
            go_upto_region 19 with fail
            rw [← hV]
            clear hV HP o0 o1 o2 o3 o4 o5 o6 o7 of0 of1 of2 of3 of4 of5 of6 of7
            by_cases h3 : fits (v + v + st)
            · have HA2 := Lib.hid (fun w => radd_yes (v + v) st w HF2.out HST.out h3)
              have HF3 := Lib.hid h3; clear h3
              go_wp2_with fail
              with_reducible refine (HA2.out _).mono ?_
              rintro e w2 ⟨rfl, hb⟩
              replace HT2 := HT2.step hb
              clear hb p0 p1 p2 p3 p4 p5 p6 p7 pf0 pf1 pf2 pf3 pf4 pf5 pf6 pf7 s0 s1 s2 s3 s4 s5 s6 s7
              obtain ⟨p0, p1, p2, p3, p4, p5, p6, p7, pf0, pf1, pf2, pf3, pf4, pf5, pf6, pf7⟩ := eight_cells HT2.eo
              have HT3 := HT2.put (by omega) (by omega) (by omega) (v + v + st)
              clear HT2
              go_wp2
              exact ⟨⟨k1, true, v + v + st, by omega, rfl, rfl, HT3, fun _ => ⟨by rw [HQQ.out, HQ2'.out HBT.out], HF3.out⟩, fun h => by cases h⟩, by simp [intOf]⟩
            · have HA2 := Lib.hid (fun w => radd_no (v + v) st w HF2.out HST.out h3)
              have HF3 := Lib.hid (fun h => h3 (by rw [HQ2'.out HBT.out]; exact M3.out h)); clear h3
              go_wp2_with fail
              with_reducible refine (HA2.out _).mono ?_
              rintro e w2 ⟨rfl, hb⟩
              replace HT2 := HT2.step hb
              clear hb p0 p1 p2 p3 p4 p5 p6 p7 pf0 pf1 pf2 pf3 pf4 pf5 pf6 pf7 s0 s1 s2 s3 s4 s5 s6 s7
              obtain ⟨p0, p1, p2, p3, p4, p5, p6, p7, pf0, pf1, pf2, pf3, pf4, pf5, pf6, pf7⟩ := eight_cells HT2.eo
              have HT3 := HT2.put (by omega) (by omega) (by omega) 0
              clear HT2
              go_wp2
              exact ⟨⟨k1, false, 0, by omega, rfl, rfl, HT3, (fun h => by cases h), fun _ => HF3.out⟩, by simp [intOf]⟩
        · have HA1 := Lib.hid (fun w => radd_no v v w HV.out HV.out h2)
          have HF2 := Lib.hid (fun h => h2 (M2.out h)); clear h2
          go_wp2_with fail
          with_reducible refine (HA1.out _).mono ?_
          rintro e w1 ⟨rfl, hb⟩
          replace HT := HT.step hb
          clear hb o0 o1 o2 o3 o4 o5 o6 o7 of0 of1 of2 of3 of4 of5 of6 of7
          obtain ⟨o0, o1, o2, o3, o4, o5, o6, o7, of0, of1, of2, of3, of4, of5, of6, of7⟩ := eight_cells HT.eo
          have HT2 := HT.put (by omega) (by omega) (by omega) 0
          clear HT
          go_wp2
          exact ⟨⟨k1, false, 0, by omega, rfl, rfl, HT2, (fun h => by cases h), fun _ => HF2.out⟩, by simp [intOf]⟩
theorem least_lb (k : Nat) (hk : k < 8) : lb (-170141183460469231731687303715884105728) k = if k = 7 then 32768 else 0 := by
  rcases (show k = 0 ∨ k = 1 ∨ k = 2 ∨ k = 3 ∨ k = 4 ∨ k = 5 ∨ k = 6 ∨ k = 7 by omega) with rfl | rfl | rfl | rfl | rfl | rfl | rfl | rfl <;> decide
theorem least_eq (a : Int) (w : World) (ha : fits a) (h : a = -170141183460469231731687303715884105728) : (Op.equalIn 10000 44 (.agg #[.int .i64 (lb a 0), .int .i64 (lb a 1), .int .i64 (lb a 2), .int .i64 (lb a 3), .int .i64 (lb a 4), .int .i64 (lb a 5), .int .i64 (lb a 6), .int .i64 (lb a 7)]) (.agg #[.int .i64 0, .int .i64 0, .int .i64 0, .int .i64 0, .int .i64 0, .int .i64 0, .int .i64 0, .int .i64 32768])).run Try.prog w = .ok true w := by
  subst h
  have e := eq8_same (lb (-170141183460469231731687303715884105728)) w
  simp only [least_lb 0 (by omega), least_lb 1 (by omega), least_lb 2 (by omega), least_lb 3 (by omega), least_lb 4 (by omega), least_lb 5 (by omega), least_lb 6 (by omega), least_lb 7 (by omega)] at e ⊢
  exact e
theorem least_ne (a : Int) (w : World) (ha : fits a) (h : a ≠ -170141183460469231731687303715884105728) : (Op.equalIn 10000 44 (.agg #[.int .i64 (lb a 0), .int .i64 (lb a 1), .int .i64 (lb a 2), .int .i64 (lb a 3), .int .i64 (lb a 4), .int .i64 (lb a 5), .int .i64 (lb a 6), .int .i64 (lb a 7)]) (.agg #[.int .i64 0, .int .i64 0, .int .i64 0, .int .i64 0, .int .i64 0, .int .i64 0, .int .i64 0, .int .i64 32768])).run Try.prog w = .ok false w := by
  have e := eq8 (lb a) (fun k => if k = 7 then 32768 else 0) w
  have hf : ([0, 1, 2, 3, 4, 5, 6, 7].all fun i => lb a i == if i = 7 then 32768 else 0) = false := by
    rw [Bool.eq_false_iff]
    intro hall
    rw [List.all_eq_true] at hall
    apply h
    refine lb_inj a _ ha (by unfold fits; omega) (fun k hk => ?_)
    rw [least_lb k hk]
    exact beq_iff_eq.1 (hall k (by rcases (show k = 0 ∨ k = 1 ∨ k = 2 ∨ k = 3 ∨ k = 4 ∨ k = 5 ∨ k = 6 ∨ k = 7 by omega) with rfl | rfl | rfl | rfl | rfl | rfl | rfl | rfl <;> simp))
  rw [hf] at e
  exact e
set_option maxRecDepth 100000 in
set_option maxHeartbeats 8000000 in
theorem rtimes_neg (a n : Int) (w : World) (ha : fits a) (h0 : n < 0) (h1 : -9223372036854775808 ≤ n) :
    Calls Try.prog 36 #[.agg #[.int .i64 (lb a 0), .int .i64 (lb a 1), .int .i64 (lb a 2), .int .i64 (lb a 3), .int .i64 (lb a 4), .int .i64 (lb a 5), .int .i64 (lb a 6), .int .i64 (lb a 7)], .int .i64 n] w fun e w' => e = .returned (.tuple #[.agg #[.int .i64 (lb (sumOf (a * n)) 0), .int .i64 (lb (sumOf (a * n)) 1), .int .i64 (lb (sumOf (a * n)) 2), .int .i64 (lb (sumOf (a * n)) 3), .int .i64 (lb (sumOf (a * n)) 4), .int .i64 (lb (sumOf (a * n)) 5), .int .i64 (lb (sumOf (a * n)) 6), .int .i64 (lb (sumOf (a * n)) 7)], .bool (decide (fits (a * n)))]) ∧ Below w.heap.size w w' := by
  have hz : (n == 0) = false := by simp; omega
  have dn : decide (n < 0) = true := by simp; omega
  by_cases hl : a = -170141183460469231731687303715884105728
  · have eL := fun w => least_eq a w ha hl
    have hnf : ¬ fits (a * n) := by
      rw [hl]; unfold fits; omega
    rw [sumOf_no hnf, decide_eq_false hnf]
    have HL := Lib.hid hl
    clear hnf ha hl
    have E := ((Eight.zero (w := w.alloc (.cells #[.int .i64 (lb a 0), .int .i64 (lb a 1), .int .i64 (lb a 2), .int .i64 (lb a 3), .int .i64 (lb a 4), .int .i64 (lb a 5), .int .i64 (lb a 6), .int .i64 (lb a 7)] 44)) (n := w.heap.size + 1) (by simp) 44).al (.cells #[.int .i64 0, .int .i64 0, .int .i64 0, .int .i64 0, .int .i64 0, .int .i64 0, .int .i64 0, .int .i64 0] 44)).al (.cells #[.int .i64 (lb a 0), .int .i64 (lb a 1), .int .i64 (lb a 2), .int .i64 (lb a 3), .int .i64 (lb a 4), .int .i64 (lb a 5), .int .i64 (lb a 6), .int .i64 (lb a 7)] 44)
    obtain ⟨r0, r1, r2, r3, r4, r5, r6, r7, _⟩ := eight_cells E
    clear E
    go_enter Try.func36, Try.ntmps36
    go_wp2
    exact bodyPost_ret (v := .tuple #[.agg #[.int .i64 0, .int .i64 0, .int .i64 0, .int .i64 0, .int .i64 0, .int .i64 0, .int .i64 0, .int .i64 0], .bool false]) (by simp only [results, Try.results36]; simp [go_sem, r0, r1, r2, r3, r4, r5, r6, r7]) rfl ⟨by simp only [lb_zero], ((((Below.refl _ _).alloc (Nat.le_refl _) _).alloc (by simp) _).alloc (by simp; omega) _).alloc (by simp; omega) _⟩
  · have eL := fun w => least_ne a w ha hl
    have HM := Lib.hid (fun w => rminus_any a w)
    obtain ⟨U, hU⟩ : ∃ U, U = -n := ⟨_, rfl⟩
    obtain ⟨st, hst⟩ : ∃ st, st = -a := ⟨_, rfl⟩
    have HST := Lib.hid (show fits st by rw [hst]; unfold fits at *; omega)
    have eU : -(n + 1) + 1 = U := by omega
    have hUb : 0 ≤ U ∧ U ≤ 9223372036854775808 := by omega
    obtain ⟨M, hM⟩ : ∃ M, M = a * n := ⟨_, rfl⟩
    rw [← hM]
    have HEND := Lib.hid (show M = st * U by rw [hM, hU, hst, Int.neg_mul_neg])
    have HU0 : U / 2 ^ 64 = 0 := Int.ediv_eq_zero_of_lt (by omega) (by omega)
    have HV0 := Lib.hid (show (0 : Int) = st * (U / 2 ^ 64) ∧ fits 0 from ⟨by rw [HU0, Int.mul_zero], by decide⟩)
    rw [← hst] at HM
    have HT0 : TimAt w (w.heap.size + 1) (w.heap.size + 1 + 1) (w.heap.size + 1 + 1 + 1) a 0 ((((w.alloc (.cells #[.int .i64 (lb a 0), .int .i64 (lb a 1), .int .i64 (lb a 2), .int .i64 (lb a 3), .int .i64 (lb a 4), .int .i64 (lb a 5), .int .i64 (lb a 6), .int .i64 (lb a 7)] 44)).alloc (.cells #[.int .i64 0, .int .i64 0, .int .i64 0, .int .i64 0, .int .i64 0, .int .i64 0, .int .i64 0, .int .i64 0] 44)).alloc (.cells #[.int .i64 0, .int .i64 0, .int .i64 0, .int .i64 0, .int .i64 0, .int .i64 0, .int .i64 0, .int .i64 0] 44)).alloc (.cells #[.int .i64 (lb a 0), .int .i64 (lb a 1), .int .i64 (lb a 2), .int .i64 (lb a 3), .int .i64 (lb a 4), .int .i64 (lb a 5), .int .i64 (lb a 6), .int .i64 (lb a 7)] 44)) := ⟨((((Below.refl _ _).alloc (Nat.le_refl _) _).alloc (by simp) _).alloc (by simp; omega) _).alloc (by simp; omega) _, ((Eight.zero (by simp) _).al _).al _, ((Eight.zero (by simp) _).congr (fun j hj => (lb_zero j).symm)).al _, Eight.new (by simp) _ (lb a)⟩
    clear ha hl hM hU hst HU0
    go_enter Try.func36, Try.ntmps36
    go_wp2_with fail
    with_reducible refine (HM.out _).mono ?_
    rintro e w1 ⟨rfl, hb⟩
    have HT1 := HT0.step hb
    clear hb HT0
    obtain ⟨s0, s1, s2, s3, s4, s5, s6, s7, sf0, sf1, sf2, sf3, sf4, sf5, sf6, sf7⟩ := eight_cells HT1.es
    have HT2 := HT1.putS (by omega) (by omega) (by omega) st
    obtain ⟨V, hV⟩ : ∃ V, V = ((((((((w1.setCell ⟨w.heap.size + 1 + 1 + 1, 0, none⟩ (.int .i64 (lb st 0))).setCell ⟨w.heap.size + 1 + 1 + 1, 1, none⟩ (.int .i64 (lb st 1))).setCell ⟨w.heap.size + 1 + 1 + 1, 2, none⟩ (.int .i64 (lb st 2))).setCell ⟨w.heap.size + 1 + 1 + 1, 3, none⟩ (.int .i64 (lb st 3))).setCell ⟨w.heap.size + 1 + 1 + 1, 4, none⟩ (.int .i64 (lb st 4))).setCell ⟨w.heap.size + 1 + 1 + 1, 5, none⟩ (.int .i64 (lb st 5))).setCell ⟨w.heap.size + 1 + 1 + 1, 6, none⟩ (.int .i64 (lb st 6))).setCell ⟨w.heap.size + 1 + 1 + 1, 7, none⟩ (.int .i64 (lb st 7))) := ⟨_, rfl⟩
    rw [← hV] at HT2
    have HS := Lib.hid (show ∃ v, TimAt w (w.heap.size + 1) (w.heap.size + 1 + 1) (w.heap.size + 1 + 1 + 1) st v V ∧ v = st * (U / 2 ^ 64) ∧ fits v from ⟨0, HT2, HV0.out.1, HV0.out.2⟩)
    clear HT1 HT2
    go_wp2_with fail
    rw [← hV]
    clear hV s0 s1 s2 s3 s4 s5 s6 s7 sf0 sf1 sf2 sf3 sf4 sf5 sf6 sf7
    go_loopw [10, 11] (TimRel w (w.heap.size + 1) (w.heap.size + 1 + 1) (w.heap.size + 1 + 1 + 1) st U) (fun o i _ => (intOf i + 1).toNat)
    case atStart => (obtain ⟨v, hv1, hv2, hv3⟩ := HS.out; exact ⟨64, true, v, by omega, rfl, rfl, hv1, fun _ => ⟨hv2, hv3⟩, fun h => by cases h⟩)
    case round =>
      obtain ⟨k, ok, v, hk, rfl, rfl, HT, hyes, hno⟩ := hrel
      cases ok with
      | false =>
        have HN := Lib.hid (hno rfl); clear hno hyes
        obtain ⟨hbel, er, eo, es⟩ := HT
        obtain ⟨z0, z1, z2, z3, z4, z5, z6, z7, f0, f1, f2, f3, f4, f5, f6, f7⟩ := eight_cells er
        have HER := Lib.hid er; clear er eo es
        by_cases hk1 : (1 : Int) ≤ (k : Int)
        all_goals
          go_wp2
          obtain ⟨r0, r1, r2, r3, r4, r5, r6, r7, _⟩ := eight_cells (eight_store HER.out (fun _ => 0))
          exact bodyPost_ret (v := .tuple #[.agg #[.int .i64 0, .int .i64 0, .int .i64 0, .int .i64 0, .int .i64 0, .int .i64 0, .int .i64 0, .int .i64 0], .bool false]) (by simp only [results, Try.results36]; simp [go_sem, r0, r1, r2, r3, r4, r5, r6, r7]) rfl ⟨by rw [HEND.out, sumOf_no HN.out, decide_eq_false HN.out]; simp only [lb_zero], bel_store hbel (by omega) (fun _ => 0)⟩
      | true =>
        obtain ⟨hv, hfv⟩ := hyes rfl
        clear hno hyes
        rcases (show k = 0 ∨ ∃ k1, k = k1 + 1 by rcases k with _ | k1; exact .inl rfl; exact .inr ⟨k1, rfl⟩) with rfl | ⟨k1, rfl⟩
        · have hv2 : v = st * U := by rw [hv, Int.pow_zero, Int.ediv_one]
          rw [hv2] at hfv HT
          have HF := Lib.hid hfv; clear hfv hv hv2
          obtain ⟨hbel, er, eo, es⟩ := HT
          obtain ⟨z0, z1, z2, z3, z4, z5, z6, z7, f0, f1, f2, f3, f4, f5, f6, f7⟩ := eight_cells er
          obtain ⟨o0, o1, o2, o3, o4, o5, o6, o7, _⟩ := eight_cells eo
          have HER := Lib.hid er; clear er eo es
          go_wp2
          obtain ⟨r0, r1, r2, r3, r4, r5, r6, r7, _⟩ := eight_cells (eight_store HER.out (lb (st * U)))
          exact bodyPost_ret (v := .tuple #[.agg #[.int .i64 (lb (st * U) 0), .int .i64 (lb (st * U) 1), .int .i64 (lb (st * U) 2), .int .i64 (lb (st * U) 3), .int .i64 (lb (st * U) 4), .int .i64 (lb (st * U) 5), .int .i64 (lb (st * U) 6), .int .i64 (lb (st * U) 7)], .bool true]) (by simp only [results, Try.results36]; simp [go_sem, r0, r1, r2, r3, r4, r5, r6, r7]) rfl ⟨by rw [HEND.out, sumOf_yes HF.out, decide_eq_true HF.out], bel_store hbel (by omega) (lb (st * U))⟩
        · have e1 : (((k1 + 1 : Nat) : Int) - 1) = (k1 : Int) := by omega
          rw [e1]
          clear e1
          obtain ⟨hb1, hb2, hb3⟩ := half_bits U k1 (by omega)
          obtain ⟨Q, hQ⟩ : ∃ Q, Q = U / 2 ^ k1 := ⟨_, rfl⟩
          obtain ⟨Q1, hQ1⟩ : ∃ Q1, Q1 = U / 2 ^ (k1 + 1) := ⟨_, rfl⟩
          obtain ⟨bt, hbt⟩ : ∃ bt, bt = Q % 2 := ⟨_, rfl⟩
          rw [← hQ, ← hQ1] at hb1
          rw [← hQ1] at hb2 hv
          rw [← hQ] at hb3
          rw [← hbt] at hb1
          have hbt2 : bt = 0 ∨ bt = 1 := by omega
          have hQ0 : 0 ≤ Q := by omega
          have eQ : U / 2 ^ k1 = Q := hQ.symm
          have eB : bits BinOp.and IntKind.u64 Q 1 = bt := by rw [and_one Q hQ0 (by omega), hbt]
          have hv2 : v + v = st * (2 * Q1) := by rw [hv, ← Int.mul_add]; congr 1; omega
          have m2 : fits (st * U) → fits (v + v) := fun h => by rw [hv2]; exact fits_less st U _ h (by omega) (by omega)
          have hq1 : bt = 0 → v + v = st * Q := fun h => by rw [hv2]; congr 1; omega
          have hq2 : bt = 1 → v + v + st = st * Q := fun h => by rw [hv2, show Q = 2 * Q1 + 1 by omega, Int.mul_add, Int.mul_one]
          have m3 : fits (st * U) → fits (st * Q) := fun h => fits_less st U _ h hQ0 hb3
          have HV := Lib.hid hfv
          have HQQ := Lib.hid eQ
          have M2 := Lib.hid m2
          have M3 := Lib.hid m3
          have HQ1' := Lib.hid hq1
          have HQ2' := Lib.hid hq2
          clear hQ hQ1 hbt hb1 hv hv2 m2 m3 hq1 hq2 hfv
          obtain ⟨o0, o1, o2, o3, o4, o5, o6, o7, of0, of1, of2, of3, of4, of5, of6, of7⟩ := eight_cells HT.eo
          have i0 : (0 : Int) ≤ (k1 : Int) := Int.natCast_nonneg _
          have i1 : (k1 : Int) ≤ 63 := by omega
          by_cases h2 : fits (v + v)
          · have HA1 := Lib.hid (fun w => radd_yes v v w HV.out HV.out h2)
            have HF2 := Lib.hid h2; clear h2
            go_wp2_with fail
            with_reducible refine (HA1.out _).mono ?_
            rintro e w1 ⟨rfl, hb⟩
            replace HT := HT.step hb
            clear hb o0 o1 o2 o3 o4 o5 o6 o7 of0 of1 of2 of3 of4 of5 of6 of7
            obtain ⟨o0, o1, o2, o3, o4, o5, o6, o7, of0, of1, of2, of3, of4, of5, of6, of7⟩ := eight_cells HT.eo
            have HT2 := HT.put (by omega) (by omega) (by omega) (v + v)
            rcases hbt2 with hz | hz
            · have dz : (bt == 1) = false := by rw [hz]; rfl
              have HBT := Lib.hid hz; clear hz
              clear HT
              go_wp2
              exact ⟨⟨k1, true, v + v, by omega, rfl, rfl, HT2, fun _ => ⟨by rw [HQQ.out, HQ1'.out HBT.out], HF2.out⟩, fun h => by cases h⟩, by simp [intOf]⟩
            · have dz : (bt == 1) = true := by rw [hz]; rfl
              have HBT := Lib.hid hz; clear hz
              obtain ⟨V, hV⟩ : ∃ V, V = ((((((((w1.setCell ⟨w.heap.size + 1 + 1, 0, none⟩ (.int .i64 (lb (v + v) 0))).setCell ⟨w.heap.size + 1 + 1, 1, none⟩ (.int .i64 (lb (v + v) 1))).setCell ⟨w.heap.size + 1 + 1, 2, none⟩ (.int .i64 (lb (v + v) 2))).setCell ⟨w.heap.size + 1 + 1, 3, none⟩ (.int .i64 (lb (v + v) 3))).setCell ⟨w.heap.size + 1 + 1, 4, none⟩ (.int .i64 (lb (v + v) 4))).setCell ⟨w.heap.size + 1 + 1, 5, none⟩ (.int .i64 (lb (v + v) 5))).setCell ⟨w.heap.size + 1 + 1, 6, none⟩ (.int .i64 (lb (v + v) 6))).setCell ⟨w.heap.size + 1 + 1, 7, none⟩ (.int .i64 (lb (v + v) 7))) := ⟨_, rfl⟩
              rw [← hV] at HT2
              obtain ⟨p0, p1, p2, p3, p4, p5, p6, p7, pf0, pf1, pf2, pf3, pf4, pf5, pf6, pf7⟩ := eight_cells HT2.eo
              obtain ⟨s0, s1, s2, s3, s4, s5, s6, s7, _⟩ := eight_cells HT2.es
              clear HT
              have HP := Lib.hid (show True ∧ True from ⟨trivial, trivial⟩)
              go_upto_region 19 with fail
              rw [← hV]
              clear hV HP o0 o1 o2 o3 o4 o5 o6 o7 of0 of1 of2 of3 of4 of5 of6 of7
              by_cases h3 : fits (v + v + st)
              · have HA2 := Lib.hid (fun w => radd_yes (v + v) st w HF2.out HST.out h3)
                have HF3 := Lib.hid h3; clear h3
                go_wp2_with fail
                with_reducible refine (HA2.out _).mono ?_
                rintro e w2 ⟨rfl, hb⟩
                replace HT2 := HT2.step hb
                clear hb p0 p1 p2 p3 p4 p5 p6 p7 pf0 pf1 pf2 pf3 pf4 pf5 pf6 pf7 s0 s1 s2 s3 s4 s5 s6 s7
                obtain ⟨p0, p1, p2, p3, p4, p5, p6, p7, pf0, pf1, pf2, pf3, pf4, pf5, pf6, pf7⟩ := eight_cells HT2.eo
                have HT3 := HT2.put (by omega) (by omega) (by omega) (v + v + st)
                clear HT2
                go_wp2
                exact ⟨⟨k1, true, v + v + st, by omega, rfl, rfl, HT3, fun _ => ⟨by rw [HQQ.out, HQ2'.out HBT.out], HF3.out⟩, fun h => by cases h⟩, by simp [intOf]⟩
              · have HA2 := Lib.hid (fun w => radd_no (v + v) st w HF2.out HST.out h3)
                have HF3 := Lib.hid (fun h => h3 (by rw [HQ2'.out HBT.out]; exact M3.out h)); clear h3
                go_wp2_with fail
                with_reducible refine (HA2.out _).mono ?_
                rintro e w2 ⟨rfl, hb⟩
                replace HT2 := HT2.step hb
                clear hb p0 p1 p2 p3 p4 p5 p6 p7 pf0 pf1 pf2 pf3 pf4 pf5 pf6 pf7 s0 s1 s2 s3 s4 s5 s6 s7
                obtain ⟨p0, p1, p2, p3, p4, p5, p6, p7, pf0, pf1, pf2, pf3, pf4, pf5, pf6, pf7⟩ := eight_cells HT2.eo
                have HT3 := HT2.put (by omega) (by omega) (by omega) 0
                clear HT2
                go_wp2
                exact ⟨⟨k1, false, 0, by omega, rfl, rfl, HT3, (fun h => by cases h), fun _ => HF3.out⟩, by simp [intOf]⟩
          · have HA1 := Lib.hid (fun w => radd_no v v w HV.out HV.out h2)
            have HF2 := Lib.hid (fun h => h2 (M2.out h)); clear h2
            go_wp2_with fail
            with_reducible refine (HA1.out _).mono ?_
            rintro e w1 ⟨rfl, hb⟩
            replace HT := HT.step hb
            clear hb o0 o1 o2 o3 o4 o5 o6 o7 of0 of1 of2 of3 of4 of5 of6 of7
            obtain ⟨o0, o1, o2, o3, o4, o5, o6, o7, of0, of1, of2, of3, of4, of5, of6, of7⟩ := eight_cells HT.eo
            have HT2 := HT.put (by omega) (by omega) (by omega) 0
            clear HT
            go_wp2
            exact ⟨⟨k1, false, 0, by omega, rfl, rfl, HT2, (fun h => by cases h), fun _ => HF2.out⟩, by simp [intOf]⟩
theorem rtimes_any (a n : Int) (w : World) (ha : fits a) (h0 : -9223372036854775808 ≤ n) (h1 : n ≤ 9223372036854775807) :
    Calls Try.prog 36 #[.agg #[.int .i64 (lb a 0), .int .i64 (lb a 1), .int .i64 (lb a 2), .int .i64 (lb a 3), .int .i64 (lb a 4), .int .i64 (lb a 5), .int .i64 (lb a 6), .int .i64 (lb a 7)], .int .i64 n] w fun e w' => e = .returned (.tuple #[.agg #[.int .i64 (lb (sumOf (a * n)) 0), .int .i64 (lb (sumOf (a * n)) 1), .int .i64 (lb (sumOf (a * n)) 2), .int .i64 (lb (sumOf (a * n)) 3), .int .i64 (lb (sumOf (a * n)) 4), .int .i64 (lb (sumOf (a * n)) 5), .int .i64 (lb (sumOf (a * n)) 6), .int .i64 (lb (sumOf (a * n)) 7)], .bool (decide (fits (a * n)))]) ∧ Below w.heap.size w w' := by
  rcases (show n < 0 ∨ n = 0 ∨ 0 < n by omega) with h | h | h
  · exact rtimes_neg a n w ha h h0
  · subst h
    have hf : fits (a * 0) := by rw [Int.mul_zero]; decide
    rw [sumOf_yes hf, decide_eq_true hf, Int.mul_zero]
    have E := (Eight.zero (w := w.alloc (.cells #[.int .i64 (lb a 0), .int .i64 (lb a 1), .int .i64 (lb a 2), .int .i64 (lb a 3), .int .i64 (lb a 4), .int .i64 (lb a 5), .int .i64 (lb a 6), .int .i64 (lb a 7)] 44)) (n := w.heap.size + 1) (by simp) 44).al (.cells #[.int .i64 0, .int .i64 0, .int .i64 0, .int .i64 0, .int .i64 0, .int .i64 0, .int .i64 0, .int .i64 0] 44)
    obtain ⟨r0, r1, r2, r3, r4, r5, r6, r7, _⟩ := eight_cells E
    clear E hf ha
    go_enter Try.func36, Try.ntmps36
    go_wp2
    exact bodyPost_ret (v := .tuple #[.agg #[.int .i64 0, .int .i64 0, .int .i64 0, .int .i64 0, .int .i64 0, .int .i64 0, .int .i64 0, .int .i64 0], .bool true]) (by simp only [results, Try.results36]; simp [go_sem, r0, r1, r2, r3, r4, r5, r6, r7]) rfl ⟨by simp only [lb_zero], (((Below.refl _ _).alloc (Nat.le_refl _) _).alloc (by simp) _).alloc (by simp; omega) _⟩
  · exact rtimes_pos a n w ha h h1
end Go.Proofs.Ytljepnonigjcbaa

/- The contract of tidemillref07.Text. -/
import Derived.Test.YtohgpllonbplfaaDoorRefLimbs
import Derived.Test.YtohgpllonbplfaaDoorArrEq
import Derived.Test.YtohgpllonbplfaaDoorDecMath
import Derived.Test.YtohgpllonbplfaaDoorWideTimesMath
import Derived.Lib.Strings
namespace Go.Proofs.YtohgpllonbplfaaDoor
open Go Go.RowKit
set_option linter.unusedVariables false

theorem qt_ten (u : Int) (k : Nat) : qt (u / 10) k = qt u k / 10 := by
  induction k with
  | zero => rfl
  | succ k ih => simp only [qt, ih]; omega
theorem ten_step (u : Int) (k : Nat) : (qt u (k + 1) % 10 * 65536 + lb u k) / 10 = lb (u / 10) k ∧ (qt u (k + 1) % 10 * 65536 + lb u k) % 10 = qt u k % 10 := by
  unfold lb
  rw [qt_ten]
  simp only [qt]
  omega
theorem qt_eight (u : Int) (h0 : 0 ≤ u) (h1 : u < 340282366920938463463374607431768211456) : qt u 8 = 0 := by simp only [qt]; omega
theorem lb_all (u : Int) (h0 : 0 ≤ u) (h1 : u < 340282366920938463463374607431768211456) (h : ∀ k, k < 8 → lb u k = 0) : u = 0 := by
  have a := whole_lo u; have b := whole_hi u
  rw [h 0 (by omega), h 1 (by omega), h 2 (by omega), h 3 (by omega)] at a
  rw [h 4 (by omega), h 5 (by omega), h 6 (by omega), h 7 (by omega)] at b
  have := upW_hi u
  have := up_lo u h0 h1
  omega
theorem none_lb (u : Int) (h0 : 0 ≤ u) (h1 : u < 340282366920938463463374607431768211456) (h : u ≠ 0) (w : World) : (Op.equalIn 10000 28 (.agg #[.int .i64 (lb u 0), .int .i64 (lb u 1), .int .i64 (lb u 2), .int .i64 (lb u 3), .int .i64 (lb u 4), .int .i64 (lb u 5), .int .i64 (lb u 6), .int .i64 (lb u 7)]) (.agg #[.int .i64 0, .int .i64 0, .int .i64 0, .int .i64 0, .int .i64 0, .int .i64 0, .int .i64 0, .int .i64 0])).run Tryd.prog w = .ok false w := by
  have e := eq8 (fun i => lb u i) (fun _ => 0) w
  have hf : [0, 1, 2, 3, 4, 5, 6, 7].all (fun i => lb u i == 0) = false := by
    rw [Bool.eq_false_iff]
    intro ht
    apply h
    apply lb_all u h0 h1
    intro k hk
    have := List.all_eq_true.1 ht k (by simp; omega)
    simpa using this
  rw [hf] at e
  exact e
theorem none_0 (w : World) : (Op.equalIn 10000 28 (.agg #[.int .i64 (lb 0 0), .int .i64 (lb 0 1), .int .i64 (lb 0 2), .int .i64 (lb 0 3), .int .i64 (lb 0 4), .int .i64 (lb 0 5), .int .i64 (lb 0 6), .int .i64 (lb 0 7)]) (.agg #[.int .i64 0, .int .i64 0, .int .i64 0, .int .i64 0, .int .i64 0, .int .i64 0, .int .i64 0, .int .i64 0])).run Tryd.prog w = .ok true w := by
  have e := eq8_same (fun _ => 0) w
  simp only [lb_zero]
  exact e
theorem none_lbs (a : Int) (h : fits a) (h0 : a ≠ 0) (w : World) : (Op.equalIn 10000 28 (.agg #[.int .i64 (lb a 0), .int .i64 (lb a 1), .int .i64 (lb a 2), .int .i64 (lb a 3), .int .i64 (lb a 4), .int .i64 (lb a 5), .int .i64 (lb a 6), .int .i64 (lb a 7)]) (.agg #[.int .i64 0, .int .i64 0, .int .i64 0, .int .i64 0, .int .i64 0, .int .i64 0, .int .i64 0, .int .i64 0])).run Tryd.prog w = .ok false w := by
  have e := eq8 (fun i => lb a i) (fun _ => 0) w
  have hf : [0, 1, 2, 3, 4, 5, 6, 7].all (fun i => lb a i == 0) = false := by
    rw [Bool.eq_false_iff]
    intro ht
    apply h0
    refine lb_inj a 0 h (by decide) ?_
    intro k hk
    have := List.all_eq_true.1 ht k (by simp; omega)
    rw [lb_zero]
    simpa using this
  rw [hf] at e
  exact e
def mix (u : Int) (k j : Nat) : Int := if j < k then lb u j else lb (u / 10) j
def InRel (w : World) (g : Nat) (u : Int) (v5 v6 : Value) (wr : World) : Prop :=
  ∃ k : Nat, k ≤ 8 ∧ v5 = .int .i64 (qt u k % 10) ∧ v6 = .int .i64 ((k : Int) - 1) ∧ Eight wr g (mix u k) ∧ Below w.heap.size w wr
def OutRel (w : World) (g : Nat) (L : List UInt8) (v4 : Value) (wr : World) : Prop :=
  ∃ (u : Nat) (S : List UInt8), v4 = .string ⟨S.toArray⟩ ∧ digs u ++ S = L ∧ u < 340282366920938463463374607431768211456 ∧ Eight wr g (lb u) ∧ Below w.heap.size w wr
theorem one_digit (d : Nat) (h : d < 10) (w : World) : (Instr.slice 9 (.string ⟨#[48, 49, 50, 51, 52, 53, 54, 55, 56, 57]⟩) (some (.int .i64 d)) (some (.int .i64 ((d : Int) + 1))) none).run Tryd.prog w = .ok (.string ⟨#[UInt8.ofNat (48 + d)]⟩) w := by
  rcases (show d = 0 ∨ d = 1 ∨ d = 2 ∨ d = 3 ∨ d = 4 ∨ d = 5 ∨ d = 6 ∨ d = 7 ∨ d = 8 ∨ d = 9 by omega) with rfl | rfl | rfl | rfl | rfl | rfl | rfl | rfl | rfl | rfl <;> kernel_rfl
def strSi : Value → Nat
  | .string s => s.size
  | _ => 0
set_option maxRecDepth 100000 in
set_option maxHeartbeats 4000000 in
theorem rtext_zero (w : World) :
    Calls Tryd.prog 9 #[.agg #[.int .i64 (lb 0 0), .int .i64 (lb 0 1), .int .i64 (lb 0 2), .int .i64 (lb 0 3), .int .i64 (lb 0 4), .int .i64 (lb 0 5), .int .i64 (lb 0 6), .int .i64 (lb 0 7)]] w fun e w' => e = .returned (.string ⟨#[48]⟩) ∧ Below w.heap.size w w' := by
  have hq := none_0
  go_enter Tryd.func9, Tryd.ntmps9
  go_wp2_with fail
  go_ret
  exact ⟨rfl, (Below.refl _ _).alloc (Nat.le_refl _) _⟩
set_option maxRecDepth 100000 in
set_option maxHeartbeats 4000000 in
theorem rtext_neg (a : Int) (w : World) (ha : fits a) (hn : a < 0) :
    Calls Tryd.prog 9 #[.agg #[.int .i64 (lb a 0), .int .i64 (lb a 1), .int .i64 (lb a 2), .int .i64 (lb a 3), .int .i64 (lb a 4), .int .i64 (lb a 5), .int .i64 (lb a 6), .int .i64 (lb a 7)]] w fun e w' => e = .returned (.string ⟨(textL a).toArray⟩) ∧ Below w.heap.size w w' := by
  obtain ⟨T, hT⟩ : ∃ T, T = (⟨(textL a).toArray⟩ : ByteArray) := ⟨_, rfl⟩
  rw [← hT]
  have hq := none_lbs a ha (by omega)
  have dn : decide (32768 ≤ lb a 7) = true := by rw [decide_eq_true_iff, lb_top a ha]; exact hn
  have HNEG := Lib.hid (fun w => neg_any a w)
  rw [dn] at HNEG
  have HMIN := Lib.hid (fun w => rminus_any a w)
  obtain ⟨v, hv⟩ : ∃ v : Nat, -a = (v : Int) := ⟨(-a).toNat, by omega⟩
  have hvb : v < 10 ^ 39 := by unfold fits at ha; omega
  have hvc : v < 340282366920938463463374607431768211456 := by unfold fits at ha; omega
  rw [hv] at HMIN
  have hte : textL a = 45 :: digs v := by unfold textL; rw [if_neg (by omega), if_pos hn, show a.natAbs = v by omega]
  obtain ⟨L, hL⟩ : ∃ L, L = digs v := ⟨_, rfl⟩
  have hL39 : L.length ≤ 39 := by rw [hL]; have := lowD_length 39 v hvb; simpa [digs] using this
  have HHT := Lib.hid (show T = ⟨#[45]⟩ ++ ⟨L.toArray⟩ by rw [hT, hte, hL]; apply ByteArray.ext; simp)
  have HL := Lib.hid hL.symm; clear hT hte hL
  clear dn
  have E0 := Lib.hid (Eight.new (w := w) rfl 28 (lb a))
  go_enter Tryd.func9, Tryd.ntmps9
  go_wp2_with fail
  with_reducible refine (HNEG.out _).mono ?_
  rintro e w1 ⟨rfl, hw1⟩
  have E1 := Lib.hid (show Eight w1 w.heap.size (lb a) by rw [← hw1]; exact E0.out.al _)
  have hB : Below w.heap.size w w1 := by rw [← hw1]; exact ((Below.refl w.heap.size w).alloc (Nat.le_refl _) _).alloc (by simp) _
  clear hw1 E0 HNEG
  obtain ⟨r0, r1, r2, r3, r4, r5, r6, r7, _⟩ := eight_cells E1.out
  go_wp2_with fail
  with_reducible refine (HMIN.out _).mono ?_
  rintro e w2 ⟨rfl, hb⟩
  have E2 := E1.out.be hb
  replace hB := bel_store (bel_step hB (Nat.le_refl _) hb) (Nat.le_refl w.heap.size) (lb v)
  clear hb HMIN E1 r0 r1 r2 r3 r4 r5 r6 r7
  obtain ⟨z0, z1, z2, z3, z4, z5, z6, z7, f0, f1, f2, f3, f4, f5, f6, f7⟩ := eight_cells E2
  replace E2 := Lib.hid (eight_store E2 (lb v))
  go_wp2_with fail
  go_loopw [4] (OutRel w w.heap.size L) (fun s _ => 40 - strSi s)
  case atStart => exact ⟨v, [], rfl, by rw [List.append_nil, HL.out], hvc, E2.out, hB⟩
  case round =>
    clear E2 hB
    obtain ⟨u, S, rfl, hS, hu, E, hB⟩ := hrel
    obtain ⟨r0, r1, r2, r3, r4, r5, r6, r7, _⟩ := eight_cells E
    have hlen : S.length ≤ 39 := by rw [← hS] at hL39; simp at hL39; omega
    by_cases hu0 : u = 0
    · subst hu0
      rw [digs_zero, List.nil_append] at hS
      have hq0 := none_0
      subst hS
      obtain ⟨t, ht⟩ : ∃ t : ByteArray, t = ⟨S.toArray⟩ := ⟨_, rfl⟩
      have hts : t.size ≤ 40 := by rw [ht]; simp [ByteArray.size]; omega
      rw [← ht] at HHT ⊢
      have n3 : ¬ 9223372036854775807 < 1 + t.size := by omega
      clear ht
      go_wp2_with fail
      go_ret
      exact ⟨by rw [HHT.out]; rfl, hB⟩
    · have hqu := none_lb u (by omega) (by omega) (by omega)
      have HS := Lib.hid hS
      have HE := Lib.hid E
      clear hS E
      go_wp2_with fail
      go_loopw [5, 6] (InRel w w.heap.size u) (fun _ i _ => (intOf i + 1).toNat)
      case atStart =>
        refine ⟨8, by omega, ?_, rfl, HE.out.congr (fun j hj => ?_), hB⟩
        · rw [qt_eight u (by omega) (by omega)]; rfl
        · unfold mix; rw [if_pos hj]
      case round =>
        clear hB
        obtain ⟨k, hk, rfl, rfl, EM, hB⟩ := hrel
        rcases (show k = 0 ∨ ∃ k1, k = k1 + 1 by rcases k with _ | k1; exact .inl rfl; exact .inr ⟨k1, rfl⟩) with rfl | ⟨k, rfl⟩
        · have ed : qt (u : Int) 0 % 10 = ((u % 10 : Nat) : Int) := by simp only [qt]; omega
          rw [ed]
          clear ed
          obtain ⟨d, hd⟩ : ∃ d, d = u % 10 := ⟨_, rfl⟩
          have hd10 : d < 10 := by omega
          have hx := one_digit d hd10
          have n4 : ¬ 9223372036854775807 < 1 + S.length := by omega
          have hy : UInt8.ofNat (48 + d) = dig u := by unfold dig; rw [hd]
          rw [hy] at hx
          clear hy
          rw [← hd]
          have hw1 : IntKind.i64.wrap ((d : Int) + 1) = ((d + 1 : Nat) : Int) := by rw [IntWalk.i64_in _ (by omega)]; omega
          have HM := Lib.hid (EM.congr (f' := lb ((u / 10 : Nat) : Int)) (fun j hj => by unfold mix; rw [if_neg (by omega), show ((u / 10 : Nat) : Int) = (u : Int) / 10 by omega]))
          have HD := Lib.hid hd
          clear EM hd hqu r0 r1 r2 r3 r4 r5 r6 r7
          go_wp2_with fail
          have e1 : (⟨#[dig u]⟩ : ByteArray) ++ ⟨S.toArray⟩ = ⟨(dig u :: S).toArray⟩ := by apply ByteArray.ext; simp
          have e2 := HS.out
          rw [digs_pos hu0] at e2
          rw [e1]
          refine ⟨⟨u / 10, dig u :: S, rfl, by rw [← e2]; simp, by omega, HM.out, hB⟩, ?_⟩
          simp [strSi, ByteArray.size]
          omega
        · have e1 : (((k + 1 : Nat) : Int) - 1) = (k : Int) := by omega
          rw [e1]
          clear e1
          have T1 := ten_step u k
          have b0 := lb_bd u k
          have b1 := lb_bd ((u : Int) / 10) k
          have c0 := (EM k (by omega)).1
          have f0 := (EM k (by omega)).2
          have em : mix u (k + 1) k = lb u k := by unfold mix; rw [if_pos (by omega)]
          rw [em] at c0
          obtain ⟨c, hc⟩ : ∃ c, c = qt (u : Int) (k + 1) % 10 := ⟨_, rfl⟩
          have hc0 : 0 ≤ c ∧ c ≤ 9 := by omega
          obtain ⟨x, hx⟩ : ∃ x, x = lb u k := ⟨_, rfl⟩
          rw [← hc, ← hx] at T1
          rw [← hx] at c0 b0
          rw [← hc]
          obtain ⟨hc00, hc01⟩ := hc0
          obtain ⟨b00, b01⟩ := b0
          obtain ⟨T10, T11⟩ := T1
          have w1' : IntKind.i64.wrap (c * 65536) = c * 65536 := IntWalk.i64_in _ (by omega)
          have w2' : IntKind.i64.wrap (c * 65536 + x) = c * 65536 + x := IntWalk.i64_in _ (by omega)
          have t1' : (c * 65536 + x).tdiv 10 = lb ((u : Int) / 10) k := by rw [Int.tdiv_eq_ediv_of_nonneg (by omega), T10]
          have t2' : (c * 65536 + x).tmod 10 = qt (u : Int) k % 10 := by rw [Int.tmod_eq_emod_of_nonneg (by omega), T11]
          have w3' : IntKind.i64.wrap (lb ((u : Int) / 10) k) = lb ((u : Int) / 10) k := IntWalk.i64_in _ (by omega)
          have w4' : IntKind.i64.wrap ((k : Int) - 1) = (k : Int) - 1 := IntWalk.i64_in _ (by omega)
          obtain ⟨y, hy⟩ : ∃ y, y = lb ((u : Int) / 10) k := ⟨_, rfl⟩
          obtain ⟨z, hz⟩ : ∃ z, z = qt (u : Int) k % 10 := ⟨_, rfl⟩
          rw [← hy] at t1' w3'
          rw [← hz] at t2'
          have i0 : (0 : Int) ≤ (k : Int) := Int.natCast_nonneg _
          have i1 : (k : Int) < 8 := by omega
          have HY := Lib.hid hy
          have HZ := Lib.hid hz
          have HM := Lib.hid EM
          clear hc hx hy hz T10 T11 EM em b1 hqu r0 r1 r2 r3 r4 r5 r6 r7
          go_wp2_with fail
          refine ⟨⟨k, by omega, by rw [HZ.out], rfl, (HM.out.set (by omega) y).congr (fun j hj => ?_), hB.setCell (Nat.le_refl _) _⟩, by simp only [intOf]; omega⟩
          by_cases e : j = k
          · rw [if_pos e, HY.out]; unfold mix; rw [if_neg (by omega), e]
          · rw [if_neg e]; unfold mix
            by_cases e2 : j < k
            · rw [if_pos e2, if_pos (by omega)]
            · rw [if_neg e2, if_neg (by omega)]
set_option maxRecDepth 100000 in
set_option maxHeartbeats 4000000 in
theorem rtext_pos (a : Int) (w : World) (ha : fits a) (hn : 0 < a) :
    Calls Tryd.prog 9 #[.agg #[.int .i64 (lb a 0), .int .i64 (lb a 1), .int .i64 (lb a 2), .int .i64 (lb a 3), .int .i64 (lb a 4), .int .i64 (lb a 5), .int .i64 (lb a 6), .int .i64 (lb a 7)]] w fun e w' => e = .returned (.string ⟨(textL a).toArray⟩) ∧ Below w.heap.size w w' := by
  obtain ⟨T, hT⟩ : ∃ T, T = (⟨(textL a).toArray⟩ : ByteArray) := ⟨_, rfl⟩
  rw [← hT]
  have hq := none_lbs a ha (by omega)
  have dn : decide (32768 ≤ lb a 7) = false := by rw [decide_eq_false_iff_not, lb_top a ha]; omega
  have HNEG := Lib.hid (fun w => neg_any a w)
  rw [dn] at HNEG
  obtain ⟨v, hv⟩ : ∃ v : Nat, a = (v : Int) := ⟨a.toNat, by omega⟩
  have hvb : v < 10 ^ 39 := by unfold fits at ha; omega
  have hvc : v < 340282366920938463463374607431768211456 := by unfold fits at ha; omega
  have hte : textL a = digs v := by unfold textL; rw [if_neg (by omega), if_neg (by omega), show a.natAbs = v by omega]
  obtain ⟨L, hL⟩ : ∃ L, L = digs v := ⟨_, rfl⟩
  have hL39 : L.length ≤ 39 := by rw [hL]; have := lowD_length 39 v hvb; simpa [digs] using this
  have HHT := Lib.hid (show T = ⟨L.toArray⟩ by rw [hT, hte, hL])
  have HL := Lib.hid hL.symm; clear hT hte hL
  clear dn
  have HV := Lib.hid hv; clear hv
  have E0 := Lib.hid (Eight.new (w := w) rfl 28 (lb a))
  go_enter Tryd.func9, Tryd.ntmps9
  go_wp2_with fail
  with_reducible refine (HNEG.out _).mono ?_
  rintro e w1 ⟨rfl, hw1⟩
  have E1 := Lib.hid (show Eight w1 w.heap.size (lb a) by rw [← hw1]; exact E0.out.al _)
  have hB : Below w.heap.size w w1 := by rw [← hw1]; exact ((Below.refl w.heap.size w).alloc (Nat.le_refl _) _).alloc (by simp) _
  clear hw1 E0 HNEG
  have E2 := Lib.hid (show Eight w1 w.heap.size (lb v) by rw [← HV.out]; exact E1.out)
  clear E1
  go_wp2_with fail
  go_loopw [4] (OutRel w w.heap.size L) (fun s _ => 40 - strSi s)
  case atStart => exact ⟨v, [], rfl, by rw [List.append_nil, HL.out], hvc, E2.out, hB⟩
  case round =>
    clear E2 hB
    obtain ⟨u, S, rfl, hS, hu, E, hB⟩ := hrel
    obtain ⟨r0, r1, r2, r3, r4, r5, r6, r7, _⟩ := eight_cells E
    have hlen : S.length ≤ 39 := by rw [← hS] at hL39; simp at hL39; omega
    by_cases hu0 : u = 0
    · subst hu0
      rw [digs_zero, List.nil_append] at hS
      have hq0 := none_0
      subst hS
      obtain ⟨t, ht⟩ : ∃ t : ByteArray, t = ⟨S.toArray⟩ := ⟨_, rfl⟩
      have hts : t.size ≤ 40 := by rw [ht]; simp [ByteArray.size]; omega
      rw [← ht] at HHT ⊢
      have n3 : ¬ 9223372036854775807 < 1 + t.size := by omega
      clear ht
      go_wp2_with fail
      go_ret
      exact ⟨by rw [HHT.out]; rfl, hB⟩
    · have hqu := none_lb u (by omega) (by omega) (by omega)
      have HS := Lib.hid hS
      have HE := Lib.hid E
      clear hS E
      go_wp2_with fail
      go_loopw [5, 6] (InRel w w.heap.size u) (fun _ i _ => (intOf i + 1).toNat)
      case atStart =>
        refine ⟨8, by omega, ?_, rfl, HE.out.congr (fun j hj => ?_), hB⟩
        · rw [qt_eight u (by omega) (by omega)]; rfl
        · unfold mix; rw [if_pos hj]
      case round =>
        clear hB
        obtain ⟨k, hk, rfl, rfl, EM, hB⟩ := hrel
        rcases (show k = 0 ∨ ∃ k1, k = k1 + 1 by rcases k with _ | k1; exact .inl rfl; exact .inr ⟨k1, rfl⟩) with rfl | ⟨k, rfl⟩
        · have ed : qt (u : Int) 0 % 10 = ((u % 10 : Nat) : Int) := by simp only [qt]; omega
          rw [ed]
          clear ed
          obtain ⟨d, hd⟩ : ∃ d, d = u % 10 := ⟨_, rfl⟩
          have hd10 : d < 10 := by omega
          have hx := one_digit d hd10
          have n4 : ¬ 9223372036854775807 < 1 + S.length := by omega
          have hy : UInt8.ofNat (48 + d) = dig u := by unfold dig; rw [hd]
          rw [hy] at hx
          clear hy
          rw [← hd]
          have hw1 : IntKind.i64.wrap ((d : Int) + 1) = ((d + 1 : Nat) : Int) := by rw [IntWalk.i64_in _ (by omega)]; omega
          have HM := Lib.hid (EM.congr (f' := lb ((u / 10 : Nat) : Int)) (fun j hj => by unfold mix; rw [if_neg (by omega), show ((u / 10 : Nat) : Int) = (u : Int) / 10 by omega]))
          have HD := Lib.hid hd
          clear EM hd hqu r0 r1 r2 r3 r4 r5 r6 r7
          go_wp2_with fail
          have e1 : (⟨#[dig u]⟩ : ByteArray) ++ ⟨S.toArray⟩ = ⟨(dig u :: S).toArray⟩ := by apply ByteArray.ext; simp
          have e2 := HS.out
          rw [digs_pos hu0] at e2
          rw [e1]
          refine ⟨⟨u / 10, dig u :: S, rfl, by rw [← e2]; simp, by omega, HM.out, hB⟩, ?_⟩
          simp [strSi, ByteArray.size]
          omega
        · have e1 : (((k + 1 : Nat) : Int) - 1) = (k : Int) := by omega
          rw [e1]
          clear e1
          have T1 := ten_step u k
          have b0 := lb_bd u k
          have b1 := lb_bd ((u : Int) / 10) k
          have c0 := (EM k (by omega)).1
          have f0 := (EM k (by omega)).2
          have em : mix u (k + 1) k = lb u k := by unfold mix; rw [if_pos (by omega)]
          rw [em] at c0
          obtain ⟨c, hc⟩ : ∃ c, c = qt (u : Int) (k + 1) % 10 := ⟨_, rfl⟩
          have hc0 : 0 ≤ c ∧ c ≤ 9 := by omega
          obtain ⟨x, hx⟩ : ∃ x, x = lb u k := ⟨_, rfl⟩
          rw [← hc, ← hx] at T1
          rw [← hx] at c0 b0
          rw [← hc]
          obtain ⟨hc00, hc01⟩ := hc0
          obtain ⟨b00, b01⟩ := b0
          obtain ⟨T10, T11⟩ := T1
          have w1' : IntKind.i64.wrap (c * 65536) = c * 65536 := IntWalk.i64_in _ (by omega)
          have w2' : IntKind.i64.wrap (c * 65536 + x) = c * 65536 + x := IntWalk.i64_in _ (by omega)
          have t1' : (c * 65536 + x).tdiv 10 = lb ((u : Int) / 10) k := by rw [Int.tdiv_eq_ediv_of_nonneg (by omega), T10]
          have t2' : (c * 65536 + x).tmod 10 = qt (u : Int) k % 10 := by rw [Int.tmod_eq_emod_of_nonneg (by omega), T11]
          have w3' : IntKind.i64.wrap (lb ((u : Int) / 10) k) = lb ((u : Int) / 10) k := IntWalk.i64_in _ (by omega)
          have w4' : IntKind.i64.wrap ((k : Int) - 1) = (k : Int) - 1 := IntWalk.i64_in _ (by omega)
          obtain ⟨y, hy⟩ : ∃ y, y = lb ((u : Int) / 10) k := ⟨_, rfl⟩
          obtain ⟨z, hz⟩ : ∃ z, z = qt (u : Int) k % 10 := ⟨_, rfl⟩
          rw [← hy] at t1' w3'
          rw [← hz] at t2'
          have i0 : (0 : Int) ≤ (k : Int) := Int.natCast_nonneg _
          have i1 : (k : Int) < 8 := by omega
          have HY := Lib.hid hy
          have HZ := Lib.hid hz
          have HM := Lib.hid EM
          clear hc hx hy hz T10 T11 EM em b1 hqu r0 r1 r2 r3 r4 r5 r6 r7
          go_wp2_with fail
          refine ⟨⟨k, by omega, by rw [HZ.out], rfl, (HM.out.set (by omega) y).congr (fun j hj => ?_), hB.setCell (Nat.le_refl _) _⟩, by simp only [intOf]; omega⟩
          by_cases e : j = k
          · rw [if_pos e, HY.out]; unfold mix; rw [if_neg (by omega), e]
          · rw [if_neg e]; unfold mix
            by_cases e2 : j < k
            · rw [if_pos e2, if_pos (by omega)]
            · rw [if_neg e2, if_neg (by omega)]
end Go.Proofs.YtohgpllonbplfaaDoor

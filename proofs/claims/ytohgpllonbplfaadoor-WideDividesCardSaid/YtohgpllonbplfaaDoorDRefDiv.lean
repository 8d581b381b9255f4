/- The contract of tidemillref07.Div, bit by bit (cut out of the texts of law07 and law23). -/
import Derived.Test.YtohgpllonbplfaaDoorRefLimbs
import Derived.Test.YtohgpllonbplfaaDoorRefDivMath
import Derived.Deep.RegionHeld3
namespace Go.Proofs.YtohgpllonbplfaaDoor
open Go.RowKit
set_option linter.unusedVariables false

theorem eight_dr {w : World} {g : Nat} {f : Nat → Int} (h : Eight w g f) : Eight w.drew g f := h
theorem eight_set {w : World} {g g' k : Nat} {f : Nat → Int} {v : Value} (h : Eight w g f) (hne : g ≠ g') : Eight (w.setCell ⟨g', k, none⟩ v) g f := fun j hj =>
  ⟨by rw [World.cell?_of_block (Below.heap_setCell w ⟨g', k, none⟩ v g (by simpa using hne))]; exact (h j hj).1, by rw [World.frozen?_setCell]; exact (h j hj).2⟩
theorem cset {w : World} {b o b' o' : Nat} {u v : Value} (h : w.cell? ⟨b, o, none⟩ = some v) (hne : b ≠ b') : (w.setCell ⟨b', o', none⟩ u).cell? ⟨b, o, none⟩ = some v := by
  rw [World.cell?_of_block (Below.heap_setCell w ⟨b', o', none⟩ u b (by simpa using hne))]; exact h
theorem eight_far {W : World} {g g' : Nat} {f : Nat → Int} (h : Eight W g f) (hne : g ≠ g') (s : Nat → Int) : Eight (((((((((W.setCell ⟨g', 0, none⟩ (.int .i64 (s 0))).setCell ⟨g', 1, none⟩ (.int .i64 (s 1))).setCell ⟨g', 2, none⟩ (.int .i64 (s 2))).setCell ⟨g', 3, none⟩ (.int .i64 (s 3))).setCell ⟨g', 4, none⟩ (.int .i64 (s 4))).setCell ⟨g', 5, none⟩ (.int .i64 (s 5))).setCell ⟨g', 6, none⟩ (.int .i64 (s 6))).setCell ⟨g', 7, none⟩ (.int .i64 (s 7)))) g f :=
  eight_set (eight_set (eight_set (eight_set (eight_set (eight_set (eight_set (eight_set h hne) hne) hne) hne) hne) hne) hne) hne
theorem rminus_one (w : World) :
    Calls Tryd.prog 19 #[.agg #[.int .i64 1, .int .i64 0, .int .i64 0, .int .i64 0, .int .i64 0, .int .i64 0, .int .i64 0, .int .i64 0]] w fun e w' => e = .returned (.agg #[.int .i64 (lb (-1) 0), .int .i64 (lb (-1) 1), .int .i64 (lb (-1) 2), .int .i64 (lb (-1) 3), .int .i64 (lb (-1) 4), .int .i64 (lb (-1) 5), .int .i64 (lb (-1) 6), .int .i64 (lb (-1) 7)]) ∧ Below w.heap.size w w' := by
  have h := rminus_any 1 w
  rw [show lb 1 0 = 1 by decide, show lb 1 1 = 0 by decide, show lb 1 2 = 0 by decide, show lb 1 3 = 0 by decide, show lb 1 4 = 0 by decide, show lb 1 5 = 0 by decide, show lb 1 6 = 0 by decide, show lb 1 7 = 0 by decide] at h
  exact h
/-- the call's own blocks: the number, the result, the quotient so far -/
structure DivAt (w : World) (g : Nat) (m q : Int) (wx : World) : Prop where
  bel : Below w.heap.size w wx
  e2 : Eight wx w.heap.size (lb m)
  e4 : Eight wx (w.heap.size + 1) (fun _ => 0)
  e7 : Eight wx g (lb q)
  hg : w.heap.size + 1 < g
theorem DivAt.step {w wx wy : World} {g : Nat} {m q : Int} (h : DivAt w g m q wx) (hb : Below wx.heap.size wx wy) : DivAt w g m q wy :=
  ⟨h.bel.trans (hb.mono h.bel.size), h.e2.be hb, h.e4.be hb, h.e7.be hb, h.hg⟩
theorem DivAt.set {w wx : World} {g : Nat} {m n : Int} {k : Nat} (h : DivAt w g m (qAt m n (k + 1)) wx) (hk : k < 128) :
    DivAt w g m (qAt m n (k + 1) + 2 ^ k) (wx.setCell ⟨g, k / 16, none⟩ (.int .i64 (lb (qAt m n (k + 1)) (k / 16) + 2 ^ (k % 16)))) := by
  have := h.hg
  refine ⟨h.bel.setCell (p := ⟨g, k / 16, none⟩) (show w.heap.size ≤ g by omega) _, eight_set h.e2 (by omega), eight_set h.e4 (by omega), ?_, h.hg⟩
  refine (h.e7.set (k := k / 16) (by omega) _).congr (fun j hj => ?_)
  rw [lb_set m n k j]
  by_cases e : j = k / 16
  · rw [if_pos e, if_pos e, e]
  · rw [if_neg e, if_neg e, Int.add_zero]
def DivRel (w : World) (g : Nat) (m n : Int) (r i : Value) (wr : World) : Prop :=
  ∃ k : Nat, k ≤ 128 ∧ i = .int .i64 ((k : Int) - 1) ∧ r = .int .u64 (rAt m n k) ∧ DivAt w g m (qAt m n k) wr
theorem neg_div (a m n : Int) (hm : m = -a) (hn : 0 < n) : (0 < m % n → a / n = -(m / n) + -1 ∧ a % n = n - m % n) ∧ (m % n = 0 → a / n = -(m / n) ∧ a % n = 0) := by
  have h0 := Int.emod_nonneg m (show n ≠ 0 by omega)
  have h1 := Int.emod_lt_of_pos m hn
  have hM := Int.emod_add_mul_ediv m n
  have un : ∀ q r : Int, a = n * q + r → 0 ≤ r → r < n → a / n = q ∧ a % n = r := fun q r e h2 h3 => by
    rw [e, Int.add_comm]
    exact ⟨by rw [Int.add_mul_ediv_left _ _ (by omega), Int.ediv_eq_zero_of_lt h2 h3]; omega, by rw [Int.add_mul_emod_self_left, Int.emod_eq_of_lt h2 h3]⟩
  constructor
  · intro h
    refine un _ _ ?_ (by omega) (by omega)
    rw [Int.mul_add, Int.mul_neg, Int.mul_neg, Int.mul_one]
    generalize n * (m / n) = t at *
    omega
  · intro h
    refine un _ _ ?_ (by omega) (by omega)
    rw [Int.mul_neg]
    generalize n * (m / n) = t at *
    omega
set_option maxRecDepth 100000 in
set_option maxHeartbeats 4000000 in
theorem rdiv_pos (a n : Int) (w : World) (ha : fits a) (hs : 0 ≤ a) (hn0 : 0 < n) (hn1 : n ≤ 9223372036854775807) :
    Calls Tryd.prog 11 #[.agg #[.int .i64 (lb a 0), .int .i64 (lb a 1), .int .i64 (lb a 2), .int .i64 (lb a 3), .int .i64 (lb a 4), .int .i64 (lb a 5), .int .i64 (lb a 6), .int .i64 (lb a 7)], .int .i64 n] w fun e w' => e = .returned (.tuple #[.agg #[.int .i64 (lb (a / n) 0), .int .i64 (lb (a / n) 1), .int .i64 (lb (a / n) 2), .int .i64 (lb (a / n) 3), .int .i64 (lb (a / n) 4), .int .i64 (lb (a / n) 5), .int .i64 (lb (a / n) 6), .int .i64 (lb (a / n) 7)], .int .i64 (a % n)]) ∧ Below w.heap.size w w' := by
  have dn : decide (32768 ≤ lb a 7) = false := by rw [decide_eq_false_iff_not, lb_top a ha]; omega
  obtain ⟨m, hm⟩ : ∃ m, m = a := ⟨_, rfl⟩
  have hm0 : 0 ≤ m ∧ m < 340282366920938463463374607431768211456 := by unfold fits at ha; omega
  have ATOP := Lib.hid (at_top m n hm0.1 hm0.2 hn0)
  have AEND := Lib.hid (at_end m n)
  have HNEG := Lib.hid (fun w => neg_any a w)
  obtain ⟨W0, hW0⟩ : ∃ W0, W0 = (w.alloc (.cells #[.int .i64 (lb a 0), .int .i64 (lb a 1), .int .i64 (lb a 2), .int .i64 (lb a 3), .int .i64 (lb a 4), .int .i64 (lb a 5), .int .i64 (lb a 6), .int .i64 (lb a 7)] 28)).alloc (.cells #[.int .i64 0, .int .i64 0, .int .i64 0, .int .i64 0, .int .i64 0, .int .i64 0, .int .i64 0, .int .i64 0] 28) := ⟨_, rfl⟩
  have B0 : Below w.heap.size w W0 := by rw [hW0]; exact ((Below.refl _ _).alloc (Nat.le_refl _) _).alloc (by simp) _
  have E2 : Eight W0 w.heap.size (lb a) := by rw [hW0]; exact (Eight.new rfl _ (lb a)).al _
  have E4 : Eight W0 (w.heap.size + 1) (fun _ => 0) := by rw [hW0]; exact Eight.zero (by simp) _
  have a0 := (E2 0 (by omega)).1
  have a1 := (E2 1 (by omega)).1
  have a2 := (E2 2 (by omega)).1
  have a3 := (E2 3 (by omega)).1
  have a4 := (E2 4 (by omega)).1
  have a5 := (E2 5 (by omega)).1
  have a6 := (E2 6 (by omega)).1
  have a7 := (E2 7 (by omega)).1
  have X2 := Lib.hid E2; have X4 := Lib.hid E4; clear E2 E4
  have HH := Lib.hid hW0; clear hW0
  go_enter Tryd.func11, Tryd.ntmps11
  go_wp2_with fail
  rw [← HH.out]
  clear HH
  with_reducible refine (HNEG.out _).mono ?_
  rintro e w1 ⟨rfl, hw1⟩
  rw [dn]
  have hb1 : Below W0.heap.size W0 w1 := by rw [← hw1]; exact (Below.refl _ _).alloc (Nat.le_refl _) _
  have E2 := X2.out.be hb1
  have E4 := X4.out.be hb1
  replace B0 := bel_step B0 (Nat.le_refl _) hb1
  clear hw1 hb1 X2 X4 HNEG
  clear a0 a1 a2 a3 a4 a5 a6 a7
  rw [← hm] at E2
  replace hm := Lib.hid hm
  replace hs := Lib.hid hs
  replace ha := Lib.hid ha
  have hlt := E4.lt
  have HS := Lib.hid (show DivAt w w1.heap.size m 0 (w1.alloc (.cells #[.int .i64 0, .int .i64 0, .int .i64 0, .int .i64 0, .int .i64 0, .int .i64 0, .int .i64 0, .int .i64 0] 28)) from ⟨B0.alloc B0.size _, E2.al _, E4.al _, (Eight.zero rfl _).congr (fun j hj => (lb_zero j).symm), hlt⟩)
  clear E2 E4
  go_wp2_with fail
  go_loopw [8, 9] (DivRel w w1.heap.size m n) (fun _ i _ => (intOf i + 1).toNat)
  case atStart => exact ⟨128, by omega, rfl, by rw [ATOP.out.1], by rw [ATOP.out.2]; exact HS.out⟩
  case round =>
    obtain ⟨k, hk, rfl, rfl, HD⟩ := hrel
    rcases (show k = 0 ∨ ∃ k1, k = k1 + 1 by rcases k with _ | k1; exact .inl rfl; exact .inr ⟨k1, rfl⟩) with rfl | ⟨k1, rfl⟩
    · rw [AEND.out.2] at HD
      rw [AEND.out.1]
      have e4 := HD.e4
      have c0 := (HD.e7 0 (by omega)).1
      have c1 := (HD.e7 1 (by omega)).1
      have c2 := (HD.e7 2 (by omega)).1
      have c3 := (HD.e7 3 (by omega)).1
      have c4 := (HD.e7 4 (by omega)).1
      have c5 := (HD.e7 5 (by omega)).1
      have c6 := (HD.e7 6 (by omega)).1
      have c7 := (HD.e7 7 (by omega)).1
      have z0 := (e4 0 (by omega)).1
      have zf0 := (e4 0 (by omega)).2
      have z1 := (e4 1 (by omega)).1
      have zf1 := (e4 1 (by omega)).2
      have z2 := (e4 2 (by omega)).1
      have zf2 := (e4 2 (by omega)).2
      have z3 := (e4 3 (by omega)).1
      have zf3 := (e4 3 (by omega)).2
      have z4 := (e4 4 (by omega)).1
      have zf4 := (e4 4 (by omega)).2
      have z5 := (e4 5 (by omega)).1
      have zf5 := (e4 5 (by omega)).2
      have z6 := (e4 6 (by omega)).1
      have zf6 := (e4 6 (by omega)).2
      have z7 := (e4 7 (by omega)).1
      have zf7 := (e4 7 (by omega)).2
      have hb := HD.bel
      clear HD
      replace e4 := Lib.hid e4
      have hmn := Int.emod_lt_of_pos m hn0
      have hmn0 := Int.emod_nonneg m (show n ≠ 0 by omega)
      have u9 : wrap64 (m % n) = m % n := by unfold wrap64; omega
      go_wp2_with fail
      have E := eight_store e4.out (lb (m / n))
      have r0 := (E 0 (by omega)).1
      have r1 := (E 1 (by omega)).1
      have r2 := (E 2 (by omega)).1
      have r3 := (E 3 (by omega)).1
      have r4 := (E 4 (by omega)).1
      have r5 := (E 5 (by omega)).1
      have r6 := (E 6 (by omega)).1
      have r7 := (E 7 (by omega)).1
      obtain rfl := hm.out
      exact bodyPost_ret (v := .tuple #[.agg #[.int .i64 (lb (m / n) 0), .int .i64 (lb (m / n) 1), .int .i64 (lb (m / n) 2), .int .i64 (lb (m / n) 3), .int .i64 (lb (m / n) 4), .int .i64 (lb (m / n) 5), .int .i64 (lb (m / n) 6), .int .i64 (lb (m / n) 7)], .int .i64 (m % n)]) (by simp only [results, Tryd.results11]; simp [go_sem, r0, r1, r2, r3, r4, r5, r6, r7]) rfl ⟨rfl, bel_store hb (by omega) (lb (m / n))⟩
    · have e1 : (((k1 + 1 : Nat) : Int) - 1) = (k1 : Int) := by omega
      rw [e1]
      clear e1
      obtain ⟨r, hr⟩ : ∃ r, r = rAt m n (k1 + 1) := ⟨_, rfl⟩
      obtain ⟨bt, hbt⟩ : ∃ bt, bt = bitAt m k1 := ⟨_, rfl⟩
      have hrb := rAt_bd m n (k1 + 1) hn0
      have hbb := bitAt_bd m k1
      have HLO := Lib.hid (at_low m n k1 hn0)
      have HHI := Lib.hid (at_high m n k1 hn0)
      have HSET := Lib.hid (HD.set (by omega))
      rw [← hr] at hrb HLO HHI ⊢
      rw [← hbt] at hbb HLO HHI
      obtain ⟨J, hJ⟩ : ∃ J, J = k1 / 16 := ⟨_, rfl⟩
      obtain ⟨s, hs⟩ : ∃ s, s = k1 % 16 := ⟨_, rfl⟩
      have eJ : Int.tdiv (k1 : Int) 16 = (J : Int) := by rw [Int.tdiv_eq_ediv_of_nonneg (by omega)]; omega
      have eS : Int.tmod (k1 : Int) 16 = (s : Int) := by rw [Int.tmod_eq_emod_of_nonneg (by omega)]; omega
      have eJ' : (k1 : Int) / 16 = (J : Int) := by omega
      have eS' : (k1 : Int) % 16 = (s : Int) := by omega
      have hJ8 : J < 8 := by omega
      have hs16 : s < 16 := by omega
      have c2 := (HD.e2 J hJ8).1
      have c7 := (HD.e7 J hJ8).1
      have f7 := (HD.e7 J hJ8).2
      have hget := lb_get m k1
      rw [← hJ, ← hs, ← hbt] at hget
      rw [← hJ, ← hs] at HSET
      obtain ⟨X, hX⟩ : ∃ X, X = lb m J / 2 ^ s := ⟨_, rfl⟩
      have hX0 : 0 ≤ X := by rw [hX]; exact Int.ediv_nonneg (lb_bd m J).1 (Int.le_of_lt (Int.pow_pos (by decide)))
      have eX : lb m J / 2 ^ s = X := hX.symm
      rw [← hX] at hget
      have eB : X.tmod 2 = bt := by rw [Int.tmod_eq_emod_of_nonneg hX0]; exact hget
      have hq := lb_bd (qAt m n (k1 + 1)) J
      have hp2 : 0 ≤ (2 : Int) ^ s ∧ (2 : Int) ^ s ≤ 32768 := by
        rcases (show s = 0 ∨ s = 1 ∨ s = 2 ∨ s = 3 ∨ s = 4 ∨ s = 5 ∨ s = 6 ∨ s = 7 ∨ s = 8 ∨ s = 9 ∨ s = 10 ∨ s = 11 ∨ s = 12 ∨ s = 13 ∨ s = 14 ∨ s = 15 by omega) with h | h | h | h | h | h | h | h | h | h | h | h | h | h | h | h <;> rw [h] <;> decide
      have HJ := Lib.hid hJ; have HS' := Lib.hid hs; have HR := Lib.hid hr; have HB := Lib.hid hbt
      clear hJ hs hr hbt hX hget
      have i0 : (0 : Int) ≤ (k1 : Int) := Int.natCast_nonneg _
      have j0 : (0 : Int) ≤ (J : Int) := Int.natCast_nonneg _
      have j1 : (J : Int) < 8 := by omega
      have s0 : (0 : Int) ≤ (s : Int) := Int.natCast_nonneg _
      have s1 : (s : Int) < 16 := by omega
      have u7 : ∀ x y : Int, 0 ≤ x → x ≤ 65535 → 0 ≤ y → y ≤ 32768 → wrap64 (x + y) = x + y := fun x y _ _ _ _ => by unfold wrap64; omega
      replace u7 := u7 _ _ hq.1 hq.2 hp2.1 hp2.2
      have u1 : IntKind.u64.wrap (r * 2) = r * 2 := IntWalk.u64_in _ (by omega)
      have u2 : IntKind.u64.wrap bt = bt := IntWalk.u64_in _ (by omega)
      have u3 : IntKind.u64.wrap (r * 2 + bt) = r * 2 + bt := IntWalk.u64_in _ (by omega)
      have u4 : IntKind.u64.wrap n = n := IntWalk.u64_in _ (by omega)
      have u5 : IntKind.u64.wrap (s : Int) = (s : Int) := IntWalk.u64_in _ (by omega)
      replace HD := Lib.hid HD
      by_cases hlt : r * 2 + bt < n
      · have hnl : ¬ n ≤ r * 2 + bt := by omega
        go_wp2_with fail
        obtain ⟨x1, x2⟩ := HLO.out (by omega)
        exact ⟨⟨k1, by omega, by go_num, by rw [x1]; congr 1; omega, by rw [x2]; exact HD.out⟩, by simp [intOf]⟩
      · have hnl : n ≤ r * 2 + bt := by omega
        have u6 : IntKind.u64.wrap (r * 2 + bt - n) = r * 2 + bt - n := IntWalk.u64_in _ (by omega)
        go_wp2_with fail
        obtain ⟨x1, x2⟩ := HHI.out (by omega)
        exact ⟨⟨k1, by omega, by go_num, by rw [x1]; congr 1; omega, by rw [x2]; exact HSET.out⟩, by simp [intOf]⟩
set_option maxRecDepth 100000 in
set_option maxHeartbeats 4000000 in
theorem rdiv_neg (a n : Int) (w : World) (ha : fits a) (hs : a < 0) (hn0 : 0 < n) (hn1 : n ≤ 9223372036854775807) :
    Calls Tryd.prog 11 #[.agg #[.int .i64 (lb a 0), .int .i64 (lb a 1), .int .i64 (lb a 2), .int .i64 (lb a 3), .int .i64 (lb a 4), .int .i64 (lb a 5), .int .i64 (lb a 6), .int .i64 (lb a 7)], .int .i64 n] w fun e w' => e = .returned (.tuple #[.agg #[.int .i64 (lb (a / n) 0), .int .i64 (lb (a / n) 1), .int .i64 (lb (a / n) 2), .int .i64 (lb (a / n) 3), .int .i64 (lb (a / n) 4), .int .i64 (lb (a / n) 5), .int .i64 (lb (a / n) 6), .int .i64 (lb (a / n) 7)], .int .i64 (a % n)]) ∧ Below w.heap.size w w' := by
  have dn : decide (32768 ≤ lb a 7) = true := by rw [decide_eq_true_iff, lb_top a ha]; exact hs
  obtain ⟨m, hm⟩ : ∃ m, m = -a := ⟨_, rfl⟩
  have hm0 : 0 ≤ m ∧ m < 340282366920938463463374607431768211456 := by unfold fits at ha; omega
  have ATOP := Lib.hid (at_top m n hm0.1 hm0.2 hn0)
  have AEND := Lib.hid (at_end m n)
  have HNEG := Lib.hid (fun w => neg_any a w)
  have HMIN := Lib.hid (fun w => rminus_any a w)
  rw [← hm] at HMIN
  replace hm := Lib.hid hm
  replace hs := Lib.hid hs
  replace ha := Lib.hid ha
  obtain ⟨W0, hW0⟩ : ∃ W0, W0 = (w.alloc (.cells #[.int .i64 (lb a 0), .int .i64 (lb a 1), .int .i64 (lb a 2), .int .i64 (lb a 3), .int .i64 (lb a 4), .int .i64 (lb a 5), .int .i64 (lb a 6), .int .i64 (lb a 7)] 28)).alloc (.cells #[.int .i64 0, .int .i64 0, .int .i64 0, .int .i64 0, .int .i64 0, .int .i64 0, .int .i64 0, .int .i64 0] 28) := ⟨_, rfl⟩
  have B0 : Below w.heap.size w W0 := by rw [hW0]; exact ((Below.refl _ _).alloc (Nat.le_refl _) _).alloc (by simp) _
  have E2 : Eight W0 w.heap.size (lb a) := by rw [hW0]; exact (Eight.new rfl _ (lb a)).al _
  have E4 : Eight W0 (w.heap.size + 1) (fun _ => 0) := by rw [hW0]; exact Eight.zero (by simp) _
  have a0 := (E2 0 (by omega)).1
  have a1 := (E2 1 (by omega)).1
  have a2 := (E2 2 (by omega)).1
  have a3 := (E2 3 (by omega)).1
  have a4 := (E2 4 (by omega)).1
  have a5 := (E2 5 (by omega)).1
  have a6 := (E2 6 (by omega)).1
  have a7 := (E2 7 (by omega)).1
  have X2 := Lib.hid E2; have X4 := Lib.hid E4; clear E2 E4
  have HH := Lib.hid hW0; clear hW0
  go_enter Tryd.func11, Tryd.ntmps11
  go_wp2_with fail
  rw [← HH.out]
  clear HH
  with_reducible refine (HNEG.out _).mono ?_
  rintro e w1 ⟨rfl, hw1⟩
  rw [dn]
  have hb1 : Below W0.heap.size W0 w1 := by rw [← hw1]; exact (Below.refl _ _).alloc (Nat.le_refl _) _
  have E2 := X2.out.be hb1
  have E4 := X4.out.be hb1
  replace B0 := bel_step B0 (Nat.le_refl _) hb1
  clear hw1 hb1 X2 X4 HNEG
  clear a0 a1 a2 a3 a4 a5 a6 a7
  have a0 := (E2 0 (by omega)).1
  have a1 := (E2 1 (by omega)).1
  have a2 := (E2 2 (by omega)).1
  have a3 := (E2 3 (by omega)).1
  have a4 := (E2 4 (by omega)).1
  have a5 := (E2 5 (by omega)).1
  have a6 := (E2 6 (by omega)).1
  have a7 := (E2 7 (by omega)).1
  have X2 := Lib.hid E2; have X4 := Lib.hid E4; clear E2 E4
  go_wp2_with fail
  with_reducible refine (HMIN.out _).mono ?_
  rintro e w2 ⟨rfl, hb1⟩
  have E2 := X2.out.be hb1
  have E4 := X4.out.be hb1
  replace B0 := bel_step B0 (Nat.le_refl _) hb1
  clear hb1 X2 X4 HMIN
  clear a0 a1 a2 a3 a4 a5 a6 a7
  have a0 := (E2 0 (by omega)).1
  have af0 := (E2 0 (by omega)).2
  have a1 := (E2 1 (by omega)).1
  have af1 := (E2 1 (by omega)).2
  have a2 := (E2 2 (by omega)).1
  have af2 := (E2 2 (by omega)).2
  have a3 := (E2 3 (by omega)).1
  have af3 := (E2 3 (by omega)).2
  have a4 := (E2 4 (by omega)).1
  have af4 := (E2 4 (by omega)).2
  have a5 := (E2 5 (by omega)).1
  have af5 := (E2 5 (by omega)).2
  have a6 := (E2 6 (by omega)).1
  have af6 := (E2 6 (by omega)).2
  have a7 := (E2 7 (by omega)).1
  have af7 := (E2 7 (by omega)).2
  have X2 := Lib.hid E2; have X4 := Lib.hid E4; clear E2 E4
  go_upto_region 4 with fail
  obtain ⟨w3, hw3⟩ : ∃ w3, w3 = ((((((((w2.setCell ⟨w.heap.size, 0, none⟩ (.int .i64 (lb m 0))).setCell ⟨w.heap.size, 1, none⟩ (.int .i64 (lb m 1))).setCell ⟨w.heap.size, 2, none⟩ (.int .i64 (lb m 2))).setCell ⟨w.heap.size, 3, none⟩ (.int .i64 (lb m 3))).setCell ⟨w.heap.size, 4, none⟩ (.int .i64 (lb m 4))).setCell ⟨w.heap.size, 5, none⟩ (.int .i64 (lb m 5))).setCell ⟨w.heap.size, 6, none⟩ (.int .i64 (lb m 6))).setCell ⟨w.heap.size, 7, none⟩ (.int .i64 (lb m 7))) := ⟨_, rfl⟩
  rw [← hw3]
  have E2 : Eight w3 w.heap.size (lb m) := by rw [hw3]; exact eight_store X2.out (lb m)
  have E4 : Eight w3 (w.heap.size + 1) (fun _ => 0) := by rw [hw3]; exact eight_far X4.out (by omega) (lb m)
  replace B0 : Below w.heap.size w w3 := by rw [hw3]; exact bel_store B0 (Nat.le_refl _) (lb m)
  clear hw3 X2 X4
  clear a0 a1 a2 a3 a4 a5 a6 a7 af0 af1 af2 af3 af4 af5 af6 af7
  have hlt := E4.lt
  have HS := Lib.hid (show DivAt w w3.heap.size m 0 (w3.alloc (.cells #[.int .i64 0, .int .i64 0, .int .i64 0, .int .i64 0, .int .i64 0, .int .i64 0, .int .i64 0, .int .i64 0] 28)) from ⟨B0.alloc B0.size _, E2.al _, E4.al _, (Eight.zero rfl _).congr (fun j hj => (lb_zero j).symm), hlt⟩)
  clear E2 E4
  go_wp2_with fail
  go_loopw [8, 9] (DivRel w w3.heap.size m n) (fun _ i _ => (intOf i + 1).toNat)
  case atStart => exact ⟨128, by omega, rfl, by rw [ATOP.out.1], by rw [ATOP.out.2]; exact HS.out⟩
  case round =>
    obtain ⟨k, hk, rfl, rfl, HD⟩ := hrel
    rcases (show k = 0 ∨ ∃ k1, k = k1 + 1 by rcases k with _ | k1; exact .inl rfl; exact .inr ⟨k1, rfl⟩) with rfl | ⟨k1, rfl⟩
    · rw [AEND.out.2] at HD
      rw [AEND.out.1]
      have HM2 := Lib.hid (fun w => rminus_any (m / n) w)
      have c0 := (HD.e7 0 (by omega)).1
      have c1 := (HD.e7 1 (by omega)).1
      have c2 := (HD.e7 2 (by omega)).1
      have c3 := (HD.e7 3 (by omega)).1
      have c4 := (HD.e7 4 (by omega)).1
      have c5 := (HD.e7 5 (by omega)).1
      have c6 := (HD.e7 6 (by omega)).1
      have c7 := (HD.e7 7 (by omega)).1
      replace HD := Lib.hid HD
      have hmn := Int.emod_lt_of_pos m hn0
      have hmn0 := Int.emod_nonneg m (show n ≠ 0 by omega)
      have HFL := Lib.hid (neg_div a m n hm.out hn0)
      go_wp2_with fail
      with_reducible refine (HM2.out _).mono ?_
      rintro e w5 ⟨rfl, hb5⟩
      obtain ⟨Q, hQ⟩ : ∃ Q, Q = -(m / n) := ⟨_, rfl⟩
      rw [← hQ] at HFL ⊢
      replace hQ := Lib.hid hQ
      have HD5 := HD.out.step hb5
      clear hb5 HM2 HD
      clear c0 c1 c2 c3 c4 c5 c6 c7
      have c0 := (HD5.e7 0 (by omega)).1
      have cf0 := (HD5.e7 0 (by omega)).2
      have c1 := (HD5.e7 1 (by omega)).1
      have cf1 := (HD5.e7 1 (by omega)).2
      have c2 := (HD5.e7 2 (by omega)).1
      have cf2 := (HD5.e7 2 (by omega)).2
      have c3 := (HD5.e7 3 (by omega)).1
      have cf3 := (HD5.e7 3 (by omega)).2
      have c4 := (HD5.e7 4 (by omega)).1
      have cf4 := (HD5.e7 4 (by omega)).2
      have c5 := (HD5.e7 5 (by omega)).1
      have cf5 := (HD5.e7 5 (by omega)).2
      have c6 := (HD5.e7 6 (by omega)).1
      have cf6 := (HD5.e7 6 (by omega)).2
      have c7 := (HD5.e7 7 (by omega)).1
      have cf7 := (HD5.e7 7 (by omega)).2
      replace HD5 := Lib.hid HD5
      by_cases hr0 : 0 < m % n
      · have HM1 := Lib.hid (fun w => rminus_one w)
        have HPL := Lib.hid (fun w => rplus_any Q (-1) w)
        go_upto_region 17 with fail
        obtain ⟨w6, hw6⟩ : ∃ w6, w6 = ((((((((w5.setCell ⟨w3.heap.size, 0, none⟩ (.int .i64 (lb Q 0))).setCell ⟨w3.heap.size, 1, none⟩ (.int .i64 (lb Q 1))).setCell ⟨w3.heap.size, 2, none⟩ (.int .i64 (lb Q 2))).setCell ⟨w3.heap.size, 3, none⟩ (.int .i64 (lb Q 3))).setCell ⟨w3.heap.size, 4, none⟩ (.int .i64 (lb Q 4))).setCell ⟨w3.heap.size, 5, none⟩ (.int .i64 (lb Q 5))).setCell ⟨w3.heap.size, 6, none⟩ (.int .i64 (lb Q 6))).setCell ⟨w3.heap.size, 7, none⟩ (.int .i64 (lb Q 7))) := ⟨_, rfl⟩
        rw [← hw6]
        have hg := HD5.out.hg
        have E7 : Eight w6 w3.heap.size (lb Q) := by rw [hw6]; exact eight_store HD5.out.e7 (lb Q)
        have E4 : Eight w6 (w.heap.size + 1) (fun _ => 0) := by rw [hw6]; exact eight_far HD5.out.e4 (by omega) (lb Q)
        have hb : Below w.heap.size w w6 := by rw [hw6]; exact bel_store HD5.out.bel (by omega) (lb Q)
        clear hw6 HD5
        clear c0 c1 c2 c3 c4 c5 c6 c7 cf0 cf1 cf2 cf3 cf4 cf5 cf6 cf7
        have c0 := (E7 0 (by omega)).1
        have c1 := (E7 1 (by omega)).1
        have c2 := (E7 2 (by omega)).1
        have c3 := (E7 3 (by omega)).1
        have c4 := (E7 4 (by omega)).1
        have c5 := (E7 5 (by omega)).1
        have c6 := (E7 6 (by omega)).1
        have c7 := (E7 7 (by omega)).1
        have hgl := E7.lt
        have u9 : wrap64 (m % n) = m % n := by unfold wrap64; omega
        have u9b : IntKind.i64.wrap (m % n) = m % n := IntWalk.i64_in _ (by omega)
        have u10 : IntKind.i64.wrap (n - m % n) = n - m % n := IntWalk.i64_in _ (by omega)
        go_region_held3 (fun w' => w'.cell? ⟨w3.heap.size, 0, none⟩ = some (.int .i64 (lb Q 0)) ∧ w'.cell? ⟨w3.heap.size, 1, none⟩ = some (.int .i64 (lb Q 1)) ∧ w'.cell? ⟨w3.heap.size, 2, none⟩ = some (.int .i64 (lb Q 2)) ∧ w'.cell? ⟨w3.heap.size, 3, none⟩ = some (.int .i64 (lb Q 3)) ∧ w'.cell? ⟨w3.heap.size, 4, none⟩ = some (.int .i64 (lb Q 4)) ∧ w'.cell? ⟨w3.heap.size, 5, none⟩ = some (.int .i64 (lb Q 5)) ∧ w'.cell? ⟨w3.heap.size, 6, none⟩ = some (.int .i64 (lb Q 6)) ∧ w'.cell? ⟨w3.heap.size, 7, none⟩ = some (.int .i64 (lb Q 7))) ((refine ⟨?_, ?_, ?_, ?_, ?_, ?_, ?_, ?_⟩ <;> (repeat (first | (with_reducible refine cset ?_ (by omega)) | (with_reducible refine cell_be hbp ?_) | (with_reducible refine cell_be hbm ?_) | (with_reducible refine cell_dr ?_))) <;> (with_reducible first | exact c0 | exact c1 | exact c2 | exact c3 | exact c4 | exact c5 | exact c6 | exact c7))) (first | (go_at_call 19; refine (HM1.out _).mono ?_; rintro e wm ⟨rfl, hbm⟩) | (go_at_call 22; refine (HPL.out _).mono ?_; rintro e wp ⟨rfl, hbp⟩; have Z := ((show Eight w6.drew (w.heap.size + 1) (fun _ => 0) from E4).be hbm).be hbp; have z0 := (Z 0 (by omega)).1; have zf0 := (Z 0 (by omega)).2; have z1 := (Z 1 (by omega)).1; have zf1 := (Z 1 (by omega)).2; have z2 := (Z 2 (by omega)).1; have zf2 := (Z 2 (by omega)).2; have z3 := (Z 3 (by omega)).1; have zf3 := (Z 3 (by omega)).2; have z4 := (Z 4 (by omega)).1; have zf4 := (Z 4 (by omega)).2; have z5 := (Z 5 (by omega)).1; have zf5 := (Z 5 (by omega)).2; have z6 := (Z 6 (by omega)).1; have zf6 := (Z 6 (by omega)).2; have z7 := (Z 7 (by omega)).1; have zf7 := (Z 7 (by omega)).2; replace Z := Lib.hid Z))
        go_wp2_with fail
        have E := eight_store Z.out (lb (Q + -1))
        have r0 := (E 0 (by omega)).1
        have r1 := (E 1 (by omega)).1
        have r2 := (E 2 (by omega)).1
        have r3 := (E 3 (by omega)).1
        have r4 := (E 4 (by omega)).1
        have r5 := (E 5 (by omega)).1
        have r6 := (E 6 (by omega)).1
        have r7 := (E 7 (by omega)).1
        obtain ⟨x1, x2⟩ := HFL.out.1 hr0
        rw [x1, x2]
        exact bodyPost_ret (v := .tuple #[.agg #[.int .i64 (lb (Q + -1) 0), .int .i64 (lb (Q + -1) 1), .int .i64 (lb (Q + -1) 2), .int .i64 (lb (Q + -1) 3), .int .i64 (lb (Q + -1) 4), .int .i64 (lb (Q + -1) 5), .int .i64 (lb (Q + -1) 6), .int .i64 (lb (Q + -1) 7)], .int .i64 (n - m % n)]) (by simp only [results, Tryd.results11]; simp [go_sem, r0, r1, r2, r3, r4, r5, r6, r7]) rfl ⟨rfl, bel_store (bel_step (bel_step hb.drew (Nat.le_refl _) hbm) (Nat.le_refl _) hbp) (by omega) (lb (Q + -1))⟩
      · obtain hz : m % n = 0 := by omega
        rw [hz]
        go_upto_region 18 with fail
        obtain ⟨w6, hw6⟩ : ∃ w6, w6 = ((((((((w5.setCell ⟨w3.heap.size, 0, none⟩ (.int .i64 (lb Q 0))).setCell ⟨w3.heap.size, 1, none⟩ (.int .i64 (lb Q 1))).setCell ⟨w3.heap.size, 2, none⟩ (.int .i64 (lb Q 2))).setCell ⟨w3.heap.size, 3, none⟩ (.int .i64 (lb Q 3))).setCell ⟨w3.heap.size, 4, none⟩ (.int .i64 (lb Q 4))).setCell ⟨w3.heap.size, 5, none⟩ (.int .i64 (lb Q 5))).setCell ⟨w3.heap.size, 6, none⟩ (.int .i64 (lb Q 6))).setCell ⟨w3.heap.size, 7, none⟩ (.int .i64 (lb Q 7))) := ⟨_, rfl⟩
        rw [← hw6]
        have hg := HD5.out.hg
        have E7 : Eight w6 w3.heap.size (lb Q) := by rw [hw6]; exact eight_store HD5.out.e7 (lb Q)
        have E4 : Eight w6 (w.heap.size + 1) (fun _ => 0) := by rw [hw6]; exact eight_far HD5.out.e4 (by omega) (lb Q)
        have hb : Below w.heap.size w w6 := by rw [hw6]; exact bel_store HD5.out.bel (by omega) (lb Q)
        clear hw6 HD5
        clear c0 c1 c2 c3 c4 c5 c6 c7 cf0 cf1 cf2 cf3 cf4 cf5 cf6 cf7
        have c0 := (E7 0 (by omega)).1
        have c1 := (E7 1 (by omega)).1
        have c2 := (E7 2 (by omega)).1
        have c3 := (E7 3 (by omega)).1
        have c4 := (E7 4 (by omega)).1
        have c5 := (E7 5 (by omega)).1
        have c6 := (E7 6 (by omega)).1
        have c7 := (E7 7 (by omega)).1
        have z0 := (E4 0 (by omega)).1
        have zf0 := (E4 0 (by omega)).2
        have z1 := (E4 1 (by omega)).1
        have zf1 := (E4 1 (by omega)).2
        have z2 := (E4 2 (by omega)).1
        have zf2 := (E4 2 (by omega)).2
        have z3 := (E4 3 (by omega)).1
        have zf3 := (E4 3 (by omega)).2
        have z4 := (E4 4 (by omega)).1
        have zf4 := (E4 4 (by omega)).2
        have z5 := (E4 5 (by omega)).1
        have zf5 := (E4 5 (by omega)).2
        have z6 := (E4 6 (by omega)).1
        have zf6 := (E4 6 (by omega)).2
        have z7 := (E4 7 (by omega)).1
        have zf7 := (E4 7 (by omega)).2
        replace E4 := Lib.hid E4; replace E7 := Lib.hid E7
        go_wp2_with fail
        have E := eight_store E4.out (lb Q)
        have r0 := (E 0 (by omega)).1
        have r1 := (E 1 (by omega)).1
        have r2 := (E 2 (by omega)).1
        have r3 := (E 3 (by omega)).1
        have r4 := (E 4 (by omega)).1
        have r5 := (E 5 (by omega)).1
        have r6 := (E 6 (by omega)).1
        have r7 := (E 7 (by omega)).1
        obtain ⟨x1, x2⟩ := HFL.out.2 hz
        rw [x1, x2]
        exact bodyPost_ret (v := .tuple #[.agg #[.int .i64 (lb Q 0), .int .i64 (lb Q 1), .int .i64 (lb Q 2), .int .i64 (lb Q 3), .int .i64 (lb Q 4), .int .i64 (lb Q 5), .int .i64 (lb Q 6), .int .i64 (lb Q 7)], .int .i64 0]) (by simp only [results, Tryd.results11]; simp [go_sem, r0, r1, r2, r3, r4, r5, r6, r7]) rfl ⟨rfl, bel_store hb (by omega) (lb Q)⟩
    · have e1 : (((k1 + 1 : Nat) : Int) - 1) = (k1 : Int) := by omega
      rw [e1]
      clear e1
      obtain ⟨r, hr⟩ : ∃ r, r = rAt m n (k1 + 1) := ⟨_, rfl⟩
      obtain ⟨bt, hbt⟩ : ∃ bt, bt = bitAt m k1 := ⟨_, rfl⟩
      have hrb := rAt_bd m n (k1 + 1) hn0
      have hbb := bitAt_bd m k1
      have HLO := Lib.hid (at_low m n k1 hn0)
      have HHI := Lib.hid (at_high m n k1 hn0)
      have HSET := Lib.hid (HD.set (by omega))
      rw [← hr] at hrb HLO HHI ⊢
      rw [← hbt] at hbb HLO HHI
      obtain ⟨J, hJ⟩ : ∃ J, J = k1 / 16 := ⟨_, rfl⟩
      obtain ⟨s, hs⟩ : ∃ s, s = k1 % 16 := ⟨_, rfl⟩
      have eJ : Int.tdiv (k1 : Int) 16 = (J : Int) := by rw [Int.tdiv_eq_ediv_of_nonneg (by omega)]; omega
      have eS : Int.tmod (k1 : Int) 16 = (s : Int) := by rw [Int.tmod_eq_emod_of_nonneg (by omega)]; omega
      have eJ' : (k1 : Int) / 16 = (J : Int) := by omega
      have eS' : (k1 : Int) % 16 = (s : Int) := by omega
      have hJ8 : J < 8 := by omega
      have hs16 : s < 16 := by omega
      have c2 := (HD.e2 J hJ8).1
      have c7 := (HD.e7 J hJ8).1
      have f7 := (HD.e7 J hJ8).2
      have hget := lb_get m k1
      rw [← hJ, ← hs, ← hbt] at hget
      rw [← hJ, ← hs] at HSET
      obtain ⟨X, hX⟩ : ∃ X, X = lb m J / 2 ^ s := ⟨_, rfl⟩
      have hX0 : 0 ≤ X := by rw [hX]; exact Int.ediv_nonneg (lb_bd m J).1 (Int.le_of_lt (Int.pow_pos (by decide)))
      have eX : lb m J / 2 ^ s = X := hX.symm
      rw [← hX] at hget
      have eB : X.tmod 2 = bt := by rw [Int.tmod_eq_emod_of_nonneg hX0]; exact hget
      have hq := lb_bd (qAt m n (k1 + 1)) J
      have hp2 : 0 ≤ (2 : Int) ^ s ∧ (2 : Int) ^ s ≤ 32768 := by
        rcases (show s = 0 ∨ s = 1 ∨ s = 2 ∨ s = 3 ∨ s = 4 ∨ s = 5 ∨ s = 6 ∨ s = 7 ∨ s = 8 ∨ s = 9 ∨ s = 10 ∨ s = 11 ∨ s = 12 ∨ s = 13 ∨ s = 14 ∨ s = 15 by omega) with h | h | h | h | h | h | h | h | h | h | h | h | h | h | h | h <;> rw [h] <;> decide
      have HJ := Lib.hid hJ; have HS' := Lib.hid hs; have HR := Lib.hid hr; have HB := Lib.hid hbt
      clear hJ hs hr hbt hX hget
      have i0 : (0 : Int) ≤ (k1 : Int) := Int.natCast_nonneg _
      have j0 : (0 : Int) ≤ (J : Int) := Int.natCast_nonneg _
      have j1 : (J : Int) < 8 := by omega
      have s0 : (0 : Int) ≤ (s : Int) := Int.natCast_nonneg _
      have s1 : (s : Int) < 16 := by omega
      have u7 : ∀ x y : Int, 0 ≤ x → x ≤ 65535 → 0 ≤ y → y ≤ 32768 → wrap64 (x + y) = x + y := fun x y _ _ _ _ => by unfold wrap64; omega
      replace u7 := u7 _ _ hq.1 hq.2 hp2.1 hp2.2
      have u1 : IntKind.u64.wrap (r * 2) = r * 2 := IntWalk.u64_in _ (by omega)
      have u2 : IntKind.u64.wrap bt = bt := IntWalk.u64_in _ (by omega)
      have u3 : IntKind.u64.wrap (r * 2 + bt) = r * 2 + bt := IntWalk.u64_in _ (by omega)
      have u4 : IntKind.u64.wrap n = n := IntWalk.u64_in _ (by omega)
      have u5 : IntKind.u64.wrap (s : Int) = (s : Int) := IntWalk.u64_in _ (by omega)
      replace HD := Lib.hid HD
      by_cases hlt : r * 2 + bt < n
      · have hnl : ¬ n ≤ r * 2 + bt := by omega
        go_wp2_with fail
        obtain ⟨x1, x2⟩ := HLO.out (by omega)
        exact ⟨⟨k1, by omega, by go_num, by rw [x1]; congr 1; omega, by rw [x2]; exact HD.out⟩, by simp [intOf]⟩
      · have hnl : n ≤ r * 2 + bt := by omega
        have u6 : IntKind.u64.wrap (r * 2 + bt - n) = r * 2 + bt - n := IntWalk.u64_in _ (by omega)
        go_wp2_with fail
        obtain ⟨x1, x2⟩ := HHI.out (by omega)
        exact ⟨⟨k1, by omega, by go_num, by rw [x1]; congr 1; omega, by rw [x2]; exact HSET.out⟩, by simp [intOf]⟩
theorem rdiv_any (a n : Int) (w : World) (ha : fits a) (hn0 : 0 < n) (hn1 : n ≤ 9223372036854775807) :
    Calls Tryd.prog 11 #[.agg #[.int .i64 (lb a 0), .int .i64 (lb a 1), .int .i64 (lb a 2), .int .i64 (lb a 3), .int .i64 (lb a 4), .int .i64 (lb a 5), .int .i64 (lb a 6), .int .i64 (lb a 7)], .int .i64 n] w fun e w' => e = .returned (.tuple #[.agg #[.int .i64 (lb (a / n) 0), .int .i64 (lb (a / n) 1), .int .i64 (lb (a / n) 2), .int .i64 (lb (a / n) 3), .int .i64 (lb (a / n) 4), .int .i64 (lb (a / n) 5), .int .i64 (lb (a / n) 6), .int .i64 (lb (a / n) 7)], .int .i64 (a % n)]) ∧ Below w.heap.size w w' := by
  rcases Int.lt_or_le a 0 with h | h
  · exact rdiv_neg a n w ha h hn0 hn1
  · exact rdiv_pos a n w ha h hn0 hn1
end Go.Proofs.YtohgpllonbplfaaDoor

/- Contracts of Whole and Below. -/
import Derived.Test.YtljepnonigjcbaaRefLimbs
namespace Go.Proofs.Ytljepnonigjcbaa
open Go.RowKit
set_option linter.unusedVariables false

theorem whole_any (v : Int) (w : World) :
    Calls Try.prog 39 #[.agg #[.int .i64 (lb v 0), .int .i64 (lb v 1), .int .i64 (lb v 2), .int .i64 (lb v 3), .int .i64 (lb v 4), .int .i64 (lb v 5), .int .i64 (lb v 6), .int .i64 (lb v 7)]] w fun e w' => e = .returned (.tuple #[.int .i64 (hiW v), .int .u64 (loW v)]) ∧ Below w.heap.size w w' := by
  have h1 := whole_lo v
  have h2 := whole_hi v
  have hb := hiW_bd v
  have hw : wrap64 (((lb v 7 * 65536 + lb v 6) * 65536 + lb v 5) * 65536 + lb v 4) = hiW v := by rw [h2]; unfold wrap64; omega
  have b0 := lb_bd v 0
  have b1 := lb_bd v 1
  have b2 := lb_bd v 2
  have b3 := lb_bd v 3
  have b4 := lb_bd v 4
  have b5 := lb_bd v 5
  have b6 := lb_bd v 6
  have b7 := lb_bd v 7
  have HW := Lib.hid hw
  have H1 := Lib.hid h1
  clear h1 h2 hw hb
  generalize lb v 0 = l0 at *
  generalize lb v 1 = l1 at *
  generalize lb v 2 = l2 at *
  generalize lb v 3 = l3 at *
  generalize lb v 4 = l4 at *
  generalize lb v 5 = l5 at *
  generalize lb v 6 = l6 at *
  generalize lb v 7 = l7 at *
  obtain ⟨b00, b01⟩ := b0
  obtain ⟨b10, b11⟩ := b1
  obtain ⟨b20, b21⟩ := b2
  obtain ⟨b30, b31⟩ := b3
  obtain ⟨b40, b41⟩ := b4
  obtain ⟨b50, b51⟩ := b5
  obtain ⟨b60, b61⟩ := b6
  obtain ⟨b70, b71⟩ := b7
  go_enter Try.func39, Try.ntmps39
  go_wp2_with fail
  refine wp_loop_rounds 5 ?_
  iterate 5 (rw [rounds_succ]; go_wp2)
  rw [HW.out, H1.out]
  go_ret2
  exact ⟨rfl, (Below.refl _ _).alloc (Nat.le_refl _) _⟩
/-- the order of two numbers, by their parts -/
theorem qt_mono (a b : Int) (k : Nat) (h : a ≤ b) : qt a k ≤ qt b k := by
  induction k with
  | zero => exact h
  | succ k ih => simp only [qt]; omega
theorem qt_step (a : Int) (k : Nat) : qt a k = qt a (k + 1) * 65536 + lb a k := by unfold lb; simp only [qt]; omega
theorem qt_top (a : Int) (h : fits a) : qt a 8 = if a < 0 then -1 else 0 := by unfold fits at h; simp only [qt]; split <;> omega
theorem qt_same (a b : Int) (ha : fits a) (hb : fits b) (hs : a < 0 ↔ b < 0) (k : Nat) (hk : k ≤ 8) (h : ∀ j, k ≤ j → j < 8 → lb a j = lb b j) : qt a k = qt b k := by
  obtain ⟨d, hd⟩ : ∃ d, d = 8 - k := ⟨_, rfl⟩
  induction d generalizing k with
  | zero =>
    obtain rfl : k = 8 := by omega
    rw [qt_top a ha, qt_top b hb]
    by_cases h1 : a < 0
    · rw [if_pos h1, if_pos (hs.1 h1)]
    · rw [if_neg h1, if_neg (fun h2 => h1 (hs.2 h2))]
  | succ d ih =>
    rw [qt_step a k, qt_step b k, ih (k + 1) (by omega) (fun j h1 h2 => h j (by omega) h2) (by omega), h k (Nat.le_refl _) (by omega)]
theorem lt_by (a b : Int) (ha : fits a) (hb : fits b) (hs : a < 0 ↔ b < 0) (k : Nat) (hk : k < 8) (h : ∀ j, k < j → j < 8 → lb a j = lb b j) (hne : lb a k ≠ lb b k) : lb a k < lb b k ↔ a < b := by
  have e := qt_same a b ha hb hs (k + 1) (by omega) (fun j h1 h2 => h j (by omega) h2)
  have s1 := qt_step a k
  have s2 := qt_step b k
  rw [e] at s1
  constructor
  · intro hlt
    rcases Int.lt_or_le a b with h1 | h1
    · exact h1
    · have := qt_mono b a k h1; omega
  · intro hlt
    have := qt_mono a b k (by omega)
    omega
def BelRel (W : World) (a b : Int) (i : Value) (wr : World) : Prop := ∃ k : Nat, k ≤ 8 ∧ i = .int .i64 ((k : Int) - 1) ∧ (∀ j, k ≤ j → j < 8 → lb a j = lb b j) ∧ Below W.heap.size W wr
set_option maxRecDepth 100000 in
set_option maxHeartbeats 2000000 in
theorem rbelow_any (a b : Int) (w : World) (ha : fits a) (hb : fits b) :
    Calls Try.prog 10 #[.agg #[.int .i64 (lb a 0), .int .i64 (lb a 1), .int .i64 (lb a 2), .int .i64 (lb a 3), .int .i64 (lb a 4), .int .i64 (lb a 5), .int .i64 (lb a 6), .int .i64 (lb a 7)], .agg #[.int .i64 (lb b 0), .int .i64 (lb b 1), .int .i64 (lb b 2), .int .i64 (lb b 3), .int .i64 (lb b 4), .int .i64 (lb b 5), .int .i64 (lb b 6), .int .i64 (lb b 7)]] w fun e w' => e = .returned (.bool (decide (a < b))) ∧ Below w.heap.size w w' := by
  have sa := lb_top a ha
  have sb := lb_top b hb
  obtain ⟨W0, hW0⟩ : ∃ W0, W0 = (w.alloc (.cells #[.int .i64 (lb a 0), .int .i64 (lb a 1), .int .i64 (lb a 2), .int .i64 (lb a 3), .int .i64 (lb a 4), .int .i64 (lb a 5), .int .i64 (lb a 6), .int .i64 (lb a 7)] 44)).alloc (.cells #[.int .i64 (lb b 0), .int .i64 (lb b 1), .int .i64 (lb b 2), .int .i64 (lb b 3), .int .i64 (lb b 4), .int .i64 (lb b 5), .int .i64 (lb b 6), .int .i64 (lb b 7)] 44) := ⟨_, rfl⟩
  have EA : Eight W0 w.heap.size (lb a) := by rw [hW0]; exact (Eight.new rfl _ (lb a)).al _
  have EB : Eight W0 (w.heap.size + 1) (lb b) := by rw [hW0]; exact Eight.new (by simp) _ (lb b)
  have hB0 : Below w.heap.size w W0 := by rw [hW0]; exact ((Below.refl _ _).alloc (Nat.le_refl _) _).alloc (by simp) _
  obtain ⟨a0, a1, a2, a3, a4, a5, a6, a7, _⟩ := eight_cells EA
  obtain ⟨b0, b1, b2, b3, b4, b5, b6, b7, _⟩ := eight_cells EB
  have HEA := Lib.hid EA; clear EA
  have HEB := Lib.hid EB; clear EB
  have H0 := Lib.hid hW0; clear hW0
  by_cases hs : a < 0 ↔ b < 0
  · have dn : (decide (32768 ≤ lb a 7)) = (decide (32768 ≤ lb b 7)) := by rw [decide_eq_decide, sa, sb]; exact hs
    obtain ⟨sg, hsg⟩ : ∃ sg, sg = decide (32768 ≤ lb b 7) := ⟨_, rfl⟩
    have d1 : decide (32768 ≤ lb a 7) = sg := by rw [hsg, dn]
    have d2 : decide (32768 ≤ lb b 7) = sg := hsg.symm
    clear dn hsg sa sb
    have HS := Lib.hid hs; clear hs
    have HFA := Lib.hid ha; clear ha
    have HFB := Lib.hid hb; clear hb
    go_enter Try.func10, Try.ntmps10
    go_wp2_with fail
    rw [← H0.out]
    go_region_held3 (fun w' => w'.cell? ⟨w.heap.size, 0, none⟩ = some (.int .i64 (lb a 0)) ∧ w'.cell? ⟨w.heap.size, 1, none⟩ = some (.int .i64 (lb a 1)) ∧ w'.cell? ⟨w.heap.size, 2, none⟩ = some (.int .i64 (lb a 2)) ∧ w'.cell? ⟨w.heap.size, 3, none⟩ = some (.int .i64 (lb a 3)) ∧ w'.cell? ⟨w.heap.size, 4, none⟩ = some (.int .i64 (lb a 4)) ∧ w'.cell? ⟨w.heap.size, 5, none⟩ = some (.int .i64 (lb a 5)) ∧ w'.cell? ⟨w.heap.size, 6, none⟩ = some (.int .i64 (lb a 6)) ∧ w'.cell? ⟨w.heap.size, 7, none⟩ = some (.int .i64 (lb a 7)) ∧ w'.cell? ⟨w.heap.size + 1, 0, none⟩ = some (.int .i64 (lb b 0)) ∧ w'.cell? ⟨w.heap.size + 1, 1, none⟩ = some (.int .i64 (lb b 1)) ∧ w'.cell? ⟨w.heap.size + 1, 2, none⟩ = some (.int .i64 (lb b 2)) ∧ w'.cell? ⟨w.heap.size + 1, 3, none⟩ = some (.int .i64 (lb b 3)) ∧ w'.cell? ⟨w.heap.size + 1, 4, none⟩ = some (.int .i64 (lb b 4)) ∧ w'.cell? ⟨w.heap.size + 1, 5, none⟩ = some (.int .i64 (lb b 5)) ∧ w'.cell? ⟨w.heap.size + 1, 6, none⟩ = some (.int .i64 (lb b 6)) ∧ w'.cell? ⟨w.heap.size + 1, 7, none⟩ = some (.int .i64 (lb b 7))) ((refine ⟨?_, ?_, ?_, ?_, ?_, ?_, ?_, ?_, ?_, ?_, ?_, ?_, ?_, ?_, ?_, ?_⟩ <;> (repeat (first | (with_reducible refine cell_dr ?_) | (with_reducible refine cell_al ?_))) <;> (with_reducible first | exact a0 | exact a1 | exact a2 | exact a3 | exact a4 | exact a5 | exact a6 | exact a7 | exact b0 | exact b1 | exact b2 | exact b3 | exact b4 | exact b5 | exact b6 | exact b7))) ((go_at_call 20; refine (neg_any _ _).mono ?_; rintro e w' ⟨rfl, rfl⟩))
    obtain ⟨W3, hW3⟩ : ∃ W3, W3 = ((W0.alloc (.cells #[.int .i64 (lb a 0), .int .i64 (lb a 1), .int .i64 (lb a 2), .int .i64 (lb a 3), .int .i64 (lb a 4), .int .i64 (lb a 5), .int .i64 (lb a 6), .int .i64 (lb a 7)] 44)).alloc (.cells #[.int .i64 (lb b 0), .int .i64 (lb b 1), .int .i64 (lb b 2), .int .i64 (lb b 3), .int .i64 (lb b 4), .int .i64 (lb b 5), .int .i64 (lb b 6), .int .i64 (lb b 7)] 44)).drew := ⟨_, rfl⟩
    have hB3 : Below W0.heap.size W0 W3 := by rw [hW3]; exact (((Below.refl _ _).alloc (Nat.le_refl _) _).alloc (by simp) _).drew
    go_wp2_with fail
    rw [← hW3]
    clear hW3 d1 d2 a0 a1 a2 a3 a4 a5 a6 a7 b0 b1 b2 b3 b4 b5 b6 b7
    go_loopw [5] (BelRel W3 a b) (fun i _ => (intOf i + 1).toNat)
    case atStart => exact ⟨8, by omega, rfl, fun j h1 h2 => by omega, Below.refl _ _⟩
    case round =>
      obtain ⟨k, hk, rfl, heq, hbel⟩ := hrel
      have HEQ := Lib.hid heq; clear heq
      have hbw := bel_step hB3 (Nat.le_refl _) hbel
      rcases (show k = 0 ∨ ∃ k1, k = k1 + 1 by rcases k with _ | k1; exact .inl rfl; exact .inr ⟨k1, rfl⟩) with rfl | ⟨k1, rfl⟩
      · have hab : a = b := lb_inj a b HFA.out HFB.out (fun j hj => HEQ.out j (by omega) hj)
        have HD := Lib.hid (show decide (a < b) = false by simp; omega)
        clear hab
        go_wp2
        go_ret
        exact ⟨by rw [HD.out]; rfl, hB0.trans (hbw.mono hB0.size)⟩
      · have e1 : (((k1 + 1 : Nat) : Int) - 1) = (k1 : Int) := by omega
        rw [e1]
        clear e1
        have x0 := cell_be hbw (HEA.out k1 (by omega)).1
        have y0 := cell_be hbw (HEB.out k1 (by omega)).1
        have i0 : (0 : Int) ≤ (k1 : Int) := Int.natCast_nonneg _
        have i1 : (k1 : Int) < 8 := by omega
        by_cases hne : lb a k1 = lb b k1
        · have dd : (lb a k1 != lb b k1) = false := by simp [hne]
          have HNE := Lib.hid hne; clear hne
          go_wp2_with fail
          go_quiet (fail)
          go_wp2
          refine ⟨⟨k1, by omega, rfl, fun j h1 h2 => ?_, bel_drewN hbel _⟩, by simp [intOf]⟩
          rcases (show j = k1 ∨ k1 + 1 ≤ j by omega) with rfl | h
          · exact HNE.out
          · exact HEQ.out j h h2
        · have dd : (lb a k1 != lb b k1) = true := by simp [hne]
          have HL := Lib.hid (lt_by a b HFA.out HFB.out HS.out k1 (by omega) (fun j h1 h2 => HEQ.out j (by omega) h2) hne)
          clear hne
          go_wp2_with fail
          go_quiet (fail)
          go_wp2_with fail
          go_quiet (fail)
          go_wp2
          go_ret
          refine ⟨ret_bool ?_, bel_drewN (bel_drewN (hB0.trans (hbw.mono hB0.size)) _) _⟩
          rw [decide_eq_decide]; exact HL.out
  · by_cases h1 : a < 0
    · have h2 : ¬ b < 0 := fun h => hs ⟨fun _ => h, fun _ => h1⟩
      have d1 : decide (32768 ≤ lb a 7) = true := decide_eq_true (sa.2 h1)
      have d2 : decide (32768 ≤ lb b 7) = false := decide_eq_false (fun h => h2 (sb.1 h))
      rw [decide_eq_true (show a < b by omega)]
      clear hs sa sb ha hb h1 h2
      go_enter Try.func10, Try.ntmps10
      go_wp2_with fail
      rw [← H0.out]
      go_region_held3 (fun w' => w'.cell? ⟨w.heap.size, 0, none⟩ = some (.int .i64 (lb a 0)) ∧ w'.cell? ⟨w.heap.size, 1, none⟩ = some (.int .i64 (lb a 1)) ∧ w'.cell? ⟨w.heap.size, 2, none⟩ = some (.int .i64 (lb a 2)) ∧ w'.cell? ⟨w.heap.size, 3, none⟩ = some (.int .i64 (lb a 3)) ∧ w'.cell? ⟨w.heap.size, 4, none⟩ = some (.int .i64 (lb a 4)) ∧ w'.cell? ⟨w.heap.size, 5, none⟩ = some (.int .i64 (lb a 5)) ∧ w'.cell? ⟨w.heap.size, 6, none⟩ = some (.int .i64 (lb a 6)) ∧ w'.cell? ⟨w.heap.size, 7, none⟩ = some (.int .i64 (lb a 7)) ∧ w'.cell? ⟨w.heap.size + 1, 0, none⟩ = some (.int .i64 (lb b 0)) ∧ w'.cell? ⟨w.heap.size + 1, 1, none⟩ = some (.int .i64 (lb b 1)) ∧ w'.cell? ⟨w.heap.size + 1, 2, none⟩ = some (.int .i64 (lb b 2)) ∧ w'.cell? ⟨w.heap.size + 1, 3, none⟩ = some (.int .i64 (lb b 3)) ∧ w'.cell? ⟨w.heap.size + 1, 4, none⟩ = some (.int .i64 (lb b 4)) ∧ w'.cell? ⟨w.heap.size + 1, 5, none⟩ = some (.int .i64 (lb b 5)) ∧ w'.cell? ⟨w.heap.size + 1, 6, none⟩ = some (.int .i64 (lb b 6)) ∧ w'.cell? ⟨w.heap.size + 1, 7, none⟩ = some (.int .i64 (lb b 7))) ((refine ⟨?_, ?_, ?_, ?_, ?_, ?_, ?_, ?_, ?_, ?_, ?_, ?_, ?_, ?_, ?_, ?_⟩ <;> (repeat (first | (with_reducible refine cell_dr ?_) | (with_reducible refine cell_al ?_))) <;> (with_reducible first | exact a0 | exact a1 | exact a2 | exact a3 | exact a4 | exact a5 | exact a6 | exact a7 | exact b0 | exact b1 | exact b2 | exact b3 | exact b4 | exact b5 | exact b6 | exact b7))) ((go_at_call 20; refine (neg_any _ _).mono ?_; rintro e w' ⟨rfl, rfl⟩))
      obtain ⟨W3, hW3⟩ : ∃ W3, W3 = ((W0.alloc (.cells #[.int .i64 (lb a 0), .int .i64 (lb a 1), .int .i64 (lb a 2), .int .i64 (lb a 3), .int .i64 (lb a 4), .int .i64 (lb a 5), .int .i64 (lb a 6), .int .i64 (lb a 7)] 44)).alloc (.cells #[.int .i64 (lb b 0), .int .i64 (lb b 1), .int .i64 (lb b 2), .int .i64 (lb b 3), .int .i64 (lb b 4), .int .i64 (lb b 5), .int .i64 (lb b 6), .int .i64 (lb b 7)] 44)).drew := ⟨_, rfl⟩
      have hB3 : Below W0.heap.size W0 W3 := by rw [hW3]; exact (((Below.refl _ _).alloc (Nat.le_refl _) _).alloc (by simp) _).drew
      replace a0 := cell_be hB3 a0
      replace a1 := cell_be hB3 a1
      replace a2 := cell_be hB3 a2
      replace a3 := cell_be hB3 a3
      replace a4 := cell_be hB3 a4
      replace a5 := cell_be hB3 a5
      replace a6 := cell_be hB3 a6
      replace a7 := cell_be hB3 a7
      rw [← hW3]
      clear hW3
      go_wp2_with fail
      with_reducible refine (neg_any a _).mono ?_
      rintro e w' ⟨rfl, rfl⟩
      go_wp2
      go_ret
      exact ⟨rfl, (hB0.trans (hB3.mono hB0.size)).alloc (by have := hB0.size; have := hB3.size; omega) _⟩
    · have h2 : b < 0 := by
        rcases Int.lt_or_le b 0 with h | h
        · exact h
        · exact absurd ⟨fun h3 => absurd h3 h1, fun h3 => by omega⟩ hs
      have d1 : decide (32768 ≤ lb a 7) = false := decide_eq_false (fun h => h1 (sa.1 h))
      have d2 : decide (32768 ≤ lb b 7) = true := decide_eq_true (sb.2 h2)
      rw [decide_eq_false (show ¬ a < b by omega)]
      clear hs sa sb ha hb h1 h2
      go_enter Try.func10, Try.ntmps10
      go_wp2_with fail
      rw [← H0.out]
      go_region_held3 (fun w' => w'.cell? ⟨w.heap.size, 0, none⟩ = some (.int .i64 (lb a 0)) ∧ w'.cell? ⟨w.heap.size, 1, none⟩ = some (.int .i64 (lb a 1)) ∧ w'.cell? ⟨w.heap.size, 2, none⟩ = some (.int .i64 (lb a 2)) ∧ w'.cell? ⟨w.heap.size, 3, none⟩ = some (.int .i64 (lb a 3)) ∧ w'.cell? ⟨w.heap.size, 4, none⟩ = some (.int .i64 (lb a 4)) ∧ w'.cell? ⟨w.heap.size, 5, none⟩ = some (.int .i64 (lb a 5)) ∧ w'.cell? ⟨w.heap.size, 6, none⟩ = some (.int .i64 (lb a 6)) ∧ w'.cell? ⟨w.heap.size, 7, none⟩ = some (.int .i64 (lb a 7)) ∧ w'.cell? ⟨w.heap.size + 1, 0, none⟩ = some (.int .i64 (lb b 0)) ∧ w'.cell? ⟨w.heap.size + 1, 1, none⟩ = some (.int .i64 (lb b 1)) ∧ w'.cell? ⟨w.heap.size + 1, 2, none⟩ = some (.int .i64 (lb b 2)) ∧ w'.cell? ⟨w.heap.size + 1, 3, none⟩ = some (.int .i64 (lb b 3)) ∧ w'.cell? ⟨w.heap.size + 1, 4, none⟩ = some (.int .i64 (lb b 4)) ∧ w'.cell? ⟨w.heap.size + 1, 5, none⟩ = some (.int .i64 (lb b 5)) ∧ w'.cell? ⟨w.heap.size + 1, 6, none⟩ = some (.int .i64 (lb b 6)) ∧ w'.cell? ⟨w.heap.size + 1, 7, none⟩ = some (.int .i64 (lb b 7))) ((refine ⟨?_, ?_, ?_, ?_, ?_, ?_, ?_, ?_, ?_, ?_, ?_, ?_, ?_, ?_, ?_, ?_⟩ <;> (repeat (first | (with_reducible refine cell_dr ?_) | (with_reducible refine cell_al ?_))) <;> (with_reducible first | exact a0 | exact a1 | exact a2 | exact a3 | exact a4 | exact a5 | exact a6 | exact a7 | exact b0 | exact b1 | exact b2 | exact b3 | exact b4 | exact b5 | exact b6 | exact b7))) ((go_at_call 20; refine (neg_any _ _).mono ?_; rintro e w' ⟨rfl, rfl⟩))
      obtain ⟨W3, hW3⟩ : ∃ W3, W3 = ((W0.alloc (.cells #[.int .i64 (lb a 0), .int .i64 (lb a 1), .int .i64 (lb a 2), .int .i64 (lb a 3), .int .i64 (lb a 4), .int .i64 (lb a 5), .int .i64 (lb a 6), .int .i64 (lb a 7)] 44)).alloc (.cells #[.int .i64 (lb b 0), .int .i64 (lb b 1), .int .i64 (lb b 2), .int .i64 (lb b 3), .int .i64 (lb b 4), .int .i64 (lb b 5), .int .i64 (lb b 6), .int .i64 (lb b 7)] 44)).drew := ⟨_, rfl⟩
      have hB3 : Below W0.heap.size W0 W3 := by rw [hW3]; exact (((Below.refl _ _).alloc (Nat.le_refl _) _).alloc (by simp) _).drew
      replace a0 := cell_be hB3 a0
      replace a1 := cell_be hB3 a1
      replace a2 := cell_be hB3 a2
      replace a3 := cell_be hB3 a3
      replace a4 := cell_be hB3 a4
      replace a5 := cell_be hB3 a5
      replace a6 := cell_be hB3 a6
      replace a7 := cell_be hB3 a7
      rw [← hW3]
      clear hW3
      go_wp2_with fail
      with_reducible refine (neg_any a _).mono ?_
      rintro e w' ⟨rfl, rfl⟩
      go_wp2
      go_ret
      exact ⟨rfl, (hB0.trans (hB3.mono hB0.size)).alloc (by have := hB0.size; have := hB3.size; omega) _⟩
end Go.Proofs.Ytljepnonigjcbaa

/- Contracts of tidemillref07.Add and Sub. -/
import Derived.Test.YtljepnonigjcbaaRefLimbs
namespace Go.Proofs.Ytljepnonigjcbaa
open Go.RowKit
set_option linter.unusedVariables false

theorem eight_dr {w : World} {g : Nat} {f : Nat → Int} (h : Eight w g f) : Eight w.drew g f := h
theorem eight_set {w : World} {g g' k : Nat} {f : Nat → Int} {v : Value} (h : Eight w g f) (hne : g ≠ g') : Eight (w.setCell ⟨g', k, none⟩ v) g f := fun j hj =>
  ⟨by rw [World.cell?_of_block (Below.heap_setCell w ⟨g', k, none⟩ v g (by simpa using hne))]; exact (h j hj).1, by rw [World.frozen?_setCell]; exact (h j hj).2⟩
theorem cset {w : World} {b o b' o' : Nat} {u v : Value} (h : w.cell? ⟨b, o, none⟩ = some v) (hne : b ≠ b') : (w.setCell ⟨b', o', none⟩ u).cell? ⟨b, o, none⟩ = some v := by
  rw [World.cell?_of_block (Below.heap_setCell w ⟨b', o', none⟩ u b (by simpa using hne))]; exact h
/-- where the two numbers, the result and the sum lie -/
structure RSums (w : World) (a b s : Int) (g : Nat) (wx : World) : Prop where
  bel : Below w.heap.size w wx
  ea : Eight wx w.heap.size (lb a)
  eb : Eight wx (w.heap.size + 1) (lb b)
  er : Eight wx (w.heap.size + 1 + 1) (fun _ => 0)
  es : Eight wx g (lb s)
theorem RSums.step {w wx wy : World} {a b s : Int} {g : Nat} (h : RSums w a b s g wx) (hb : Below wx.heap.size wx wy) : RSums w a b s g wy :=
  ⟨h.bel.trans (hb.mono h.bel.size), h.ea.be hb, h.eb.be hb, h.er.be hb, h.es.be hb⟩
theorem RSums.al {w wx : World} {a b s : Int} {g : Nat} (h : RSums w a b s g wx) (o : Obj) : RSums w a b s g (wx.alloc o) := h.step ((Below.refl _ _).alloc (Nat.le_refl _) _)
theorem RSums.dr {w wx : World} {a b s : Int} {g : Nat} (h : RSums w a b s g wx) : RSums w a b s g wx.drew := h.step (Below.refl _ _).drew
theorem RSums.drN {w wx : World} {a b s : Int} {g : Nat} (h : RSums w a b s g wx) (n : Nat) : RSums w a b s g (wx.drewN n) := h.step (bel_drewN (Below.refl _ _) n)
theorem RSums.start {w W0 W : World} {a b s : Int} {g : Nat} (hW : W0 = (((w.alloc (.cells #[.int .i64 (lb a 0), .int .i64 (lb a 1), .int .i64 (lb a 2), .int .i64 (lb a 3), .int .i64 (lb a 4), .int .i64 (lb a 5), .int .i64 (lb a 6), .int .i64 (lb a 7)] 44)).alloc (.cells #[.int .i64 (lb b 0), .int .i64 (lb b 1), .int .i64 (lb b 2), .int .i64 (lb b 3), .int .i64 (lb b 4), .int .i64 (lb b 5), .int .i64 (lb b 6), .int .i64 (lb b 7)] 44)).alloc (.cells #[.int .i64 0, .int .i64 0, .int .i64 0, .int .i64 0, .int .i64 0, .int .i64 0, .int .i64 0, .int .i64 0] 44))) (hb : Below W0.heap.size W0 W) (es : Eight W g (lb s)) : RSums w a b s g W := by
  have ea : Eight W0 w.heap.size (lb a) := by rw [hW]; exact ((Eight.new rfl _ (lb a)).al _).al _
  have eb : Eight W0 (w.heap.size + 1) (lb b) := by rw [hW]; exact (Eight.new (by simp) _ (lb b)).al _
  have er : Eight W0 (w.heap.size + 1 + 1) (fun _ => 0) := by rw [hW]; exact Eight.zero (by simp) _
  have hB : Below w.heap.size w W0 := by rw [hW]; exact (((Below.refl _ _).alloc (Nat.le_refl _) _).alloc (by simp) _).alloc (by simp; omega) _
  exact ⟨hB.trans (hb.mono hB.size), ea.be hb, eb.be hb, er.be hb, es⟩
set_option maxRecDepth 100000 in
set_option maxHeartbeats 8000000 in
theorem radd_any (a b : Int) (w : World) (ha : fits a) (hb : fits b) :
    Calls Try.prog 38 #[.agg #[.int .i64 (lb a 0), .int .i64 (lb a 1), .int .i64 (lb a 2), .int .i64 (lb a 3), .int .i64 (lb a 4), .int .i64 (lb a 5), .int .i64 (lb a 6), .int .i64 (lb a 7)], .agg #[.int .i64 (lb b 0), .int .i64 (lb b 1), .int .i64 (lb b 2), .int .i64 (lb b 3), .int .i64 (lb b 4), .int .i64 (lb b 5), .int .i64 (lb b 6), .int .i64 (lb b 7)]] w fun e w' => e = .returned (.tuple #[.agg #[.int .i64 (lb (sumOf (a + b)) 0), .int .i64 (lb (sumOf (a + b)) 1), .int .i64 (lb (sumOf (a + b)) 2), .int .i64 (lb (sumOf (a + b)) 3), .int .i64 (lb (sumOf (a + b)) 4), .int .i64 (lb (sumOf (a + b)) 5), .int .i64 (lb (sumOf (a + b)) 6), .int .i64 (lb (sumOf (a + b)) 7)], .bool (decide (fits (a + b)))]) ∧ Below w.heap.size w w' := by
  have hw := wrap_fits a b ha hb
  obtain ⟨s, hs⟩ : ∃ s, s = a + b := ⟨_, rfl⟩
  rw [← hs] at hw ⊢
  have HP := Lib.hid (fun w => rplus_any a b w)
  rw [← hs] at HP
  clear hs
  rw [← lb_sign, ← lb_sign, ← lb_sign] at hw
  have HW := Lib.hid hw; clear hw ha hb
  obtain ⟨W0, hW0⟩ : ∃ W0, W0 = (((w.alloc (.cells #[.int .i64 (lb a 0), .int .i64 (lb a 1), .int .i64 (lb a 2), .int .i64 (lb a 3), .int .i64 (lb a 4), .int .i64 (lb a 5), .int .i64 (lb a 6), .int .i64 (lb a 7)] 44)).alloc (.cells #[.int .i64 (lb b 0), .int .i64 (lb b 1), .int .i64 (lb b 2), .int .i64 (lb b 3), .int .i64 (lb b 4), .int .i64 (lb b 5), .int .i64 (lb b 6), .int .i64 (lb b 7)] 44)).alloc (.cells #[.int .i64 0, .int .i64 0, .int .i64 0, .int .i64 0, .int .i64 0, .int .i64 0, .int .i64 0, .int .i64 0] 44)) := ⟨_, rfl⟩
  have EA : Eight W0 w.heap.size (lb a) := by rw [hW0]; exact ((Eight.new rfl _ (lb a)).al _).al _
  have EB : Eight W0 (w.heap.size + 1) (lb b) := by rw [hW0]; exact (Eight.new (by simp) _ (lb b)).al _
  obtain ⟨a0, a1, a2, a3, a4, a5, a6, a7, _⟩ := eight_cells EA
  obtain ⟨b0, b1, b2, b3, b4, b5, b6, b7, _⟩ := eight_cells EB
  have q2 : w.heap.size + 1 < W0.heap.size := EB.lt
  clear EA EB
  have H0 := Lib.hid hW0; clear hW0
  go_enter Try.func38, Try.ntmps38
  go_wp2_with fail
  rw [← H0.out]
  with_reducible refine (HP.out _).mono ?_
  rintro e w1 ⟨rfl, hb⟩
  obtain ⟨W2, hW2⟩ : ∃ W2, W2 = w1.alloc (.cells #[.int .i64 (lb s 0), .int .i64 (lb s 1), .int .i64 (lb s 2), .int .i64 (lb s 3), .int .i64 (lb s 4), .int .i64 (lb s 5), .int .i64 (lb s 6), .int .i64 (lb s 7)] 44) := ⟨_, rfl⟩
  obtain ⟨g, hg⟩ : ∃ g, g = w1.heap.size := ⟨_, rfl⟩
  have H : RSums w a b s g W2 := by
    rw [hW2]
    exact RSums.start H0.out (hb.alloc hb.size _) (Eight.new hg.symm _ (lb s))
  go_wp2_with fail
  rw [← hW2, ← hg]
  clear hW2 hb hg w1 H0 q2 a0 a1 a2 a3 a4 a5 a6 a7 b0 b1 b2 b3 b4 b5 b6 b7
  by_cases h1 : 32768 ≤ lb a 7 <;> by_cases h2 : 32768 ≤ lb b 7
  · by_cases h3 : 32768 ≤ lb s 7
    · have hfit : fits s := by rw [HW.out]; simp [h1, h2, h3]
      have HF := Lib.hid hfit; clear hfit HW
      have dh1 : decide (32768 ≤ lb a 7) = true := by simpa using h1
      have dh2 : decide (32768 ≤ lb b 7) = true := by simpa using h2
      have dh3 : decide (32768 ≤ lb s 7) = true := by simpa using h3
      clear h1 h2 h3
      go_upto_region 2 with fail
      go_cut [21] (fun t wx => t = .bool false ∧ RSums w a b s g wx)
      case first =>
        obtain ⟨a0, a1, a2, a3, a4, a5, a6, a7, _⟩ := eight_cells H.ea
        obtain ⟨b0, b1, b2, b3, b4, b5, b6, b7, _⟩ := eight_cells H.eb
        obtain ⟨s0, s1, s2, s3, s4, s5, s6, s7, _⟩ := eight_cells H.es
        go_region_held3 (fun w' => w'.cell? ⟨w.heap.size, 0, none⟩ = some (.int .i64 (lb a 0)) ∧ w'.cell? ⟨w.heap.size, 1, none⟩ = some (.int .i64 (lb a 1)) ∧ w'.cell? ⟨w.heap.size, 2, none⟩ = some (.int .i64 (lb a 2)) ∧ w'.cell? ⟨w.heap.size, 3, none⟩ = some (.int .i64 (lb a 3)) ∧ w'.cell? ⟨w.heap.size, 4, none⟩ = some (.int .i64 (lb a 4)) ∧ w'.cell? ⟨w.heap.size, 5, none⟩ = some (.int .i64 (lb a 5)) ∧ w'.cell? ⟨w.heap.size, 6, none⟩ = some (.int .i64 (lb a 6)) ∧ w'.cell? ⟨w.heap.size, 7, none⟩ = some (.int .i64 (lb a 7)) ∧ w'.cell? ⟨w.heap.size + 1, 0, none⟩ = some (.int .i64 (lb b 0)) ∧ w'.cell? ⟨w.heap.size + 1, 1, none⟩ = some (.int .i64 (lb b 1)) ∧ w'.cell? ⟨w.heap.size + 1, 2, none⟩ = some (.int .i64 (lb b 2)) ∧ w'.cell? ⟨w.heap.size + 1, 3, none⟩ = some (.int .i64 (lb b 3)) ∧ w'.cell? ⟨w.heap.size + 1, 4, none⟩ = some (.int .i64 (lb b 4)) ∧ w'.cell? ⟨w.heap.size + 1, 5, none⟩ = some (.int .i64 (lb b 5)) ∧ w'.cell? ⟨w.heap.size + 1, 6, none⟩ = some (.int .i64 (lb b 6)) ∧ w'.cell? ⟨w.heap.size + 1, 7, none⟩ = some (.int .i64 (lb b 7)) ∧ w'.cell? ⟨g, 0, none⟩ = some (.int .i64 (lb s 0)) ∧ w'.cell? ⟨g, 1, none⟩ = some (.int .i64 (lb s 1)) ∧ w'.cell? ⟨g, 2, none⟩ = some (.int .i64 (lb s 2)) ∧ w'.cell? ⟨g, 3, none⟩ = some (.int .i64 (lb s 3)) ∧ w'.cell? ⟨g, 4, none⟩ = some (.int .i64 (lb s 4)) ∧ w'.cell? ⟨g, 5, none⟩ = some (.int .i64 (lb s 5)) ∧ w'.cell? ⟨g, 6, none⟩ = some (.int .i64 (lb s 6)) ∧ w'.cell? ⟨g, 7, none⟩ = some (.int .i64 (lb s 7))) ((refine ⟨?_, ?_, ?_, ?_, ?_, ?_, ?_, ?_, ?_, ?_, ?_, ?_, ?_, ?_, ?_, ?_, ?_, ?_, ?_, ?_, ?_, ?_, ?_, ?_⟩ <;> (repeat (first | (with_reducible refine cell_dr ?_) | (with_reducible refine cell_al ?_))) <;> (with_reducible first | exact a0 | exact a1 | exact a2 | exact a3 | exact a4 | exact a5 | exact a6 | exact a7 | exact b0 | exact b1 | exact b2 | exact b3 | exact b4 | exact b5 | exact b6 | exact b7 | exact s0 | exact s1 | exact s2 | exact s3 | exact s4 | exact s5 | exact s6 | exact s7)))
          ((go_at_call 20; refine (neg_any _ _).mono ?_; rintro e w' ⟨rfl, rfl⟩))
        all_goals (go_wp2_with fail; go_meet; exact ⟨rfl, by with_reducible (repeat (first | refine RSums.dr ?_ | refine RSums.drN ?_ _ | refine RSums.al ?_ _)); exact H⟩)
      case rest =>
        obtain ⟨rfl, H'⟩ := hcut
        obtain ⟨hbel, _, _, er, es⟩ := H'
        obtain ⟨z0, z1, z2, z3, z4, z5, z6, z7, f0, f1, f2, f3, f4, f5, f6, f7⟩ := eight_cells er
        obtain ⟨s0, s1, s2, s3, s4, s5, s6, s7, _⟩ := eight_cells es
        have HER := Lib.hid er
        clear H er es
        go_wp2
        obtain ⟨r0, r1, r2, r3, r4, r5, r6, r7, _⟩ := eight_cells (eight_store HER.out (lb s))
        exact bodyPost_ret (v := .tuple #[.agg #[.int .i64 (lb s 0), .int .i64 (lb s 1), .int .i64 (lb s 2), .int .i64 (lb s 3), .int .i64 (lb s 4), .int .i64 (lb s 5), .int .i64 (lb s 6), .int .i64 (lb s 7)], .bool true]) (by simp only [results, Try.results38]; simp [go_sem, r0, r1, r2, r3, r4, r5, r6, r7]) rfl ⟨by rw [sumOf_yes HF.out, decide_eq_true HF.out], bel_store hbel (by omega) (lb s)⟩
    · have hfit : ¬ fits s := by rw [HW.out]; simp [h1, h2, h3]
      have HF := Lib.hid hfit; clear hfit HW
      have dh1 : decide (32768 ≤ lb a 7) = true := by simpa using h1
      have dh2 : decide (32768 ≤ lb b 7) = true := by simpa using h2
      have dh3 : decide (32768 ≤ lb s 7) = false := by simpa using h3
      clear h1 h2 h3
      go_upto_region 2 with fail
      go_cut [21] (fun t wx => t = .bool true ∧ RSums w a b s g wx)
      case first =>
        obtain ⟨a0, a1, a2, a3, a4, a5, a6, a7, _⟩ := eight_cells H.ea
        obtain ⟨b0, b1, b2, b3, b4, b5, b6, b7, _⟩ := eight_cells H.eb
        obtain ⟨s0, s1, s2, s3, s4, s5, s6, s7, _⟩ := eight_cells H.es
        go_region_held3 (fun w' => w'.cell? ⟨w.heap.size, 0, none⟩ = some (.int .i64 (lb a 0)) ∧ w'.cell? ⟨w.heap.size, 1, none⟩ = some (.int .i64 (lb a 1)) ∧ w'.cell? ⟨w.heap.size, 2, none⟩ = some (.int .i64 (lb a 2)) ∧ w'.cell? ⟨w.heap.size, 3, none⟩ = some (.int .i64 (lb a 3)) ∧ w'.cell? ⟨w.heap.size, 4, none⟩ = some (.int .i64 (lb a 4)) ∧ w'.cell? ⟨w.heap.size, 5, none⟩ = some (.int .i64 (lb a 5)) ∧ w'.cell? ⟨w.heap.size, 6, none⟩ = some (.int .i64 (lb a 6)) ∧ w'.cell? ⟨w.heap.size, 7, none⟩ = some (.int .i64 (lb a 7)) ∧ w'.cell? ⟨w.heap.size + 1, 0, none⟩ = some (.int .i64 (lb b 0)) ∧ w'.cell? ⟨w.heap.size + 1, 1, none⟩ = some (.int .i64 (lb b 1)) ∧ w'.cell? ⟨w.heap.size + 1, 2, none⟩ = some (.int .i64 (lb b 2)) ∧ w'.cell? ⟨w.heap.size + 1, 3, none⟩ = some (.int .i64 (lb b 3)) ∧ w'.cell? ⟨w.heap.size + 1, 4, none⟩ = some (.int .i64 (lb b 4)) ∧ w'.cell? ⟨w.heap.size + 1, 5, none⟩ = some (.int .i64 (lb b 5)) ∧ w'.cell? ⟨w.heap.size + 1, 6, none⟩ = some (.int .i64 (lb b 6)) ∧ w'.cell? ⟨w.heap.size + 1, 7, none⟩ = some (.int .i64 (lb b 7)) ∧ w'.cell? ⟨g, 0, none⟩ = some (.int .i64 (lb s 0)) ∧ w'.cell? ⟨g, 1, none⟩ = some (.int .i64 (lb s 1)) ∧ w'.cell? ⟨g, 2, none⟩ = some (.int .i64 (lb s 2)) ∧ w'.cell? ⟨g, 3, none⟩ = some (.int .i64 (lb s 3)) ∧ w'.cell? ⟨g, 4, none⟩ = some (.int .i64 (lb s 4)) ∧ w'.cell? ⟨g, 5, none⟩ = some (.int .i64 (lb s 5)) ∧ w'.cell? ⟨g, 6, none⟩ = some (.int .i64 (lb s 6)) ∧ w'.cell? ⟨g, 7, none⟩ = some (.int .i64 (lb s 7))) ((refine ⟨?_, ?_, ?_, ?_, ?_, ?_, ?_, ?_, ?_, ?_, ?_, ?_, ?_, ?_, ?_, ?_, ?_, ?_, ?_, ?_, ?_, ?_, ?_, ?_⟩ <;> (repeat (first | (with_reducible refine cell_dr ?_) | (with_reducible refine cell_al ?_))) <;> (with_reducible first | exact a0 | exact a1 | exact a2 | exact a3 | exact a4 | exact a5 | exact a6 | exact a7 | exact b0 | exact b1 | exact b2 | exact b3 | exact b4 | exact b5 | exact b6 | exact b7 | exact s0 | exact s1 | exact s2 | exact s3 | exact s4 | exact s5 | exact s6 | exact s7)))
          ((go_at_call 20; refine (neg_any _ _).mono ?_; rintro e w' ⟨rfl, rfl⟩))
        all_goals (go_wp2_with fail; go_meet; exact ⟨rfl, by with_reducible (repeat (first | refine RSums.dr ?_ | refine RSums.drN ?_ _ | refine RSums.al ?_ _)); exact H⟩)
      case rest =>
        obtain ⟨rfl, H'⟩ := hcut
        obtain ⟨hbel, _, _, er, es⟩ := H'
        obtain ⟨z0, z1, z2, z3, z4, z5, z6, z7, f0, f1, f2, f3, f4, f5, f6, f7⟩ := eight_cells er
        obtain ⟨s0, s1, s2, s3, s4, s5, s6, s7, _⟩ := eight_cells es
        have HER := Lib.hid er
        clear H er es
        go_wp2
        obtain ⟨r0, r1, r2, r3, r4, r5, r6, r7, _⟩ := eight_cells (eight_store HER.out (fun _ => 0))
        exact bodyPost_ret (v := .tuple #[.agg #[.int .i64 0, .int .i64 0, .int .i64 0, .int .i64 0, .int .i64 0, .int .i64 0, .int .i64 0, .int .i64 0], .bool false]) (by simp only [results, Try.results38]; simp [go_sem, r0, r1, r2, r3, r4, r5, r6, r7]) rfl ⟨by rw [sumOf_no HF.out, decide_eq_false HF.out]; simp only [lb_zero], bel_store hbel (by omega) (fun _ => 0)⟩
  · have hfit : fits s := by rw [HW.out]; simp [h1, h2]
    have HF := Lib.hid hfit; clear hfit HW
    have dh1 : decide (32768 ≤ lb a 7) = true := by simpa using h1
    have dh2 : decide (32768 ≤ lb b 7) = false := by simpa using h2
    clear h1 h2
    go_upto_region 2 with fail
    go_cut [21] (fun t wx => t = .bool false ∧ RSums w a b s g wx)
    case first =>
      obtain ⟨a0, a1, a2, a3, a4, a5, a6, a7, _⟩ := eight_cells H.ea
      obtain ⟨b0, b1, b2, b3, b4, b5, b6, b7, _⟩ := eight_cells H.eb
      have ka0 : ∀ o, (W2.alloc o).cell? ⟨w.heap.size, 0, none⟩ = some (.int .i64 (lb a 0)) := fun o => cell_al a0
      have ka1 : ∀ o, (W2.alloc o).cell? ⟨w.heap.size, 1, none⟩ = some (.int .i64 (lb a 1)) := fun o => cell_al a1
      have ka2 : ∀ o, (W2.alloc o).cell? ⟨w.heap.size, 2, none⟩ = some (.int .i64 (lb a 2)) := fun o => cell_al a2
      have ka3 : ∀ o, (W2.alloc o).cell? ⟨w.heap.size, 3, none⟩ = some (.int .i64 (lb a 3)) := fun o => cell_al a3
      have ka4 : ∀ o, (W2.alloc o).cell? ⟨w.heap.size, 4, none⟩ = some (.int .i64 (lb a 4)) := fun o => cell_al a4
      have ka5 : ∀ o, (W2.alloc o).cell? ⟨w.heap.size, 5, none⟩ = some (.int .i64 (lb a 5)) := fun o => cell_al a5
      have ka6 : ∀ o, (W2.alloc o).cell? ⟨w.heap.size, 6, none⟩ = some (.int .i64 (lb a 6)) := fun o => cell_al a6
      have ka7 : ∀ o, (W2.alloc o).cell? ⟨w.heap.size, 7, none⟩ = some (.int .i64 (lb a 7)) := fun o => cell_al a7
      have kb0 : ∀ o, (W2.alloc o).cell? ⟨w.heap.size + 1, 0, none⟩ = some (.int .i64 (lb b 0)) := fun o => cell_al b0
      have kb1 : ∀ o, (W2.alloc o).cell? ⟨w.heap.size + 1, 1, none⟩ = some (.int .i64 (lb b 1)) := fun o => cell_al b1
      have kb2 : ∀ o, (W2.alloc o).cell? ⟨w.heap.size + 1, 2, none⟩ = some (.int .i64 (lb b 2)) := fun o => cell_al b2
      have kb3 : ∀ o, (W2.alloc o).cell? ⟨w.heap.size + 1, 3, none⟩ = some (.int .i64 (lb b 3)) := fun o => cell_al b3
      have kb4 : ∀ o, (W2.alloc o).cell? ⟨w.heap.size + 1, 4, none⟩ = some (.int .i64 (lb b 4)) := fun o => cell_al b4
      have kb5 : ∀ o, (W2.alloc o).cell? ⟨w.heap.size + 1, 5, none⟩ = some (.int .i64 (lb b 5)) := fun o => cell_al b5
      have kb6 : ∀ o, (W2.alloc o).cell? ⟨w.heap.size + 1, 6, none⟩ = some (.int .i64 (lb b 6)) := fun o => cell_al b6
      have kb7 : ∀ o, (W2.alloc o).cell? ⟨w.heap.size + 1, 7, none⟩ = some (.int .i64 (lb b 7)) := fun o => cell_al b7
      go_region_with ((go_at_call 20; refine (neg_any _ _).mono ?_; rintro e w' ⟨rfl, rfl⟩))
      all_goals (go_wp2_with fail; go_meet; exact ⟨rfl, by with_reducible (repeat (first | refine RSums.dr ?_ | refine RSums.drN ?_ _ | refine RSums.al ?_ _)); exact H⟩)
    case rest =>
      obtain ⟨rfl, H'⟩ := hcut
      obtain ⟨hbel, _, _, er, es⟩ := H'
      obtain ⟨z0, z1, z2, z3, z4, z5, z6, z7, f0, f1, f2, f3, f4, f5, f6, f7⟩ := eight_cells er
      obtain ⟨s0, s1, s2, s3, s4, s5, s6, s7, _⟩ := eight_cells es
      have HER := Lib.hid er
      clear H er es
      go_wp2
      obtain ⟨r0, r1, r2, r3, r4, r5, r6, r7, _⟩ := eight_cells (eight_store HER.out (lb s))
      exact bodyPost_ret (v := .tuple #[.agg #[.int .i64 (lb s 0), .int .i64 (lb s 1), .int .i64 (lb s 2), .int .i64 (lb s 3), .int .i64 (lb s 4), .int .i64 (lb s 5), .int .i64 (lb s 6), .int .i64 (lb s 7)], .bool true]) (by simp only [results, Try.results38]; simp [go_sem, r0, r1, r2, r3, r4, r5, r6, r7]) rfl ⟨by rw [sumOf_yes HF.out, decide_eq_true HF.out], bel_store hbel (by omega) (lb s)⟩
  · have hfit : fits s := by rw [HW.out]; simp [h1, h2]
    have HF := Lib.hid hfit; clear hfit HW
    have dh1 : decide (32768 ≤ lb a 7) = false := by simpa using h1
    have dh2 : decide (32768 ≤ lb b 7) = true := by simpa using h2
    clear h1 h2
    go_upto_region 2 with fail
    go_cut [21] (fun t wx => t = .bool false ∧ RSums w a b s g wx)
    case first =>
      obtain ⟨a0, a1, a2, a3, a4, a5, a6, a7, _⟩ := eight_cells H.ea
      obtain ⟨b0, b1, b2, b3, b4, b5, b6, b7, _⟩ := eight_cells H.eb
      have ka0 : ∀ o, (W2.alloc o).cell? ⟨w.heap.size, 0, none⟩ = some (.int .i64 (lb a 0)) := fun o => cell_al a0
      have ka1 : ∀ o, (W2.alloc o).cell? ⟨w.heap.size, 1, none⟩ = some (.int .i64 (lb a 1)) := fun o => cell_al a1
      have ka2 : ∀ o, (W2.alloc o).cell? ⟨w.heap.size, 2, none⟩ = some (.int .i64 (lb a 2)) := fun o => cell_al a2
      have ka3 : ∀ o, (W2.alloc o).cell? ⟨w.heap.size, 3, none⟩ = some (.int .i64 (lb a 3)) := fun o => cell_al a3
      have ka4 : ∀ o, (W2.alloc o).cell? ⟨w.heap.size, 4, none⟩ = some (.int .i64 (lb a 4)) := fun o => cell_al a4
      have ka5 : ∀ o, (W2.alloc o).cell? ⟨w.heap.size, 5, none⟩ = some (.int .i64 (lb a 5)) := fun o => cell_al a5
      have ka6 : ∀ o, (W2.alloc o).cell? ⟨w.heap.size, 6, none⟩ = some (.int .i64 (lb a 6)) := fun o => cell_al a6
      have ka7 : ∀ o, (W2.alloc o).cell? ⟨w.heap.size, 7, none⟩ = some (.int .i64 (lb a 7)) := fun o => cell_al a7
      have kb0 : ∀ o, (W2.alloc o).cell? ⟨w.heap.size + 1, 0, none⟩ = some (.int .i64 (lb b 0)) := fun o => cell_al b0
      have kb1 : ∀ o, (W2.alloc o).cell? ⟨w.heap.size + 1, 1, none⟩ = some (.int .i64 (lb b 1)) := fun o => cell_al b1
      have kb2 : ∀ o, (W2.alloc o).cell? ⟨w.heap.size + 1, 2, none⟩ = some (.int .i64 (lb b 2)) := fun o => cell_al b2
      have kb3 : ∀ o, (W2.alloc o).cell? ⟨w.heap.size + 1, 3, none⟩ = some (.int .i64 (lb b 3)) := fun o => cell_al b3
      have kb4 : ∀ o, (W2.alloc o).cell? ⟨w.heap.size + 1, 4, none⟩ = some (.int .i64 (lb b 4)) := fun o => cell_al b4
      have kb5 : ∀ o, (W2.alloc o).cell? ⟨w.heap.size + 1, 5, none⟩ = some (.int .i64 (lb b 5)) := fun o => cell_al b5
      have kb6 : ∀ o, (W2.alloc o).cell? ⟨w.heap.size + 1, 6, none⟩ = some (.int .i64 (lb b 6)) := fun o => cell_al b6
      have kb7 : ∀ o, (W2.alloc o).cell? ⟨w.heap.size + 1, 7, none⟩ = some (.int .i64 (lb b 7)) := fun o => cell_al b7
      go_region_with ((go_at_call 20; refine (neg_any _ _).mono ?_; rintro e w' ⟨rfl, rfl⟩))
      all_goals (go_wp2_with fail; go_meet; exact ⟨rfl, by with_reducible (repeat (first | refine RSums.dr ?_ | refine RSums.drN ?_ _ | refine RSums.al ?_ _)); exact H⟩)
    case rest =>
      obtain ⟨rfl, H'⟩ := hcut
      obtain ⟨hbel, _, _, er, es⟩ := H'
      obtain ⟨z0, z1, z2, z3, z4, z5, z6, z7, f0, f1, f2, f3, f4, f5, f6, f7⟩ := eight_cells er
      obtain ⟨s0, s1, s2, s3, s4, s5, s6, s7, _⟩ := eight_cells es
      have HER := Lib.hid er
      clear H er es
      go_wp2
      obtain ⟨r0, r1, r2, r3, r4, r5, r6, r7, _⟩ := eight_cells (eight_store HER.out (lb s))
      exact bodyPost_ret (v := .tuple #[.agg #[.int .i64 (lb s 0), .int .i64 (lb s 1), .int .i64 (lb s 2), .int .i64 (lb s 3), .int .i64 (lb s 4), .int .i64 (lb s 5), .int .i64 (lb s 6), .int .i64 (lb s 7)], .bool true]) (by simp only [results, Try.results38]; simp [go_sem, r0, r1, r2, r3, r4, r5, r6, r7]) rfl ⟨by rw [sumOf_yes HF.out, decide_eq_true HF.out], bel_store hbel (by omega) (lb s)⟩
  · by_cases h3 : 32768 ≤ lb s 7
    · have hfit : ¬ fits s := by rw [HW.out]; simp [h1, h2, h3]
      have HF := Lib.hid hfit; clear hfit HW
      have dh1 : decide (32768 ≤ lb a 7) = false := by simpa using h1
      have dh2 : decide (32768 ≤ lb b 7) = false := by simpa using h2
      have dh3 : decide (32768 ≤ lb s 7) = true := by simpa using h3
      clear h1 h2 h3
      go_upto_region 2 with fail
      go_cut [21] (fun t wx => t = .bool true ∧ RSums w a b s g wx)
      case first =>
        obtain ⟨a0, a1, a2, a3, a4, a5, a6, a7, _⟩ := eight_cells H.ea
        obtain ⟨b0, b1, b2, b3, b4, b5, b6, b7, _⟩ := eight_cells H.eb
        obtain ⟨s0, s1, s2, s3, s4, s5, s6, s7, _⟩ := eight_cells H.es
        go_region_held3 (fun w' => w'.cell? ⟨w.heap.size, 0, none⟩ = some (.int .i64 (lb a 0)) ∧ w'.cell? ⟨w.heap.size, 1, none⟩ = some (.int .i64 (lb a 1)) ∧ w'.cell? ⟨w.heap.size, 2, none⟩ = some (.int .i64 (lb a 2)) ∧ w'.cell? ⟨w.heap.size, 3, none⟩ = some (.int .i64 (lb a 3)) ∧ w'.cell? ⟨w.heap.size, 4, none⟩ = some (.int .i64 (lb a 4)) ∧ w'.cell? ⟨w.heap.size, 5, none⟩ = some (.int .i64 (lb a 5)) ∧ w'.cell? ⟨w.heap.size, 6, none⟩ = some (.int .i64 (lb a 6)) ∧ w'.cell? ⟨w.heap.size, 7, none⟩ = some (.int .i64 (lb a 7)) ∧ w'.cell? ⟨w.heap.size + 1, 0, none⟩ = some (.int .i64 (lb b 0)) ∧ w'.cell? ⟨w.heap.size + 1, 1, none⟩ = some (.int .i64 (lb b 1)) ∧ w'.cell? ⟨w.heap.size + 1, 2, none⟩ = some (.int .i64 (lb b 2)) ∧ w'.cell? ⟨w.heap.size + 1, 3, none⟩ = some (.int .i64 (lb b 3)) ∧ w'.cell? ⟨w.heap.size + 1, 4, none⟩ = some (.int .i64 (lb b 4)) ∧ w'.cell? ⟨w.heap.size + 1, 5, none⟩ = some (.int .i64 (lb b 5)) ∧ w'.cell? ⟨w.heap.size + 1, 6, none⟩ = some (.int .i64 (lb b 6)) ∧ w'.cell? ⟨w.heap.size + 1, 7, none⟩ = some (.int .i64 (lb b 7)) ∧ w'.cell? ⟨g, 0, none⟩ = some (.int .i64 (lb s 0)) ∧ w'.cell? ⟨g, 1, none⟩ = some (.int .i64 (lb s 1)) ∧ w'.cell? ⟨g, 2, none⟩ = some (.int .i64 (lb s 2)) ∧ w'.cell? ⟨g, 3, none⟩ = some (.int .i64 (lb s 3)) ∧ w'.cell? ⟨g, 4, none⟩ = some (.int .i64 (lb s 4)) ∧ w'.cell? ⟨g, 5, none⟩ = some (.int .i64 (lb s 5)) ∧ w'.cell? ⟨g, 6, none⟩ = some (.int .i64 (lb s 6)) ∧ w'.cell? ⟨g, 7, none⟩ = some (.int .i64 (lb s 7))) ((refine ⟨?_, ?_, ?_, ?_, ?_, ?_, ?_, ?_, ?_, ?_, ?_, ?_, ?_, ?_, ?_, ?_, ?_, ?_, ?_, ?_, ?_, ?_, ?_, ?_⟩ <;> (repeat (first | (with_reducible refine cell_dr ?_) | (with_reducible refine cell_al ?_))) <;> (with_reducible first | exact a0 | exact a1 | exact a2 | exact a3 | exact a4 | exact a5 | exact a6 | exact a7 | exact b0 | exact b1 | exact b2 | exact b3 | exact b4 | exact b5 | exact b6 | exact b7 | exact s0 | exact s1 | exact s2 | exact s3 | exact s4 | exact s5 | exact s6 | exact s7)))
          ((go_at_call 20; refine (neg_any _ _).mono ?_; rintro e w' ⟨rfl, rfl⟩))
        all_goals (go_wp2_with fail; go_meet; exact ⟨rfl, by with_reducible (repeat (first | refine RSums.dr ?_ | refine RSums.drN ?_ _ | refine RSums.al ?_ _)); exact H⟩)
      case rest =>
        obtain ⟨rfl, H'⟩ := hcut
        obtain ⟨hbel, _, _, er, es⟩ := H'
        obtain ⟨z0, z1, z2, z3, z4, z5, z6, z7, f0, f1, f2, f3, f4, f5, f6, f7⟩ := eight_cells er
        obtain ⟨s0, s1, s2, s3, s4, s5, s6, s7, _⟩ := eight_cells es
        have HER := Lib.hid er
        clear H er es
        go_wp2
        obtain ⟨r0, r1, r2, r3, r4, r5, r6, r7, _⟩ := eight_cells (eight_store HER.out (fun _ => 0))
        exact bodyPost_ret (v := .tuple #[.agg #[.int .i64 0, .int .i64 0, .int .i64 0, .int .i64 0, .int .i64 0, .int .i64 0, .int .i64 0, .int .i64 0], .bool false]) (by simp only [results, Try.results38]; simp [go_sem, r0, r1, r2, r3, r4, r5, r6, r7]) rfl ⟨by rw [sumOf_no HF.out, decide_eq_false HF.out]; simp only [lb_zero], bel_store hbel (by omega) (fun _ => 0)⟩
    · have hfit : fits s := by rw [HW.out]; simp [h1, h2, h3]
      have HF := Lib.hid hfit; clear hfit HW
      have dh1 : decide (32768 ≤ lb a 7) = false := by simpa using h1
      have dh2 : decide (32768 ≤ lb b 7) = false := by simpa using h2
      have dh3 : decide (32768 ≤ lb s 7) = false := by simpa using h3
      clear h1 h2 h3
      go_upto_region 2 with fail
      go_cut [21] (fun t wx => t = .bool false ∧ RSums w a b s g wx)
      case first =>
        obtain ⟨a0, a1, a2, a3, a4, a5, a6, a7, _⟩ := eight_cells H.ea
        obtain ⟨b0, b1, b2, b3, b4, b5, b6, b7, _⟩ := eight_cells H.eb
        obtain ⟨s0, s1, s2, s3, s4, s5, s6, s7, _⟩ := eight_cells H.es
        go_region_held3 (fun w' => w'.cell? ⟨w.heap.size, 0, none⟩ = some (.int .i64 (lb a 0)) ∧ w'.cell? ⟨w.heap.size, 1, none⟩ = some (.int .i64 (lb a 1)) ∧ w'.cell? ⟨w.heap.size, 2, none⟩ = some (.int .i64 (lb a 2)) ∧ w'.cell? ⟨w.heap.size, 3, none⟩ = some (.int .i64 (lb a 3)) ∧ w'.cell? ⟨w.heap.size, 4, none⟩ = some (.int .i64 (lb a 4)) ∧ w'.cell? ⟨w.heap.size, 5, none⟩ = some (.int .i64 (lb a 5)) ∧ w'.cell? ⟨w.heap.size, 6, none⟩ = some (.int .i64 (lb a 6)) ∧ w'.cell? ⟨w.heap.size, 7, none⟩ = some (.int .i64 (lb a 7)) ∧ w'.cell? ⟨w.heap.size + 1, 0, none⟩ = some (.int .i64 (lb b 0)) ∧ w'.cell? ⟨w.heap.size + 1, 1, none⟩ = some (.int .i64 (lb b 1)) ∧ w'.cell? ⟨w.heap.size + 1, 2, none⟩ = some (.int .i64 (lb b 2)) ∧ w'.cell? ⟨w.heap.size + 1, 3, none⟩ = some (.int .i64 (lb b 3)) ∧ w'.cell? ⟨w.heap.size + 1, 4, none⟩ = some (.int .i64 (lb b 4)) ∧ w'.cell? ⟨w.heap.size + 1, 5, none⟩ = some (.int .i64 (lb b 5)) ∧ w'.cell? ⟨w.heap.size + 1, 6, none⟩ = some (.int .i64 (lb b 6)) ∧ w'.cell? ⟨w.heap.size + 1, 7, none⟩ = some (.int .i64 (lb b 7)) ∧ w'.cell? ⟨g, 0, none⟩ = some (.int .i64 (lb s 0)) ∧ w'.cell? ⟨g, 1, none⟩ = some (.int .i64 (lb s 1)) ∧ w'.cell? ⟨g, 2, none⟩ = some (.int .i64 (lb s 2)) ∧ w'.cell? ⟨g, 3, none⟩ = some (.int .i64 (lb s 3)) ∧ w'.cell? ⟨g, 4, none⟩ = some (.int .i64 (lb s 4)) ∧ w'.cell? ⟨g, 5, none⟩ = some (.int .i64 (lb s 5)) ∧ w'.cell? ⟨g, 6, none⟩ = some (.int .i64 (lb s 6)) ∧ w'.cell? ⟨g, 7, none⟩ = some (.int .i64 (lb s 7))) ((refine ⟨?_, ?_, ?_, ?_, ?_, ?_, ?_, ?_, ?_, ?_, ?_, ?_, ?_, ?_, ?_, ?_, ?_, ?_, ?_, ?_, ?_, ?_, ?_, ?_⟩ <;> (repeat (first | (with_reducible refine cell_dr ?_) | (with_reducible refine cell_al ?_))) <;> (with_reducible first | exact a0 | exact a1 | exact a2 | exact a3 | exact a4 | exact a5 | exact a6 | exact a7 | exact b0 | exact b1 | exact b2 | exact b3 | exact b4 | exact b5 | exact b6 | exact b7 | exact s0 | exact s1 | exact s2 | exact s3 | exact s4 | exact s5 | exact s6 | exact s7)))
          ((go_at_call 20; refine (neg_any _ _).mono ?_; rintro e w' ⟨rfl, rfl⟩))
        all_goals (go_wp2_with fail; go_meet; exact ⟨rfl, by with_reducible (repeat (first | refine RSums.dr ?_ | refine RSums.drN ?_ _ | refine RSums.al ?_ _)); exact H⟩)
      case rest =>
        obtain ⟨rfl, H'⟩ := hcut
        obtain ⟨hbel, _, _, er, es⟩ := H'
        obtain ⟨z0, z1, z2, z3, z4, z5, z6, z7, f0, f1, f2, f3, f4, f5, f6, f7⟩ := eight_cells er
        obtain ⟨s0, s1, s2, s3, s4, s5, s6, s7, _⟩ := eight_cells es
        have HER := Lib.hid er
        clear H er es
        go_wp2
        obtain ⟨r0, r1, r2, r3, r4, r5, r6, r7, _⟩ := eight_cells (eight_store HER.out (lb s))
        exact bodyPost_ret (v := .tuple #[.agg #[.int .i64 (lb s 0), .int .i64 (lb s 1), .int .i64 (lb s 2), .int .i64 (lb s 3), .int .i64 (lb s 4), .int .i64 (lb s 5), .int .i64 (lb s 6), .int .i64 (lb s 7)], .bool true]) (by simp only [results, Try.results38]; simp [go_sem, r0, r1, r2, r3, r4, r5, r6, r7]) rfl ⟨by rw [sumOf_yes HF.out, decide_eq_true HF.out], bel_store hbel (by omega) (lb s)⟩
set_option maxRecDepth 100000 in
set_option maxHeartbeats 8000000 in
theorem rsub_any (a b : Int) (w : World) (ha : fits a) (hb : fits b) :
    Calls Try.prog 34 #[.agg #[.int .i64 (lb a 0), .int .i64 (lb a 1), .int .i64 (lb a 2), .int .i64 (lb a 3), .int .i64 (lb a 4), .int .i64 (lb a 5), .int .i64 (lb a 6), .int .i64 (lb a 7)], .agg #[.int .i64 (lb b 0), .int .i64 (lb b 1), .int .i64 (lb b 2), .int .i64 (lb b 3), .int .i64 (lb b 4), .int .i64 (lb b 5), .int .i64 (lb b 6), .int .i64 (lb b 7)]] w fun e w' => e = .returned (.tuple #[.agg #[.int .i64 (lb (sumOf (a - b)) 0), .int .i64 (lb (sumOf (a - b)) 1), .int .i64 (lb (sumOf (a - b)) 2), .int .i64 (lb (sumOf (a - b)) 3), .int .i64 (lb (sumOf (a - b)) 4), .int .i64 (lb (sumOf (a - b)) 5), .int .i64 (lb (sumOf (a - b)) 6), .int .i64 (lb (sumOf (a - b)) 7)], .bool (decide (fits (a - b)))]) ∧ Below w.heap.size w w' := by
  have hw := wrap_fits_sub a b ha hb
  obtain ⟨s, hs⟩ : ∃ s, s = a - b := ⟨_, rfl⟩
  have hs' : a + -b = s := by omega
  rw [hs', ← hs] at hw
  rw [← hs]
  have HM := Lib.hid (fun w => rminus_any b w)
  have HP := Lib.hid (fun w => rplus_any a (-b) w)
  rw [hs'] at HP
  clear hs hs'
  rw [← lb_sign, ← lb_sign, ← lb_sign] at hw
  have HW := Lib.hid hw; clear hw ha hb
  obtain ⟨W0, hW0⟩ : ∃ W0, W0 = (((w.alloc (.cells #[.int .i64 (lb a 0), .int .i64 (lb a 1), .int .i64 (lb a 2), .int .i64 (lb a 3), .int .i64 (lb a 4), .int .i64 (lb a 5), .int .i64 (lb a 6), .int .i64 (lb a 7)] 44)).alloc (.cells #[.int .i64 (lb b 0), .int .i64 (lb b 1), .int .i64 (lb b 2), .int .i64 (lb b 3), .int .i64 (lb b 4), .int .i64 (lb b 5), .int .i64 (lb b 6), .int .i64 (lb b 7)] 44)).alloc (.cells #[.int .i64 0, .int .i64 0, .int .i64 0, .int .i64 0, .int .i64 0, .int .i64 0, .int .i64 0, .int .i64 0] 44)) := ⟨_, rfl⟩
  have EA : Eight W0 w.heap.size (lb a) := by rw [hW0]; exact ((Eight.new rfl _ (lb a)).al _).al _
  have EB : Eight W0 (w.heap.size + 1) (lb b) := by rw [hW0]; exact (Eight.new (by simp) _ (lb b)).al _
  obtain ⟨a0, a1, a2, a3, a4, a5, a6, a7, _⟩ := eight_cells EA
  obtain ⟨b0, b1, b2, b3, b4, b5, b6, b7, _⟩ := eight_cells EB
  have q2 : w.heap.size + 1 < W0.heap.size := EB.lt
  clear EA EB
  have H0 := Lib.hid hW0; clear hW0
  go_enter Try.func34, Try.ntmps34
  go_wp2_with fail
  rw [← H0.out]
  go_upto_region 1 with fail
  go_cut [6] (fun t wx => ∃ g, t = .pointer (some ⟨g, 0, none⟩) ∧ RSums w a b s g wx)
  case first =>
    go_region_held3 (fun w' => w'.cell? ⟨w.heap.size, 0, none⟩ = some (.int .i64 (lb a 0)) ∧ w'.cell? ⟨w.heap.size, 1, none⟩ = some (.int .i64 (lb a 1)) ∧ w'.cell? ⟨w.heap.size, 2, none⟩ = some (.int .i64 (lb a 2)) ∧ w'.cell? ⟨w.heap.size, 3, none⟩ = some (.int .i64 (lb a 3)) ∧ w'.cell? ⟨w.heap.size, 4, none⟩ = some (.int .i64 (lb a 4)) ∧ w'.cell? ⟨w.heap.size, 5, none⟩ = some (.int .i64 (lb a 5)) ∧ w'.cell? ⟨w.heap.size, 6, none⟩ = some (.int .i64 (lb a 6)) ∧ w'.cell? ⟨w.heap.size, 7, none⟩ = some (.int .i64 (lb a 7)) ∧ w'.cell? ⟨w.heap.size + 1, 0, none⟩ = some (.int .i64 (lb b 0)) ∧ w'.cell? ⟨w.heap.size + 1, 1, none⟩ = some (.int .i64 (lb b 1)) ∧ w'.cell? ⟨w.heap.size + 1, 2, none⟩ = some (.int .i64 (lb b 2)) ∧ w'.cell? ⟨w.heap.size + 1, 3, none⟩ = some (.int .i64 (lb b 3)) ∧ w'.cell? ⟨w.heap.size + 1, 4, none⟩ = some (.int .i64 (lb b 4)) ∧ w'.cell? ⟨w.heap.size + 1, 5, none⟩ = some (.int .i64 (lb b 5)) ∧ w'.cell? ⟨w.heap.size + 1, 6, none⟩ = some (.int .i64 (lb b 6)) ∧ w'.cell? ⟨w.heap.size + 1, 7, none⟩ = some (.int .i64 (lb b 7))) ((refine ⟨?_, ?_, ?_, ?_, ?_, ?_, ?_, ?_, ?_, ?_, ?_, ?_, ?_, ?_, ?_, ?_⟩ <;> (repeat (first | (with_reducible refine cell_dr ?_) | (with_reducible refine cell_al ?_) | (with_reducible refine cell_be hbp ?_) | (with_reducible refine cell_be hbm ?_) | (with_reducible refine cset ?_ (by omega)))) <;> (with_reducible first | exact a0 | exact a1 | exact a2 | exact a3 | exact a4 | exact a5 | exact a6 | exact a7 | exact b0 | exact b1 | exact b2 | exact b3 | exact b4 | exact b5 | exact b6 | exact b7))) (first | (go_at_call 54; refine (HM.out _).mono ?_; rintro e wm ⟨rfl, hbm⟩; have hzm := hbm.size; (try simp at hzm); (try (have KM : Eight wm W0.heap.size (fun _ => 0) := (eight_dr (Eight.zero rfl _)).be hbm))) | (go_at_call 53; refine (HP.out _).mono ?_; rintro e wp ⟨rfl, hbp⟩; have hzp := hbp.size; (try simp at hzp); (try (have KP : Eight wp W0.heap.size (fun _ => 0) := KM.be hbp)); (try (have KJ : Eight wp wm.heap.size (fun _ => 0) := (Eight.zero rfl _).be hbp)); (try (have p0 := (KP 0 (by omega)).1)); (try (have pf0 := (KP 0 (by omega)).2)); (try (have j0 := (KJ 0 (by omega)).1)); (try (have jf0 := (KJ 0 (by omega)).2)); (try (have p1 := (KP 1 (by omega)).1)); (try (have pf1 := (KP 1 (by omega)).2)); (try (have j1 := (KJ 1 (by omega)).1)); (try (have jf1 := (KJ 1 (by omega)).2)); (try (have p2 := (KP 2 (by omega)).1)); (try (have pf2 := (KP 2 (by omega)).2)); (try (have j2 := (KJ 2 (by omega)).1)); (try (have jf2 := (KJ 2 (by omega)).2)); (try (have p3 := (KP 3 (by omega)).1)); (try (have pf3 := (KP 3 (by omega)).2)); (try (have j3 := (KJ 3 (by omega)).1)); (try (have jf3 := (KJ 3 (by omega)).2)); (try (have p4 := (KP 4 (by omega)).1)); (try (have pf4 := (KP 4 (by omega)).2)); (try (have j4 := (KJ 4 (by omega)).1)); (try (have jf4 := (KJ 4 (by omega)).2)); (try (have p5 := (KP 5 (by omega)).1)); (try (have pf5 := (KP 5 (by omega)).2)); (try (have j5 := (KJ 5 (by omega)).1)); (try (have jf5 := (KJ 5 (by omega)).2)); (try (have p6 := (KP 6 (by omega)).1)); (try (have pf6 := (KP 6 (by omega)).2)); (try (have j6 := (KJ 6 (by omega)).1)); (try (have jf6 := (KJ 6 (by omega)).2)); (try (have p7 := (KP 7 (by omega)).1)); (try (have pf7 := (KP 7 (by omega)).2)); (try (have j7 := (KJ 7 (by omega)).1)); (try (have jf7 := (KJ 7 (by omega)).2))))
    · go_wp2_with fail
      go_meet
      have hb0 := bel_step (Below.refl _ W0).drew (Nat.le_refl _) hbm
      have hb1 := bel_step hb0 (Nat.le_refl _) hbp
      exact ⟨_, rfl, RSums.start H0.out (hb1.alloc hb1.size _) (Eight.new rfl _ (lb s))⟩
    · go_wp2_with fail
      go_meet
      have hb0 := bel_step (Below.refl _ W0).drew (Nat.le_refl _) hbm
      have hz0 := hb0.size
      have hb1 := bel_step (hb0.alloc hb0.size (.cells #[.int .i64 0, .int .i64 0, .int .i64 0, .int .i64 0, .int .i64 0, .int .i64 0, .int .i64 0, .int .i64 0] 44)) (Nat.le_refl _) hbp
      exact ⟨_, rfl, RSums.start H0.out (bel_store hb1 hz0 (lb s)) (eight_store KJ (lb s))⟩
    · go_wp2_with fail
      go_meet
      have hb1 := bel_step (bel_step ((Below.refl _ W0).alloc (Nat.le_refl _) (.cells #[.int .i64 0, .int .i64 0, .int .i64 0, .int .i64 0, .int .i64 0, .int .i64 0, .int .i64 0, .int .i64 0] 44)).drew (Nat.le_refl _) hbm) (Nat.le_refl _) hbp
      exact ⟨_, rfl, RSums.start H0.out (bel_store hb1 (Nat.le_refl _) (lb s)) (eight_store KP (lb s))⟩
  case rest =>
  obtain ⟨g, rfl, H⟩ := hcut
  clear q2 H0 HM HP a0 a1 a2 a3 a4 a5 a6 a7 b0 b1 b2 b3 b4 b5 b6 b7
  by_cases h1 : 32768 ≤ lb a 7 <;> by_cases h2 : 32768 ≤ lb b 7
  · have hfit : fits s := by rw [HW.out]; simp [h1, h2]
    have HF := Lib.hid hfit; clear hfit HW
    have dh1 : decide (32768 ≤ lb a 7) = true := by simpa using h1
    have dh2 : decide (32768 ≤ lb b 7) = true := by simpa using h2
    clear h1 h2
    go_upto_region 2 with fail
    go_cut [22] (fun t wx => t = .bool false ∧ RSums w a b s g wx)
    case first =>
      obtain ⟨a0, a1, a2, a3, a4, a5, a6, a7, _⟩ := eight_cells H.ea
      obtain ⟨b0, b1, b2, b3, b4, b5, b6, b7, _⟩ := eight_cells H.eb
      have ka0 : ∀ o, (wc.alloc o).cell? ⟨w.heap.size, 0, none⟩ = some (.int .i64 (lb a 0)) := fun o => cell_al a0
      have ka1 : ∀ o, (wc.alloc o).cell? ⟨w.heap.size, 1, none⟩ = some (.int .i64 (lb a 1)) := fun o => cell_al a1
      have ka2 : ∀ o, (wc.alloc o).cell? ⟨w.heap.size, 2, none⟩ = some (.int .i64 (lb a 2)) := fun o => cell_al a2
      have ka3 : ∀ o, (wc.alloc o).cell? ⟨w.heap.size, 3, none⟩ = some (.int .i64 (lb a 3)) := fun o => cell_al a3
      have ka4 : ∀ o, (wc.alloc o).cell? ⟨w.heap.size, 4, none⟩ = some (.int .i64 (lb a 4)) := fun o => cell_al a4
      have ka5 : ∀ o, (wc.alloc o).cell? ⟨w.heap.size, 5, none⟩ = some (.int .i64 (lb a 5)) := fun o => cell_al a5
      have ka6 : ∀ o, (wc.alloc o).cell? ⟨w.heap.size, 6, none⟩ = some (.int .i64 (lb a 6)) := fun o => cell_al a6
      have ka7 : ∀ o, (wc.alloc o).cell? ⟨w.heap.size, 7, none⟩ = some (.int .i64 (lb a 7)) := fun o => cell_al a7
      have kb0 : ∀ o, (wc.alloc o).cell? ⟨w.heap.size + 1, 0, none⟩ = some (.int .i64 (lb b 0)) := fun o => cell_al b0
      have kb1 : ∀ o, (wc.alloc o).cell? ⟨w.heap.size + 1, 1, none⟩ = some (.int .i64 (lb b 1)) := fun o => cell_al b1
      have kb2 : ∀ o, (wc.alloc o).cell? ⟨w.heap.size + 1, 2, none⟩ = some (.int .i64 (lb b 2)) := fun o => cell_al b2
      have kb3 : ∀ o, (wc.alloc o).cell? ⟨w.heap.size + 1, 3, none⟩ = some (.int .i64 (lb b 3)) := fun o => cell_al b3
      have kb4 : ∀ o, (wc.alloc o).cell? ⟨w.heap.size + 1, 4, none⟩ = some (.int .i64 (lb b 4)) := fun o => cell_al b4
      have kb5 : ∀ o, (wc.alloc o).cell? ⟨w.heap.size + 1, 5, none⟩ = some (.int .i64 (lb b 5)) := fun o => cell_al b5
      have kb6 : ∀ o, (wc.alloc o).cell? ⟨w.heap.size + 1, 6, none⟩ = some (.int .i64 (lb b 6)) := fun o => cell_al b6
      have kb7 : ∀ o, (wc.alloc o).cell? ⟨w.heap.size + 1, 7, none⟩ = some (.int .i64 (lb b 7)) := fun o => cell_al b7
      go_region_with ((go_at_call 20; refine (neg_any _ _).mono ?_; rintro e w' ⟨rfl, rfl⟩))
      all_goals (go_wp2_with fail; go_meet; exact ⟨rfl, by with_reducible (repeat (first | refine RSums.dr ?_ | refine RSums.drN ?_ _ | refine RSums.al ?_ _)); exact H⟩)
    case rest =>
      obtain ⟨rfl, H'⟩ := hcut
      obtain ⟨hbel, _, _, er, es⟩ := H'
      obtain ⟨z0, z1, z2, z3, z4, z5, z6, z7, f0, f1, f2, f3, f4, f5, f6, f7⟩ := eight_cells er
      obtain ⟨s0, s1, s2, s3, s4, s5, s6, s7, _⟩ := eight_cells es
      have HER := Lib.hid er
      clear H er es
      go_wp2
      obtain ⟨r0, r1, r2, r3, r4, r5, r6, r7, _⟩ := eight_cells (eight_store HER.out (lb s))
      exact bodyPost_ret (v := .tuple #[.agg #[.int .i64 (lb s 0), .int .i64 (lb s 1), .int .i64 (lb s 2), .int .i64 (lb s 3), .int .i64 (lb s 4), .int .i64 (lb s 5), .int .i64 (lb s 6), .int .i64 (lb s 7)], .bool true]) (by simp only [results, Try.results34]; simp [go_sem, r0, r1, r2, r3, r4, r5, r6, r7]) rfl ⟨by rw [sumOf_yes HF.out, decide_eq_true HF.out], bel_store hbel (by omega) (lb s)⟩
  · by_cases h3 : 32768 ≤ lb s 7
    · have hfit : fits s := by rw [HW.out]; simp [h1, h2, h3]
      have HF := Lib.hid hfit; clear hfit HW
      have dh1 : decide (32768 ≤ lb a 7) = true := by simpa using h1
      have dh2 : decide (32768 ≤ lb b 7) = false := by simpa using h2
      have dh3 : decide (32768 ≤ lb s 7) = true := by simpa using h3
      clear h1 h2 h3
      go_upto_region 2 with fail
      go_cut [22] (fun t wx => t = .bool false ∧ RSums w a b s g wx)
      case first =>
        obtain ⟨a0, a1, a2, a3, a4, a5, a6, a7, _⟩ := eight_cells H.ea
        obtain ⟨b0, b1, b2, b3, b4, b5, b6, b7, _⟩ := eight_cells H.eb
        obtain ⟨s0, s1, s2, s3, s4, s5, s6, s7, _⟩ := eight_cells H.es
        go_region_held3 (fun w' => w'.cell? ⟨w.heap.size, 0, none⟩ = some (.int .i64 (lb a 0)) ∧ w'.cell? ⟨w.heap.size, 1, none⟩ = some (.int .i64 (lb a 1)) ∧ w'.cell? ⟨w.heap.size, 2, none⟩ = some (.int .i64 (lb a 2)) ∧ w'.cell? ⟨w.heap.size, 3, none⟩ = some (.int .i64 (lb a 3)) ∧ w'.cell? ⟨w.heap.size, 4, none⟩ = some (.int .i64 (lb a 4)) ∧ w'.cell? ⟨w.heap.size, 5, none⟩ = some (.int .i64 (lb a 5)) ∧ w'.cell? ⟨w.heap.size, 6, none⟩ = some (.int .i64 (lb a 6)) ∧ w'.cell? ⟨w.heap.size, 7, none⟩ = some (.int .i64 (lb a 7)) ∧ w'.cell? ⟨w.heap.size + 1, 0, none⟩ = some (.int .i64 (lb b 0)) ∧ w'.cell? ⟨w.heap.size + 1, 1, none⟩ = some (.int .i64 (lb b 1)) ∧ w'.cell? ⟨w.heap.size + 1, 2, none⟩ = some (.int .i64 (lb b 2)) ∧ w'.cell? ⟨w.heap.size + 1, 3, none⟩ = some (.int .i64 (lb b 3)) ∧ w'.cell? ⟨w.heap.size + 1, 4, none⟩ = some (.int .i64 (lb b 4)) ∧ w'.cell? ⟨w.heap.size + 1, 5, none⟩ = some (.int .i64 (lb b 5)) ∧ w'.cell? ⟨w.heap.size + 1, 6, none⟩ = some (.int .i64 (lb b 6)) ∧ w'.cell? ⟨w.heap.size + 1, 7, none⟩ = some (.int .i64 (lb b 7)) ∧ w'.cell? ⟨g, 0, none⟩ = some (.int .i64 (lb s 0)) ∧ w'.cell? ⟨g, 1, none⟩ = some (.int .i64 (lb s 1)) ∧ w'.cell? ⟨g, 2, none⟩ = some (.int .i64 (lb s 2)) ∧ w'.cell? ⟨g, 3, none⟩ = some (.int .i64 (lb s 3)) ∧ w'.cell? ⟨g, 4, none⟩ = some (.int .i64 (lb s 4)) ∧ w'.cell? ⟨g, 5, none⟩ = some (.int .i64 (lb s 5)) ∧ w'.cell? ⟨g, 6, none⟩ = some (.int .i64 (lb s 6)) ∧ w'.cell? ⟨g, 7, none⟩ = some (.int .i64 (lb s 7))) ((refine ⟨?_, ?_, ?_, ?_, ?_, ?_, ?_, ?_, ?_, ?_, ?_, ?_, ?_, ?_, ?_, ?_, ?_, ?_, ?_, ?_, ?_, ?_, ?_, ?_⟩ <;> (repeat (first | (with_reducible refine cell_dr ?_) | (with_reducible refine cell_al ?_))) <;> (with_reducible first | exact a0 | exact a1 | exact a2 | exact a3 | exact a4 | exact a5 | exact a6 | exact a7 | exact b0 | exact b1 | exact b2 | exact b3 | exact b4 | exact b5 | exact b6 | exact b7 | exact s0 | exact s1 | exact s2 | exact s3 | exact s4 | exact s5 | exact s6 | exact s7)))
          ((go_at_call 20; refine (neg_any _ _).mono ?_; rintro e w' ⟨rfl, rfl⟩))
        all_goals (go_wp2_with fail; go_meet; exact ⟨rfl, by with_reducible (repeat (first | refine RSums.dr ?_ | refine RSums.drN ?_ _ | refine RSums.al ?_ _)); exact H⟩)
      case rest =>
        obtain ⟨rfl, H'⟩ := hcut
        obtain ⟨hbel, _, _, er, es⟩ := H'
        obtain ⟨z0, z1, z2, z3, z4, z5, z6, z7, f0, f1, f2, f3, f4, f5, f6, f7⟩ := eight_cells er
        obtain ⟨s0, s1, s2, s3, s4, s5, s6, s7, _⟩ := eight_cells es
        have HER := Lib.hid er
        clear H er es
        go_wp2
        obtain ⟨r0, r1, r2, r3, r4, r5, r6, r7, _⟩ := eight_cells (eight_store HER.out (lb s))
        exact bodyPost_ret (v := .tuple #[.agg #[.int .i64 (lb s 0), .int .i64 (lb s 1), .int .i64 (lb s 2), .int .i64 (lb s 3), .int .i64 (lb s 4), .int .i64 (lb s 5), .int .i64 (lb s 6), .int .i64 (lb s 7)], .bool true]) (by simp only [results, Try.results34]; simp [go_sem, r0, r1, r2, r3, r4, r5, r6, r7]) rfl ⟨by rw [sumOf_yes HF.out, decide_eq_true HF.out], bel_store hbel (by omega) (lb s)⟩
    · have hfit : ¬ fits s := by rw [HW.out]; simp [h1, h2, h3]
      have HF := Lib.hid hfit; clear hfit HW
      have dh1 : decide (32768 ≤ lb a 7) = true := by simpa using h1
      have dh2 : decide (32768 ≤ lb b 7) = false := by simpa using h2
      have dh3 : decide (32768 ≤ lb s 7) = false := by simpa using h3
      clear h1 h2 h3
      go_upto_region 2 with fail
      go_cut [22] (fun t wx => t = .bool true ∧ RSums w a b s g wx)
      case first =>
        obtain ⟨a0, a1, a2, a3, a4, a5, a6, a7, _⟩ := eight_cells H.ea
        obtain ⟨b0, b1, b2, b3, b4, b5, b6, b7, _⟩ := eight_cells H.eb
        obtain ⟨s0, s1, s2, s3, s4, s5, s6, s7, _⟩ := eight_cells H.es
        go_region_held3 (fun w' => w'.cell? ⟨w.heap.size, 0, none⟩ = some (.int .i64 (lb a 0)) ∧ w'.cell? ⟨w.heap.size, 1, none⟩ = some (.int .i64 (lb a 1)) ∧ w'.cell? ⟨w.heap.size, 2, none⟩ = some (.int .i64 (lb a 2)) ∧ w'.cell? ⟨w.heap.size, 3, none⟩ = some (.int .i64 (lb a 3)) ∧ w'.cell? ⟨w.heap.size, 4, none⟩ = some (.int .i64 (lb a 4)) ∧ w'.cell? ⟨w.heap.size, 5, none⟩ = some (.int .i64 (lb a 5)) ∧ w'.cell? ⟨w.heap.size, 6, none⟩ = some (.int .i64 (lb a 6)) ∧ w'.cell? ⟨w.heap.size, 7, none⟩ = some (.int .i64 (lb a 7)) ∧ w'.cell? ⟨w.heap.size + 1, 0, none⟩ = some (.int .i64 (lb b 0)) ∧ w'.cell? ⟨w.heap.size + 1, 1, none⟩ = some (.int .i64 (lb b 1)) ∧ w'.cell? ⟨w.heap.size + 1, 2, none⟩ = some (.int .i64 (lb b 2)) ∧ w'.cell? ⟨w.heap.size + 1, 3, none⟩ = some (.int .i64 (lb b 3)) ∧ w'.cell? ⟨w.heap.size + 1, 4, none⟩ = some (.int .i64 (lb b 4)) ∧ w'.cell? ⟨w.heap.size + 1, 5, none⟩ = some (.int .i64 (lb b 5)) ∧ w'.cell? ⟨w.heap.size + 1, 6, none⟩ = some (.int .i64 (lb b 6)) ∧ w'.cell? ⟨w.heap.size + 1, 7, none⟩ = some (.int .i64 (lb b 7)) ∧ w'.cell? ⟨g, 0, none⟩ = some (.int .i64 (lb s 0)) ∧ w'.cell? ⟨g, 1, none⟩ = some (.int .i64 (lb s 1)) ∧ w'.cell? ⟨g, 2, none⟩ = some (.int .i64 (lb s 2)) ∧ w'.cell? ⟨g, 3, none⟩ = some (.int .i64 (lb s 3)) ∧ w'.cell? ⟨g, 4, none⟩ = some (.int .i64 (lb s 4)) ∧ w'.cell? ⟨g, 5, none⟩ = some (.int .i64 (lb s 5)) ∧ w'.cell? ⟨g, 6, none⟩ = some (.int .i64 (lb s 6)) ∧ w'.cell? ⟨g, 7, none⟩ = some (.int .i64 (lb s 7))) ((refine ⟨?_, ?_, ?_, ?_, ?_, ?_, ?_, ?_, ?_, ?_, ?_, ?_, ?_, ?_, ?_, ?_, ?_, ?_, ?_, ?_, ?_, ?_, ?_, ?_⟩ <;> (repeat (first | (with_reducible refine cell_dr ?_) | (with_reducible refine cell_al ?_))) <;> (with_reducible first | exact a0 | exact a1 | exact a2 | exact a3 | exact a4 | exact a5 | exact a6 | exact a7 | exact b0 | exact b1 | exact b2 | exact b3 | exact b4 | exact b5 | exact b6 | exact b7 | exact s0 | exact s1 | exact s2 | exact s3 | exact s4 | exact s5 | exact s6 | exact s7)))
          ((go_at_call 20; refine (neg_any _ _).mono ?_; rintro e w' ⟨rfl, rfl⟩))
        all_goals (go_wp2_with fail; go_meet; exact ⟨rfl, by with_reducible (repeat (first | refine RSums.dr ?_ | refine RSums.drN ?_ _ | refine RSums.al ?_ _)); exact H⟩)
      case rest =>
        obtain ⟨rfl, H'⟩ := hcut
        obtain ⟨hbel, _, _, er, es⟩ := H'
        obtain ⟨z0, z1, z2, z3, z4, z5, z6, z7, f0, f1, f2, f3, f4, f5, f6, f7⟩ := eight_cells er
        obtain ⟨s0, s1, s2, s3, s4, s5, s6, s7, _⟩ := eight_cells es
        have HER := Lib.hid er
        clear H er es
        go_wp2
        obtain ⟨r0, r1, r2, r3, r4, r5, r6, r7, _⟩ := eight_cells (eight_store HER.out (fun _ => 0))
        exact bodyPost_ret (v := .tuple #[.agg #[.int .i64 0, .int .i64 0, .int .i64 0, .int .i64 0, .int .i64 0, .int .i64 0, .int .i64 0, .int .i64 0], .bool false]) (by simp only [results, Try.results34]; simp [go_sem, r0, r1, r2, r3, r4, r5, r6, r7]) rfl ⟨by rw [sumOf_no HF.out, decide_eq_false HF.out]; simp only [lb_zero], bel_store hbel (by omega) (fun _ => 0)⟩
  · by_cases h3 : 32768 ≤ lb s 7
    · have hfit : ¬ fits s := by rw [HW.out]; simp [h1, h2, h3]
      have HF := Lib.hid hfit; clear hfit HW
      have dh1 : decide (32768 ≤ lb a 7) = false := by simpa using h1
      have dh2 : decide (32768 ≤ lb b 7) = true := by simpa using h2
      have dh3 : decide (32768 ≤ lb s 7) = true := by simpa using h3
      clear h1 h2 h3
      go_upto_region 2 with fail
      go_cut [22] (fun t wx => t = .bool true ∧ RSums w a b s g wx)
      case first =>
        obtain ⟨a0, a1, a2, a3, a4, a5, a6, a7, _⟩ := eight_cells H.ea
        obtain ⟨b0, b1, b2, b3, b4, b5, b6, b7, _⟩ := eight_cells H.eb
        obtain ⟨s0, s1, s2, s3, s4, s5, s6, s7, _⟩ := eight_cells H.es
        go_region_held3 (fun w' => w'.cell? ⟨w.heap.size, 0, none⟩ = some (.int .i64 (lb a 0)) ∧ w'.cell? ⟨w.heap.size, 1, none⟩ = some (.int .i64 (lb a 1)) ∧ w'.cell? ⟨w.heap.size, 2, none⟩ = some (.int .i64 (lb a 2)) ∧ w'.cell? ⟨w.heap.size, 3, none⟩ = some (.int .i64 (lb a 3)) ∧ w'.cell? ⟨w.heap.size, 4, none⟩ = some (.int .i64 (lb a 4)) ∧ w'.cell? ⟨w.heap.size, 5, none⟩ = some (.int .i64 (lb a 5)) ∧ w'.cell? ⟨w.heap.size, 6, none⟩ = some (.int .i64 (lb a 6)) ∧ w'.cell? ⟨w.heap.size, 7, none⟩ = some (.int .i64 (lb a 7)) ∧ w'.cell? ⟨w.heap.size + 1, 0, none⟩ = some (.int .i64 (lb b 0)) ∧ w'.cell? ⟨w.heap.size + 1, 1, none⟩ = some (.int .i64 (lb b 1)) ∧ w'.cell? ⟨w.heap.size + 1, 2, none⟩ = some (.int .i64 (lb b 2)) ∧ w'.cell? ⟨w.heap.size + 1, 3, none⟩ = some (.int .i64 (lb b 3)) ∧ w'.cell? ⟨w.heap.size + 1, 4, none⟩ = some (.int .i64 (lb b 4)) ∧ w'.cell? ⟨w.heap.size + 1, 5, none⟩ = some (.int .i64 (lb b 5)) ∧ w'.cell? ⟨w.heap.size + 1, 6, none⟩ = some (.int .i64 (lb b 6)) ∧ w'.cell? ⟨w.heap.size + 1, 7, none⟩ = some (.int .i64 (lb b 7)) ∧ w'.cell? ⟨g, 0, none⟩ = some (.int .i64 (lb s 0)) ∧ w'.cell? ⟨g, 1, none⟩ = some (.int .i64 (lb s 1)) ∧ w'.cell? ⟨g, 2, none⟩ = some (.int .i64 (lb s 2)) ∧ w'.cell? ⟨g, 3, none⟩ = some (.int .i64 (lb s 3)) ∧ w'.cell? ⟨g, 4, none⟩ = some (.int .i64 (lb s 4)) ∧ w'.cell? ⟨g, 5, none⟩ = some (.int .i64 (lb s 5)) ∧ w'.cell? ⟨g, 6, none⟩ = some (.int .i64 (lb s 6)) ∧ w'.cell? ⟨g, 7, none⟩ = some (.int .i64 (lb s 7))) ((refine ⟨?_, ?_, ?_, ?_, ?_, ?_, ?_, ?_, ?_, ?_, ?_, ?_, ?_, ?_, ?_, ?_, ?_, ?_, ?_, ?_, ?_, ?_, ?_, ?_⟩ <;> (repeat (first | (with_reducible refine cell_dr ?_) | (with_reducible refine cell_al ?_))) <;> (with_reducible first | exact a0 | exact a1 | exact a2 | exact a3 | exact a4 | exact a5 | exact a6 | exact a7 | exact b0 | exact b1 | exact b2 | exact b3 | exact b4 | exact b5 | exact b6 | exact b7 | exact s0 | exact s1 | exact s2 | exact s3 | exact s4 | exact s5 | exact s6 | exact s7)))
          ((go_at_call 20; refine (neg_any _ _).mono ?_; rintro e w' ⟨rfl, rfl⟩))
        all_goals (go_wp2_with fail; go_meet; exact ⟨rfl, by with_reducible (repeat (first | refine RSums.dr ?_ | refine RSums.drN ?_ _ | refine RSums.al ?_ _)); exact H⟩)
      case rest =>
        obtain ⟨rfl, H'⟩ := hcut
        obtain ⟨hbel, _, _, er, es⟩ := H'
        obtain ⟨z0, z1, z2, z3, z4, z5, z6, z7, f0, f1, f2, f3, f4, f5, f6, f7⟩ := eight_cells er
        obtain ⟨s0, s1, s2, s3, s4, s5, s6, s7, _⟩ := eight_cells es
        have HER := Lib.hid er
        clear H er es
        go_wp2
        obtain ⟨r0, r1, r2, r3, r4, r5, r6, r7, _⟩ := eight_cells (eight_store HER.out (fun _ => 0))
        exact bodyPost_ret (v := .tuple #[.agg #[.int .i64 0, .int .i64 0, .int .i64 0, .int .i64 0, .int .i64 0, .int .i64 0, .int .i64 0, .int .i64 0], .bool false]) (by simp only [results, Try.results34]; simp [go_sem, r0, r1, r2, r3, r4, r5, r6, r7]) rfl ⟨by rw [sumOf_no HF.out, decide_eq_false HF.out]; simp only [lb_zero], bel_store hbel (by omega) (fun _ => 0)⟩
    · have hfit : fits s := by rw [HW.out]; simp [h1, h2, h3]
      have HF := Lib.hid hfit; clear hfit HW
      have dh1 : decide (32768 ≤ lb a 7) = false := by simpa using h1
      have dh2 : decide (32768 ≤ lb b 7) = true := by simpa using h2
      have dh3 : decide (32768 ≤ lb s 7) = false := by simpa using h3
      clear h1 h2 h3
      go_upto_region 2 with fail
      go_cut [22] (fun t wx => t = .bool false ∧ RSums w a b s g wx)
      case first =>
        obtain ⟨a0, a1, a2, a3, a4, a5, a6, a7, _⟩ := eight_cells H.ea
        obtain ⟨b0, b1, b2, b3, b4, b5, b6, b7, _⟩ := eight_cells H.eb
        obtain ⟨s0, s1, s2, s3, s4, s5, s6, s7, _⟩ := eight_cells H.es
        go_region_held3 (fun w' => w'.cell? ⟨w.heap.size, 0, none⟩ = some (.int .i64 (lb a 0)) ∧ w'.cell? ⟨w.heap.size, 1, none⟩ = some (.int .i64 (lb a 1)) ∧ w'.cell? ⟨w.heap.size, 2, none⟩ = some (.int .i64 (lb a 2)) ∧ w'.cell? ⟨w.heap.size, 3, none⟩ = some (.int .i64 (lb a 3)) ∧ w'.cell? ⟨w.heap.size, 4, none⟩ = some (.int .i64 (lb a 4)) ∧ w'.cell? ⟨w.heap.size, 5, none⟩ = some (.int .i64 (lb a 5)) ∧ w'.cell? ⟨w.heap.size, 6, none⟩ = some (.int .i64 (lb a 6)) ∧ w'.cell? ⟨w.heap.size, 7, none⟩ = some (.int .i64 (lb a 7)) ∧ w'.cell? ⟨w.heap.size + 1, 0, none⟩ = some (.int .i64 (lb b 0)) ∧ w'.cell? ⟨w.heap.size + 1, 1, none⟩ = some (.int .i64 (lb b 1)) ∧ w'.cell? ⟨w.heap.size + 1, 2, none⟩ = some (.int .i64 (lb b 2)) ∧ w'.cell? ⟨w.heap.size + 1, 3, none⟩ = some (.int .i64 (lb b 3)) ∧ w'.cell? ⟨w.heap.size + 1, 4, none⟩ = some (.int .i64 (lb b 4)) ∧ w'.cell? ⟨w.heap.size + 1, 5, none⟩ = some (.int .i64 (lb b 5)) ∧ w'.cell? ⟨w.heap.size + 1, 6, none⟩ = some (.int .i64 (lb b 6)) ∧ w'.cell? ⟨w.heap.size + 1, 7, none⟩ = some (.int .i64 (lb b 7)) ∧ w'.cell? ⟨g, 0, none⟩ = some (.int .i64 (lb s 0)) ∧ w'.cell? ⟨g, 1, none⟩ = some (.int .i64 (lb s 1)) ∧ w'.cell? ⟨g, 2, none⟩ = some (.int .i64 (lb s 2)) ∧ w'.cell? ⟨g, 3, none⟩ = some (.int .i64 (lb s 3)) ∧ w'.cell? ⟨g, 4, none⟩ = some (.int .i64 (lb s 4)) ∧ w'.cell? ⟨g, 5, none⟩ = some (.int .i64 (lb s 5)) ∧ w'.cell? ⟨g, 6, none⟩ = some (.int .i64 (lb s 6)) ∧ w'.cell? ⟨g, 7, none⟩ = some (.int .i64 (lb s 7))) ((refine ⟨?_, ?_, ?_, ?_, ?_, ?_, ?_, ?_, ?_, ?_, ?_, ?_, ?_, ?_, ?_, ?_, ?_, ?_, ?_, ?_, ?_, ?_, ?_, ?_⟩ <;> (repeat (first | (with_reducible refine cell_dr ?_) | (with_reducible refine cell_al ?_))) <;> (with_reducible first | exact a0 | exact a1 | exact a2 | exact a3 | exact a4 | exact a5 | exact a6 | exact a7 | exact b0 | exact b1 | exact b2 | exact b3 | exact b4 | exact b5 | exact b6 | exact b7 | exact s0 | exact s1 | exact s2 | exact s3 | exact s4 | exact s5 | exact s6 | exact s7)))
          ((go_at_call 20; refine (neg_any _ _).mono ?_; rintro e w' ⟨rfl, rfl⟩))
        all_goals (go_wp2_with fail; go_meet; exact ⟨rfl, by with_reducible (repeat (first | refine RSums.dr ?_ | refine RSums.drN ?_ _ | refine RSums.al ?_ _)); exact H⟩)
      case rest =>
        obtain ⟨rfl, H'⟩ := hcut
        obtain ⟨hbel, _, _, er, es⟩ := H'
        obtain ⟨z0, z1, z2, z3, z4, z5, z6, z7, f0, f1, f2, f3, f4, f5, f6, f7⟩ := eight_cells er
        obtain ⟨s0, s1, s2, s3, s4, s5, s6, s7, _⟩ := eight_cells es
        have HER := Lib.hid er
        clear H er es
        go_wp2
        obtain ⟨r0, r1, r2, r3, r4, r5, r6, r7, _⟩ := eight_cells (eight_store HER.out (lb s))
        exact bodyPost_ret (v := .tuple #[.agg #[.int .i64 (lb s 0), .int .i64 (lb s 1), .int .i64 (lb s 2), .int .i64 (lb s 3), .int .i64 (lb s 4), .int .i64 (lb s 5), .int .i64 (lb s 6), .int .i64 (lb s 7)], .bool true]) (by simp only [results, Try.results34]; simp [go_sem, r0, r1, r2, r3, r4, r5, r6, r7]) rfl ⟨by rw [sumOf_yes HF.out, decide_eq_true HF.out], bel_store hbel (by omega) (lb s)⟩
  · have hfit : fits s := by rw [HW.out]; simp [h1, h2]
    have HF := Lib.hid hfit; clear hfit HW
    have dh1 : decide (32768 ≤ lb a 7) = false := by simpa using h1
    have dh2 : decide (32768 ≤ lb b 7) = false := by simpa using h2
    clear h1 h2
    go_upto_region 2 with fail
    go_cut [22] (fun t wx => t = .bool false ∧ RSums w a b s g wx)
    case first =>
      obtain ⟨a0, a1, a2, a3, a4, a5, a6, a7, _⟩ := eight_cells H.ea
      obtain ⟨b0, b1, b2, b3, b4, b5, b6, b7, _⟩ := eight_cells H.eb
      have ka0 : ∀ o, (wc.alloc o).cell? ⟨w.heap.size, 0, none⟩ = some (.int .i64 (lb a 0)) := fun o => cell_al a0
      have ka1 : ∀ o, (wc.alloc o).cell? ⟨w.heap.size, 1, none⟩ = some (.int .i64 (lb a 1)) := fun o => cell_al a1
      have ka2 : ∀ o, (wc.alloc o).cell? ⟨w.heap.size, 2, none⟩ = some (.int .i64 (lb a 2)) := fun o => cell_al a2
      have ka3 : ∀ o, (wc.alloc o).cell? ⟨w.heap.size, 3, none⟩ = some (.int .i64 (lb a 3)) := fun o => cell_al a3
      have ka4 : ∀ o, (wc.alloc o).cell? ⟨w.heap.size, 4, none⟩ = some (.int .i64 (lb a 4)) := fun o => cell_al a4
      have ka5 : ∀ o, (wc.alloc o).cell? ⟨w.heap.size, 5, none⟩ = some (.int .i64 (lb a 5)) := fun o => cell_al a5
      have ka6 : ∀ o, (wc.alloc o).cell? ⟨w.heap.size, 6, none⟩ = some (.int .i64 (lb a 6)) := fun o => cell_al a6
      have ka7 : ∀ o, (wc.alloc o).cell? ⟨w.heap.size, 7, none⟩ = some (.int .i64 (lb a 7)) := fun o => cell_al a7
      have kb0 : ∀ o, (wc.alloc o).cell? ⟨w.heap.size + 1, 0, none⟩ = some (.int .i64 (lb b 0)) := fun o => cell_al b0
      have kb1 : ∀ o, (wc.alloc o).cell? ⟨w.heap.size + 1, 1, none⟩ = some (.int .i64 (lb b 1)) := fun o => cell_al b1
      have kb2 : ∀ o, (wc.alloc o).cell? ⟨w.heap.size + 1, 2, none⟩ = some (.int .i64 (lb b 2)) := fun o => cell_al b2
      have kb3 : ∀ o, (wc.alloc o).cell? ⟨w.heap.size + 1, 3, none⟩ = some (.int .i64 (lb b 3)) := fun o => cell_al b3
      have kb4 : ∀ o, (wc.alloc o).cell? ⟨w.heap.size + 1, 4, none⟩ = some (.int .i64 (lb b 4)) := fun o => cell_al b4
      have kb5 : ∀ o, (wc.alloc o).cell? ⟨w.heap.size + 1, 5, none⟩ = some (.int .i64 (lb b 5)) := fun o => cell_al b5
      have kb6 : ∀ o, (wc.alloc o).cell? ⟨w.heap.size + 1, 6, none⟩ = some (.int .i64 (lb b 6)) := fun o => cell_al b6
      have kb7 : ∀ o, (wc.alloc o).cell? ⟨w.heap.size + 1, 7, none⟩ = some (.int .i64 (lb b 7)) := fun o => cell_al b7
      go_region_with ((go_at_call 20; refine (neg_any _ _).mono ?_; rintro e w' ⟨rfl, rfl⟩))
      all_goals (go_wp2_with fail; go_meet; exact ⟨rfl, by with_reducible (repeat (first | refine RSums.dr ?_ | refine RSums.drN ?_ _ | refine RSums.al ?_ _)); exact H⟩)
    case rest =>
      obtain ⟨rfl, H'⟩ := hcut
      obtain ⟨hbel, _, _, er, es⟩ := H'
      obtain ⟨z0, z1, z2, z3, z4, z5, z6, z7, f0, f1, f2, f3, f4, f5, f6, f7⟩ := eight_cells er
      obtain ⟨s0, s1, s2, s3, s4, s5, s6, s7, _⟩ := eight_cells es
      have HER := Lib.hid er
      clear H er es
      go_wp2
      obtain ⟨r0, r1, r2, r3, r4, r5, r6, r7, _⟩ := eight_cells (eight_store HER.out (lb s))
      exact bodyPost_ret (v := .tuple #[.agg #[.int .i64 (lb s 0), .int .i64 (lb s 1), .int .i64 (lb s 2), .int .i64 (lb s 3), .int .i64 (lb s 4), .int .i64 (lb s 5), .int .i64 (lb s 6), .int .i64 (lb s 7)], .bool true]) (by simp only [results, Try.results34]; simp [go_sem, r0, r1, r2, r3, r4, r5, r6, r7]) rfl ⟨by rw [sumOf_yes HF.out, decide_eq_true HF.out], bel_store hbel (by omega) (lb s)⟩
end Go.Proofs.Ytljepnonigjcbaa

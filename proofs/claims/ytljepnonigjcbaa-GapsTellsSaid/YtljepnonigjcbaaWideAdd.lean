/- Contracts of wide.Add and wide.Sub. -/
import Derived.Test.YtljepnonigjcbaaWideFns
import Derived.Deep.DeepCutAuto
import Derived.Deep.RegionWith
namespace Go.Proofs.Ytljepnonigjcbaa
open Go.RowKit
set_option linter.unusedVariables false

theorem cell_set {w : World} {b o b' o' : Nat} {u v : Value} (h : w.cell? ⟨b, o, none⟩ = some v) (hne : b ≠ b') : (w.setCell ⟨b', o', none⟩ u).cell? ⟨b, o, none⟩ = some v := by
  rw [World.cell?_of_block (Below.heap_setCell w ⟨b', o', none⟩ u b (by simpa using hne))]; exact h
/-- where the two numbers, the result and the sum lie -/
structure SumsAt (w : World) (a b s : Int) (g : Nat) (wx : World) : Prop where
  bel : Below w.heap.size w wx
  sz : w.heap.size + 2 < wx.heap.size
  a0 : wx.cell? ⟨w.heap.size, 0, none⟩ = some (.int .i64 (hiW a))
  a1 : wx.cell? ⟨w.heap.size, 1, none⟩ = some (.int .u64 (loW a))
  b0 : wx.cell? ⟨w.heap.size + 1, 0, none⟩ = some (.int .i64 (hiW b))
  b1 : wx.cell? ⟨w.heap.size + 1, 1, none⟩ = some (.int .u64 (loW b))
  r0 : wx.cell? ⟨w.heap.size + 1 + 1, 0, none⟩ = some (.int .i64 0)
  r1 : wx.cell? ⟨w.heap.size + 1 + 1, 1, none⟩ = some (.int .u64 0)
  s0 : wx.cell? ⟨g, 0, none⟩ = some (.int .i64 (hiW s))
  s1 : wx.cell? ⟨g, 1, none⟩ = some (.int .u64 (loW s))
  f0 : wx.frozen? ⟨w.heap.size + 1 + 1, 0, none⟩ = false
  f1 : wx.frozen? ⟨w.heap.size + 1 + 1, 1, none⟩ = false
theorem SumsAt.step {w wx wy : World} {a b s : Int} {g : Nat} (h : SumsAt w a b s g wx) (hb : Below wx.heap.size wx wy) : SumsAt w a b s g wy := by
  obtain ⟨h1, h2, h3, h4, h5, h6, h7, h8, h9, h10, h11, h12⟩ := h
  have hs := hb.size
  exact ⟨h1.trans (hb.mono h1.size), by omega, (hb.cell (World.block_lt_of_cell? wx _ h3)).trans h3, (hb.cell (World.block_lt_of_cell? wx _ h4)).trans h4, (hb.cell (World.block_lt_of_cell? wx _ h5)).trans h5, (hb.cell (World.block_lt_of_cell? wx _ h6)).trans h6, (hb.cell (World.block_lt_of_cell? wx _ h7)).trans h7, (hb.cell (World.block_lt_of_cell? wx _ h8)).trans h8, (hb.cell (World.block_lt_of_cell? wx _ h9)).trans h9, (hb.cell (World.block_lt_of_cell? wx _ h10)).trans h10,
    (hb.frozen (p := ⟨w.heap.size + 1 + 1, 0, none⟩) (by simp; omega)).trans h11, (hb.frozen (p := ⟨w.heap.size + 1 + 1, 1, none⟩) (by simp; omega)).trans h12⟩
/-- the start: three boxes, and what lies behind them -/
theorem SumsAt.start {w w1 W : World} {a b s : Int} {g : Nat} (hb : Below (((w.alloc (.cells #[.int .i64 (hiW a), .int .u64 (loW a)] 72)).alloc (.cells #[.int .i64 (hiW b), .int .u64 (loW b)] 72)).alloc (.cells #[.int .i64 0, .int .u64 0] 72)).heap.size (((w.alloc (.cells #[.int .i64 (hiW a), .int .u64 (loW a)] 72)).alloc (.cells #[.int .i64 (hiW b), .int .u64 (loW b)] 72)).alloc (.cells #[.int .i64 0, .int .u64 0] 72)) W)
    (s0 : W.cell? ⟨g, 0, none⟩ = some (.int .i64 (hiW s))) (s1 : W.cell? ⟨g, 1, none⟩ = some (.int .u64 (loW s))) : SumsAt w a b s g W := by
  have hz := hb.size
  simp at hz
  exact ⟨(((Below.refl _ _).alloc (Nat.le_refl _) _).alloc (by simp) _).alloc (by simp; omega) _ |>.trans (hb.mono (by simp; omega)), by omega,
    (hb.cell (p := ⟨w.heap.size, 0, none⟩) (by simp; omega)).trans (cell_al (cell_al (cell_new0 rfl))), (hb.cell (p := ⟨w.heap.size, 1, none⟩) (by simp; omega)).trans (cell_al (cell_al (cell_new1 rfl))),
    (hb.cell (p := ⟨w.heap.size + 1, 0, none⟩) (by simp)).trans (cell_al (cell_new0 (by simp))), (hb.cell (p := ⟨w.heap.size + 1, 1, none⟩) (by simp)).trans (cell_al (cell_new1 (by simp))),
    (hb.cell (p := ⟨w.heap.size + 1 + 1, 0, none⟩) (by simp)).trans (cell_new0 (by simp)), (hb.cell (p := ⟨w.heap.size + 1 + 1, 1, none⟩) (by simp)).trans (cell_new1 (by simp)),
    s0, s1, (hb.frozen (p := ⟨w.heap.size + 1 + 1, 0, none⟩) (by simp)).trans (frozen_new (by simp) 0), (hb.frozen (p := ⟨w.heap.size + 1 + 1, 1, none⟩) (by simp)).trans (frozen_new (by simp) 1)⟩
theorem SumsAt.al {w wx : World} {a b s : Int} {g : Nat} (h : SumsAt w a b s g wx) (o : Obj) : SumsAt w a b s g (wx.alloc o) := h.step ((Below.refl _ _).alloc (Nat.le_refl _) _)
theorem SumsAt.dr {w wx : World} {a b s : Int} {g : Nat} (h : SumsAt w a b s g wx) : SumsAt w a b s g wx.drew := h.step (Below.refl _ _).drew
theorem SumsAt.drN {w wx : World} {a b s : Int} {g : Nat} (h : SumsAt w a b s g wx) (n : Nat) : SumsAt w a b s g (wx.drewN n) := h.step (bel_drewN (Below.refl _ _) n)
set_option maxRecDepth 100000 in
set_option maxHeartbeats 4000000 in
theorem add_any (a b : Int) (w : World) (ha : fits a) (hb : fits b) :
    Calls Try.prog 30 #[.agg #[.int .i64 (hiW a), .int .u64 (loW a)], .agg #[.int .i64 (hiW b), .int .u64 (loW b)]] w fun e w' => e = .returned (.tuple #[.agg #[.int .i64 (hiW (sumOf (a + b))), .int .u64 (loW (sumOf (a + b)))], .bool (decide (fits (a + b)))]) ∧ Below w.heap.size w w' := by
  have hw := wrap_fits a b ha hb
  obtain ⟨s, hs⟩ : ∃ s, s = a + b := ⟨_, rfl⟩
  rw [← hs] at hw ⊢
  have HP := Lib.hid (fun w => plus_any a b w)
  rw [← hs] at HP
  clear hs
  have HW := Lib.hid hw; clear hw ha hb
  go_enter Try.func30, Try.ntmps30
  go_wp2_with fail
  with_reducible refine (HP.out _).mono ?_
  rintro e w1 ⟨rfl, hb⟩
  have hz : w.heap.size + 2 < w1.heap.size := by have := hb.size; simp at this; omega
  obtain ⟨W2, hW2⟩ : ∃ W2, W2 = w1.alloc (.cells #[.int .i64 (hiW s), .int .u64 (loW s)] 72) := ⟨_, rfl⟩
  obtain ⟨g, hg⟩ : ∃ g, g = w1.heap.size := ⟨_, rfl⟩
  have H : SumsAt w a b s g W2 := by
    rw [hW2]
    exact SumsAt.start (w1 := w1) (hb.alloc hb.size _) (cell_new0 hg.symm) (cell_new1 hg.symm)
  go_wp2_with fail
  rw [← hW2, ← hg]
  clear hW2 hb hg hz w1
  by_cases h1 : hiW a < 0 <;> by_cases h2 : hiW b < 0
  · by_cases h3 : hiW s < 0
    · have hfit : fits s := by rw [HW.out]; simp [h1, h2, h3]
      have HF := Lib.hid hfit; clear hfit HW
      have dh1 : decide (hiW a < 0) = true := by simpa using h1
      have dh2 : decide (hiW b < 0) = true := by simpa using h2
      have dh3 : decide (hiW s < 0) = true := by simpa using h3
      clear h1 h2 h3
      go_upto_region 2 with fail
      go_cut [21] (fun t wx => t = .bool false ∧ SumsAt w a b s g wx)
      case first =>
        obtain ⟨c1, c2, c3, c4, c5, c6⟩ := (show _ ∧ _ ∧ _ ∧ _ ∧ _ ∧ _ from ⟨H.a0, H.a1, H.b0, H.b1, H.s0, H.s1⟩)
        go_region_held3 (fun w' => w'.cell? ⟨w.heap.size, 0, none⟩ = some (.int .i64 (hiW a)) ∧ w'.cell? ⟨w.heap.size, 1, none⟩ = some (.int .u64 (loW a)) ∧ w'.cell? ⟨w.heap.size + 1, 0, none⟩ = some (.int .i64 (hiW b)) ∧ w'.cell? ⟨w.heap.size + 1, 1, none⟩ = some (.int .u64 (loW b)) ∧ w'.cell? ⟨g, 0, none⟩ = some (.int .i64 (hiW s)) ∧ w'.cell? ⟨g, 1, none⟩ = some (.int .u64 (loW s))) ((with_reducible (refine ⟨?_, ?_, ?_, ?_, ?_, ?_⟩ <;> (repeat (first | refine cell_dr ?_ | refine cell_al ?_)) <;> (first | exact c1 | exact c2 | exact c3 | exact c4 | exact c5 | exact c6))))
          ((go_at_call 45; refine (below_any _ _ _).mono ?_; rintro e w' ⟨rfl, rfl⟩))
        all_goals (go_wp2_with fail; go_meet; exact ⟨rfl, by with_reducible (repeat (first | refine SumsAt.dr ?_ | refine SumsAt.drN ?_ _ | refine SumsAt.al ?_ _)); exact H⟩)
      case rest =>
        obtain ⟨rfl, H'⟩ := hcut
        obtain ⟨hbel, hsz, _, _, _, _, r0, r1, s0, s1, f0, f1⟩ := H'
        clear H
        go_wp2
        exact bodyPost_ret (v := .tuple #[.agg #[.int .i64 (hiW s), .int .u64 (loW s)], .bool true]) (by simp [results, Try.results30, go_sem, r0, r1]) rfl ⟨by rw [show sumOf s = s from if_pos HF.out, decide_eq_true HF.out], (hbel.setCell (by simp; omega) _).setCell (by simp; omega) _⟩
    · have hfit : ¬ fits s := by rw [HW.out]; simp [h1, h2, h3]
      have HF := Lib.hid hfit; clear hfit HW
      have dh1 : decide (hiW a < 0) = true := by simpa using h1
      have dh2 : decide (hiW b < 0) = true := by simpa using h2
      have dh3 : decide (hiW s < 0) = false := by simpa using h3
      clear h1 h2 h3
      go_upto_region 2 with fail
      go_cut [21] (fun t wx => t = .bool true ∧ SumsAt w a b s g wx)
      case first =>
        obtain ⟨c1, c2, c3, c4, c5, c6⟩ := (show _ ∧ _ ∧ _ ∧ _ ∧ _ ∧ _ from ⟨H.a0, H.a1, H.b0, H.b1, H.s0, H.s1⟩)
        go_region_held3 (fun w' => w'.cell? ⟨w.heap.size, 0, none⟩ = some (.int .i64 (hiW a)) ∧ w'.cell? ⟨w.heap.size, 1, none⟩ = some (.int .u64 (loW a)) ∧ w'.cell? ⟨w.heap.size + 1, 0, none⟩ = some (.int .i64 (hiW b)) ∧ w'.cell? ⟨w.heap.size + 1, 1, none⟩ = some (.int .u64 (loW b)) ∧ w'.cell? ⟨g, 0, none⟩ = some (.int .i64 (hiW s)) ∧ w'.cell? ⟨g, 1, none⟩ = some (.int .u64 (loW s))) ((with_reducible (refine ⟨?_, ?_, ?_, ?_, ?_, ?_⟩ <;> (repeat (first | refine cell_dr ?_ | refine cell_al ?_)) <;> (first | exact c1 | exact c2 | exact c3 | exact c4 | exact c5 | exact c6))))
          ((go_at_call 45; refine (below_any _ _ _).mono ?_; rintro e w' ⟨rfl, rfl⟩))
        all_goals (go_wp2_with fail; go_meet; exact ⟨rfl, by with_reducible (repeat (first | refine SumsAt.dr ?_ | refine SumsAt.drN ?_ _ | refine SumsAt.al ?_ _)); exact H⟩)
      case rest =>
        obtain ⟨rfl, H'⟩ := hcut
        obtain ⟨hbel, hsz, _, _, _, _, r0, r1, s0, s1, f0, f1⟩ := H'
        clear H
        go_wp2
        exact bodyPost_ret (v := .tuple #[.agg #[.int .i64 0, .int .u64 0], .bool false]) (by simp [results, Try.results30, go_sem, r0, r1]) rfl ⟨by rw [show sumOf s = 0 from if_neg HF.out, decide_eq_false HF.out, hiW_zero, loW_zero], (hbel.setCell (by simp; omega) _).setCell (by simp; omega) _⟩
  · have hfit : fits s := by rw [HW.out]; simp [h1, h2]
    have HF := Lib.hid hfit; clear hfit HW
    have dh1 : decide (hiW a < 0) = true := by simpa using h1
    have dh2 : decide (hiW b < 0) = false := by simpa using h2
    clear h1 h2
    go_upto_region 2 with fail
    go_cut [21] (fun t wx => t = .bool false ∧ SumsAt w a b s g wx)
    case first =>
      obtain ⟨c1, c2, c3, c4, c5, c6⟩ := (show _ ∧ _ ∧ _ ∧ _ ∧ _ ∧ _ from ⟨H.a0, H.a1, H.b0, H.b1, H.s0, H.s1⟩)
      have k1 : ∀ o, (W2.alloc o).cell? ⟨w.heap.size, 0, none⟩ = some (.int .i64 (hiW a)) := fun o => cell_al c1
      have k2 : ∀ o, (W2.alloc o).cell? ⟨w.heap.size, 1, none⟩ = some (.int .u64 (loW a)) := fun o => cell_al c2
      have k3 : ∀ o, (W2.alloc o).cell? ⟨w.heap.size + 1, 0, none⟩ = some (.int .i64 (hiW b)) := fun o => cell_al c3
      have k4 : ∀ o, (W2.alloc o).cell? ⟨w.heap.size + 1, 1, none⟩ = some (.int .u64 (loW b)) := fun o => cell_al c4
      go_region_with ((go_at_call 45; refine (below_any _ _ _).mono ?_; rintro e w' ⟨rfl, rfl⟩))
      all_goals (go_wp2_with fail; go_meet; exact ⟨rfl, by with_reducible (repeat (first | refine SumsAt.dr ?_ | refine SumsAt.drN ?_ _ | refine SumsAt.al ?_ _)); exact H⟩)
    case rest =>
      obtain ⟨rfl, H'⟩ := hcut
      obtain ⟨hbel, hsz, _, _, _, _, r0, r1, s0, s1, f0, f1⟩ := H'
      clear H
      go_wp2
      exact bodyPost_ret (v := .tuple #[.agg #[.int .i64 (hiW s), .int .u64 (loW s)], .bool true]) (by simp [results, Try.results30, go_sem, r0, r1]) rfl ⟨by rw [show sumOf s = s from if_pos HF.out, decide_eq_true HF.out], (hbel.setCell (by simp; omega) _).setCell (by simp; omega) _⟩
  · have hfit : fits s := by rw [HW.out]; simp [h1, h2]
    have HF := Lib.hid hfit; clear hfit HW
    have dh1 : decide (hiW a < 0) = false := by simpa using h1
    have dh2 : decide (hiW b < 0) = true := by simpa using h2
    clear h1 h2
    go_upto_region 2 with fail
    go_cut [21] (fun t wx => t = .bool false ∧ SumsAt w a b s g wx)
    case first =>
      obtain ⟨c1, c2, c3, c4, c5, c6⟩ := (show _ ∧ _ ∧ _ ∧ _ ∧ _ ∧ _ from ⟨H.a0, H.a1, H.b0, H.b1, H.s0, H.s1⟩)
      have k1 : ∀ o, (W2.alloc o).cell? ⟨w.heap.size, 0, none⟩ = some (.int .i64 (hiW a)) := fun o => cell_al c1
      have k2 : ∀ o, (W2.alloc o).cell? ⟨w.heap.size, 1, none⟩ = some (.int .u64 (loW a)) := fun o => cell_al c2
      have k3 : ∀ o, (W2.alloc o).cell? ⟨w.heap.size + 1, 0, none⟩ = some (.int .i64 (hiW b)) := fun o => cell_al c3
      have k4 : ∀ o, (W2.alloc o).cell? ⟨w.heap.size + 1, 1, none⟩ = some (.int .u64 (loW b)) := fun o => cell_al c4
      go_region_with ((go_at_call 45; refine (below_any _ _ _).mono ?_; rintro e w' ⟨rfl, rfl⟩))
      all_goals (go_wp2_with fail; go_meet; exact ⟨rfl, by with_reducible (repeat (first | refine SumsAt.dr ?_ | refine SumsAt.drN ?_ _ | refine SumsAt.al ?_ _)); exact H⟩)
    case rest =>
      obtain ⟨rfl, H'⟩ := hcut
      obtain ⟨hbel, hsz, _, _, _, _, r0, r1, s0, s1, f0, f1⟩ := H'
      clear H
      go_wp2
      exact bodyPost_ret (v := .tuple #[.agg #[.int .i64 (hiW s), .int .u64 (loW s)], .bool true]) (by simp [results, Try.results30, go_sem, r0, r1]) rfl ⟨by rw [show sumOf s = s from if_pos HF.out, decide_eq_true HF.out], (hbel.setCell (by simp; omega) _).setCell (by simp; omega) _⟩
  · by_cases h3 : hiW s < 0
    · have hfit : ¬ fits s := by rw [HW.out]; simp [h1, h2, h3]
      have HF := Lib.hid hfit; clear hfit HW
      have dh1 : decide (hiW a < 0) = false := by simpa using h1
      have dh2 : decide (hiW b < 0) = false := by simpa using h2
      have dh3 : decide (hiW s < 0) = true := by simpa using h3
      clear h1 h2 h3
      go_upto_region 2 with fail
      go_cut [21] (fun t wx => t = .bool true ∧ SumsAt w a b s g wx)
      case first =>
        obtain ⟨c1, c2, c3, c4, c5, c6⟩ := (show _ ∧ _ ∧ _ ∧ _ ∧ _ ∧ _ from ⟨H.a0, H.a1, H.b0, H.b1, H.s0, H.s1⟩)
        go_region_held3 (fun w' => w'.cell? ⟨w.heap.size, 0, none⟩ = some (.int .i64 (hiW a)) ∧ w'.cell? ⟨w.heap.size, 1, none⟩ = some (.int .u64 (loW a)) ∧ w'.cell? ⟨w.heap.size + 1, 0, none⟩ = some (.int .i64 (hiW b)) ∧ w'.cell? ⟨w.heap.size + 1, 1, none⟩ = some (.int .u64 (loW b)) ∧ w'.cell? ⟨g, 0, none⟩ = some (.int .i64 (hiW s)) ∧ w'.cell? ⟨g, 1, none⟩ = some (.int .u64 (loW s))) ((with_reducible (refine ⟨?_, ?_, ?_, ?_, ?_, ?_⟩ <;> (repeat (first | refine cell_dr ?_ | refine cell_al ?_)) <;> (first | exact c1 | exact c2 | exact c3 | exact c4 | exact c5 | exact c6))))
          ((go_at_call 45; refine (below_any _ _ _).mono ?_; rintro e w' ⟨rfl, rfl⟩))
        all_goals (go_wp2_with fail; go_meet; exact ⟨rfl, by with_reducible (repeat (first | refine SumsAt.dr ?_ | refine SumsAt.drN ?_ _ | refine SumsAt.al ?_ _)); exact H⟩)
      case rest =>
        obtain ⟨rfl, H'⟩ := hcut
        obtain ⟨hbel, hsz, _, _, _, _, r0, r1, s0, s1, f0, f1⟩ := H'
        clear H
        go_wp2
        exact bodyPost_ret (v := .tuple #[.agg #[.int .i64 0, .int .u64 0], .bool false]) (by simp [results, Try.results30, go_sem, r0, r1]) rfl ⟨by rw [show sumOf s = 0 from if_neg HF.out, decide_eq_false HF.out, hiW_zero, loW_zero], (hbel.setCell (by simp; omega) _).setCell (by simp; omega) _⟩
    · have hfit : fits s := by rw [HW.out]; simp [h1, h2, h3]
      have HF := Lib.hid hfit; clear hfit HW
      have dh1 : decide (hiW a < 0) = false := by simpa using h1
      have dh2 : decide (hiW b < 0) = false := by simpa using h2
      have dh3 : decide (hiW s < 0) = false := by simpa using h3
      clear h1 h2 h3
      go_upto_region 2 with fail
      go_cut [21] (fun t wx => t = .bool false ∧ SumsAt w a b s g wx)
      case first =>
        obtain ⟨c1, c2, c3, c4, c5, c6⟩ := (show _ ∧ _ ∧ _ ∧ _ ∧ _ ∧ _ from ⟨H.a0, H.a1, H.b0, H.b1, H.s0, H.s1⟩)
        go_region_held3 (fun w' => w'.cell? ⟨w.heap.size, 0, none⟩ = some (.int .i64 (hiW a)) ∧ w'.cell? ⟨w.heap.size, 1, none⟩ = some (.int .u64 (loW a)) ∧ w'.cell? ⟨w.heap.size + 1, 0, none⟩ = some (.int .i64 (hiW b)) ∧ w'.cell? ⟨w.heap.size + 1, 1, none⟩ = some (.int .u64 (loW b)) ∧ w'.cell? ⟨g, 0, none⟩ = some (.int .i64 (hiW s)) ∧ w'.cell? ⟨g, 1, none⟩ = some (.int .u64 (loW s))) ((with_reducible (refine ⟨?_, ?_, ?_, ?_, ?_, ?_⟩ <;> (repeat (first | refine cell_dr ?_ | refine cell_al ?_)) <;> (first | exact c1 | exact c2 | exact c3 | exact c4 | exact c5 | exact c6))))
          ((go_at_call 45; refine (below_any _ _ _).mono ?_; rintro e w' ⟨rfl, rfl⟩))
        all_goals (go_wp2_with fail; go_meet; exact ⟨rfl, by with_reducible (repeat (first | refine SumsAt.dr ?_ | refine SumsAt.drN ?_ _ | refine SumsAt.al ?_ _)); exact H⟩)
      case rest =>
        obtain ⟨rfl, H'⟩ := hcut
        obtain ⟨hbel, hsz, _, _, _, _, r0, r1, s0, s1, f0, f1⟩ := H'
        clear H
        go_wp2
        exact bodyPost_ret (v := .tuple #[.agg #[.int .i64 (hiW s), .int .u64 (loW s)], .bool true]) (by simp [results, Try.results30, go_sem, r0, r1]) rfl ⟨by rw [show sumOf s = s from if_pos HF.out, decide_eq_true HF.out], (hbel.setCell (by simp; omega) _).setCell (by simp; omega) _⟩
set_option maxRecDepth 100000 in
set_option maxHeartbeats 4000000 in
theorem sub_any (a b : Int) (w : World) (ha : fits a) (hb : fits b) :
    Calls Try.prog 27 #[.agg #[.int .i64 (hiW a), .int .u64 (loW a)], .agg #[.int .i64 (hiW b), .int .u64 (loW b)]] w fun e w' => e = .returned (.tuple #[.agg #[.int .i64 (hiW (sumOf (a - b))), .int .u64 (loW (sumOf (a - b)))], .bool (decide (fits (a - b)))]) ∧ Below w.heap.size w w' := by
  have hw := wrap_fits_sub a b ha hb
  obtain ⟨s, hs⟩ : ∃ s, s = a - b := ⟨_, rfl⟩
  have hs' : a + -b = s := by omega
  rw [hs', ← hs] at hw
  rw [← hs]
  have HM := Lib.hid (fun w => minus_any b w)
  have HP := Lib.hid (fun w => plus_any a (-b) w)
  rw [hs'] at HP
  clear hs hs'
  have HW := Lib.hid hw; clear hw ha hb
  go_enter Try.func27, Try.ntmps27
  go_wp2_with fail
  obtain ⟨W0, hW0⟩ : ∃ W0, W0 = (((w.alloc (.cells #[.int .i64 (hiW a), .int .u64 (loW a)] 72)).alloc (.cells #[.int .i64 (hiW b), .int .u64 (loW b)] 72)).alloc (.cells #[.int .i64 0, .int .u64 0] 72)) := ⟨_, rfl⟩
  have hs0 : W0.heap.size = w.heap.size + 3 := by rw [hW0]; simp
  rw [← hW0]
  have q1 : w.heap.size < W0.heap.size := by omega
  have q2 : w.heap.size + 1 < W0.heap.size := by omega
  have c1 : W0.cell? ⟨w.heap.size, 0, none⟩ = some (.int .i64 (hiW a)) := by rw [hW0]; exact cell_al (cell_al (cell_new0 rfl))
  have c2 : W0.cell? ⟨w.heap.size, 1, none⟩ = some (.int .u64 (loW a)) := by rw [hW0]; exact cell_al (cell_al (cell_new1 rfl))
  have c3 : W0.cell? ⟨w.heap.size + 1, 0, none⟩ = some (.int .i64 (hiW b)) := by rw [hW0]; exact cell_al (cell_new0 (by simp))
  have c4 : W0.cell? ⟨w.heap.size + 1, 1, none⟩ = some (.int .u64 (loW b)) := by rw [hW0]; exact cell_al (cell_new1 (by simp))
  have HS := Lib.hid (fun (W : World) (g : Nat) (hb : Below W0.heap.size W0 W) (s0 : W.cell? ⟨g, 0, none⟩ = some (.int .i64 (hiW s))) (s1 : W.cell? ⟨g, 1, none⟩ = some (.int .u64 (loW s))) => show SumsAt w a b s g W from SumsAt.start (w1 := w) (by rw [← hW0]; exact hb) s0 s1)
  clear hW0 hs0
  go_upto_region 1 with fail
  go_cut [6] (fun t wx => ∃ g, t = .pointer (some ⟨g, 0, none⟩) ∧ SumsAt w a b s g wx)
  case first =>
    go_region_held3 (fun w' => w'.cell? ⟨w.heap.size, 0, none⟩ = some (.int .i64 (hiW a)) ∧ w'.cell? ⟨w.heap.size, 1, none⟩ = some (.int .u64 (loW a)) ∧ w'.cell? ⟨w.heap.size + 1, 0, none⟩ = some (.int .i64 (hiW b)) ∧ w'.cell? ⟨w.heap.size + 1, 1, none⟩ = some (.int .u64 (loW b)))
      ((refine ⟨?_, ?_, ?_, ?_⟩ <;> (repeat (first | (with_reducible refine cell_dr ?_) | (with_reducible refine cell_al ?_) | (with_reducible refine cell_be hbp ?_) | (with_reducible refine cell_be hbm ?_) | (with_reducible refine cell_set ?_ (by omega)))) <;> (with_reducible first | exact c1 | exact c2 | exact c3 | exact c4)))
      (first | (go_at_call 44; refine (HM.out _).mono ?_; rintro e wm ⟨rfl, hbm⟩; obtain ⟨hcm, hfm⟩ := bcell hbm; have hzm := hbm.size; (try simp at hzm)) | (go_at_call 43; refine (HP.out _).mono ?_; rintro e wp ⟨rfl, hbp⟩; obtain ⟨hcp, hfp⟩ := bcell hbp; have hzp := hbp.size; (try simp at hzp); (try (have k0 : wp.cell? ⟨W0.heap.size, 0, none⟩ = some (.int .i64 0) := cell_be hbp (cell_be hbm (cell_new0 rfl)))); (try (have k1 : wp.cell? ⟨W0.heap.size, 1, none⟩ = some (.int .u64 0) := cell_be hbp (cell_be hbm (cell_new1 rfl)))); (try (have k2 : wp.frozen? ⟨W0.heap.size, 0, none⟩ = false := (hbp.frozen (p := ⟨W0.heap.size, 0, none⟩) (by simp; omega)).trans ((hbm.frozen (p := ⟨W0.heap.size, 0, none⟩) (by simp)).trans (frozen_new rfl 0)))); (try (have k3 : wp.frozen? ⟨W0.heap.size, 1, none⟩ = false := (hbp.frozen (p := ⟨W0.heap.size, 1, none⟩) (by simp; omega)).trans ((hbm.frozen (p := ⟨W0.heap.size, 1, none⟩) (by simp)).trans (frozen_new rfl 1))))))
    · go_wp2_with fail
      go_meet
      have hb0 := bel_step (Below.refl _ W0).drew (Nat.le_refl _) hbm
      have hb1 := bel_step hb0 (Nat.le_refl _) hbp
      exact ⟨_, rfl, HS.out _ _ (hb1.alloc hb1.size _) (cell_new0 rfl) (cell_new1 rfl)⟩
    · go_wp2_with fail
      go_meet
      have hb0 := bel_step (Below.refl _ W0).drew (Nat.le_refl _) hbm
      have hb1 := bel_step (hb0.alloc hb0.size (.cells #[.int .i64 0, .int .u64 0] 72)) (Nat.le_refl _) hbp
      have hz0 := hb0.size
      have t := two_set (x := .int .i64 (hiW s)) (y := .int .u64 (loW s)) (cell_be hbp (cell_new0 rfl)) (cell_be hbp (cell_new1 rfl))
      exact ⟨_, rfl, HS.out _ _ ((hb1.setCell hz0 _).setCell hz0 _) t.1 t.2⟩
    · go_wp2_with fail
      go_meet
      have hb1 := bel_step (bel_step ((Below.refl _ W0).alloc (Nat.le_refl _) (.cells #[.int .i64 0, .int .u64 0] 72)).drew (Nat.le_refl _) hbm) (Nat.le_refl _) hbp
      have t := two_set (x := .int .i64 (hiW s)) (y := .int .u64 (loW s)) k0 k1
      exact ⟨_, rfl, HS.out _ _ ((hb1.setCell (Nat.le_refl _) _).setCell (Nat.le_refl _) _) t.1 t.2⟩
  case rest =>
  obtain ⟨g, rfl, H⟩ := hcut
  clear c1 c2 c3 c4 HS q1 q2 HM HP
  by_cases h1 : hiW a < 0 <;> by_cases h2 : hiW b < 0
  · have hfit : fits s := by rw [HW.out]; simp [h1, h2]
    have HF := Lib.hid hfit; clear hfit HW
    have dh1 : decide (hiW a < 0) = true := by simpa using h1
    have dh2 : decide (hiW b < 0) = true := by simpa using h2
    clear h1 h2
    go_upto_region 2 with fail
    go_cut [22] (fun t wx => t = .bool false ∧ SumsAt w a b s g wx)
    case first =>
      obtain ⟨c1, c2, c3, c4, c5, c6⟩ := (show _ ∧ _ ∧ _ ∧ _ ∧ _ ∧ _ from ⟨H.a0, H.a1, H.b0, H.b1, H.s0, H.s1⟩)
      have k1 : ∀ o, (wc.alloc o).cell? ⟨w.heap.size, 0, none⟩ = some (.int .i64 (hiW a)) := fun o => cell_al c1
      have k2 : ∀ o, (wc.alloc o).cell? ⟨w.heap.size, 1, none⟩ = some (.int .u64 (loW a)) := fun o => cell_al c2
      have k3 : ∀ o, (wc.alloc o).cell? ⟨w.heap.size + 1, 0, none⟩ = some (.int .i64 (hiW b)) := fun o => cell_al c3
      have k4 : ∀ o, (wc.alloc o).cell? ⟨w.heap.size + 1, 1, none⟩ = some (.int .u64 (loW b)) := fun o => cell_al c4
      go_region_with ((go_at_call 45; refine (below_any _ _ _).mono ?_; rintro e w' ⟨rfl, rfl⟩))
      all_goals (go_wp2_with fail; go_meet; exact ⟨rfl, by with_reducible (repeat (first | refine SumsAt.dr ?_ | refine SumsAt.drN ?_ _ | refine SumsAt.al ?_ _)); exact H⟩)
    case rest =>
      obtain ⟨rfl, H'⟩ := hcut
      obtain ⟨hbel, hsz, _, _, _, _, r0, r1, s0, s1, f0, f1⟩ := H'
      clear H
      go_wp2
      exact bodyPost_ret (v := .tuple #[.agg #[.int .i64 (hiW s), .int .u64 (loW s)], .bool true]) (by simp [results, Try.results27, go_sem, r0, r1]) rfl ⟨by rw [show sumOf s = s from if_pos HF.out, decide_eq_true HF.out], (hbel.setCell (by simp; omega) _).setCell (by simp; omega) _⟩
  · by_cases h3 : hiW s < 0
    · have hfit : fits s := by rw [HW.out]; simp [h1, h2, h3]
      have HF := Lib.hid hfit; clear hfit HW
      have dh1 : decide (hiW a < 0) = true := by simpa using h1
      have dh2 : decide (hiW b < 0) = false := by simpa using h2
      have dh3 : decide (hiW s < 0) = true := by simpa using h3
      clear h1 h2 h3
      go_upto_region 2 with fail
      go_cut [22] (fun t wx => t = .bool false ∧ SumsAt w a b s g wx)
      case first =>
        obtain ⟨c1, c2, c3, c4, c5, c6⟩ := (show _ ∧ _ ∧ _ ∧ _ ∧ _ ∧ _ from ⟨H.a0, H.a1, H.b0, H.b1, H.s0, H.s1⟩)
        go_region_held3 (fun w' => w'.cell? ⟨w.heap.size, 0, none⟩ = some (.int .i64 (hiW a)) ∧ w'.cell? ⟨w.heap.size, 1, none⟩ = some (.int .u64 (loW a)) ∧ w'.cell? ⟨w.heap.size + 1, 0, none⟩ = some (.int .i64 (hiW b)) ∧ w'.cell? ⟨w.heap.size + 1, 1, none⟩ = some (.int .u64 (loW b)) ∧ w'.cell? ⟨g, 0, none⟩ = some (.int .i64 (hiW s)) ∧ w'.cell? ⟨g, 1, none⟩ = some (.int .u64 (loW s))) ((with_reducible (refine ⟨?_, ?_, ?_, ?_, ?_, ?_⟩ <;> (repeat (first | refine cell_dr ?_ | refine cell_al ?_)) <;> (first | exact c1 | exact c2 | exact c3 | exact c4 | exact c5 | exact c6))))
          ((go_at_call 45; refine (below_any _ _ _).mono ?_; rintro e w' ⟨rfl, rfl⟩))
        all_goals (go_wp2_with fail; go_meet; exact ⟨rfl, by with_reducible (repeat (first | refine SumsAt.dr ?_ | refine SumsAt.drN ?_ _ | refine SumsAt.al ?_ _)); exact H⟩)
      case rest =>
        obtain ⟨rfl, H'⟩ := hcut
        obtain ⟨hbel, hsz, _, _, _, _, r0, r1, s0, s1, f0, f1⟩ := H'
        clear H
        go_wp2
        exact bodyPost_ret (v := .tuple #[.agg #[.int .i64 (hiW s), .int .u64 (loW s)], .bool true]) (by simp [results, Try.results27, go_sem, r0, r1]) rfl ⟨by rw [show sumOf s = s from if_pos HF.out, decide_eq_true HF.out], (hbel.setCell (by simp; omega) _).setCell (by simp; omega) _⟩
    · have hfit : ¬ fits s := by rw [HW.out]; simp [h1, h2, h3]
      have HF := Lib.hid hfit; clear hfit HW
      have dh1 : decide (hiW a < 0) = true := by simpa using h1
      have dh2 : decide (hiW b < 0) = false := by simpa using h2
      have dh3 : decide (hiW s < 0) = false := by simpa using h3
      clear h1 h2 h3
      go_upto_region 2 with fail
      go_cut [22] (fun t wx => t = .bool true ∧ SumsAt w a b s g wx)
      case first =>
        obtain ⟨c1, c2, c3, c4, c5, c6⟩ := (show _ ∧ _ ∧ _ ∧ _ ∧ _ ∧ _ from ⟨H.a0, H.a1, H.b0, H.b1, H.s0, H.s1⟩)
        go_region_held3 (fun w' => w'.cell? ⟨w.heap.size, 0, none⟩ = some (.int .i64 (hiW a)) ∧ w'.cell? ⟨w.heap.size, 1, none⟩ = some (.int .u64 (loW a)) ∧ w'.cell? ⟨w.heap.size + 1, 0, none⟩ = some (.int .i64 (hiW b)) ∧ w'.cell? ⟨w.heap.size + 1, 1, none⟩ = some (.int .u64 (loW b)) ∧ w'.cell? ⟨g, 0, none⟩ = some (.int .i64 (hiW s)) ∧ w'.cell? ⟨g, 1, none⟩ = some (.int .u64 (loW s))) ((with_reducible (refine ⟨?_, ?_, ?_, ?_, ?_, ?_⟩ <;> (repeat (first | refine cell_dr ?_ | refine cell_al ?_)) <;> (first | exact c1 | exact c2 | exact c3 | exact c4 | exact c5 | exact c6))))
          ((go_at_call 45; refine (below_any _ _ _).mono ?_; rintro e w' ⟨rfl, rfl⟩))
        all_goals (go_wp2_with fail; go_meet; exact ⟨rfl, by with_reducible (repeat (first | refine SumsAt.dr ?_ | refine SumsAt.drN ?_ _ | refine SumsAt.al ?_ _)); exact H⟩)
      case rest =>
        obtain ⟨rfl, H'⟩ := hcut
        obtain ⟨hbel, hsz, _, _, _, _, r0, r1, s0, s1, f0, f1⟩ := H'
        clear H
        go_wp2
        exact bodyPost_ret (v := .tuple #[.agg #[.int .i64 0, .int .u64 0], .bool false]) (by simp [results, Try.results27, go_sem, r0, r1]) rfl ⟨by rw [show sumOf s = 0 from if_neg HF.out, decide_eq_false HF.out, hiW_zero, loW_zero], (hbel.setCell (by simp; omega) _).setCell (by simp; omega) _⟩
  · by_cases h3 : hiW s < 0
    · have hfit : ¬ fits s := by rw [HW.out]; simp [h1, h2, h3]
      have HF := Lib.hid hfit; clear hfit HW
      have dh1 : decide (hiW a < 0) = false := by simpa using h1
      have dh2 : decide (hiW b < 0) = true := by simpa using h2
      have dh3 : decide (hiW s < 0) = true := by simpa using h3
      clear h1 h2 h3
      go_upto_region 2 with fail
      go_cut [22] (fun t wx => t = .bool true ∧ SumsAt w a b s g wx)
      case first =>
        obtain ⟨c1, c2, c3, c4, c5, c6⟩ := (show _ ∧ _ ∧ _ ∧ _ ∧ _ ∧ _ from ⟨H.a0, H.a1, H.b0, H.b1, H.s0, H.s1⟩)
        go_region_held3 (fun w' => w'.cell? ⟨w.heap.size, 0, none⟩ = some (.int .i64 (hiW a)) ∧ w'.cell? ⟨w.heap.size, 1, none⟩ = some (.int .u64 (loW a)) ∧ w'.cell? ⟨w.heap.size + 1, 0, none⟩ = some (.int .i64 (hiW b)) ∧ w'.cell? ⟨w.heap.size + 1, 1, none⟩ = some (.int .u64 (loW b)) ∧ w'.cell? ⟨g, 0, none⟩ = some (.int .i64 (hiW s)) ∧ w'.cell? ⟨g, 1, none⟩ = some (.int .u64 (loW s))) ((with_reducible (refine ⟨?_, ?_, ?_, ?_, ?_, ?_⟩ <;> (repeat (first | refine cell_dr ?_ | refine cell_al ?_)) <;> (first | exact c1 | exact c2 | exact c3 | exact c4 | exact c5 | exact c6))))
          ((go_at_call 45; refine (below_any _ _ _).mono ?_; rintro e w' ⟨rfl, rfl⟩))
        all_goals (go_wp2_with fail; go_meet; exact ⟨rfl, by with_reducible (repeat (first | refine SumsAt.dr ?_ | refine SumsAt.drN ?_ _ | refine SumsAt.al ?_ _)); exact H⟩)
      case rest =>
        obtain ⟨rfl, H'⟩ := hcut
        obtain ⟨hbel, hsz, _, _, _, _, r0, r1, s0, s1, f0, f1⟩ := H'
        clear H
        go_wp2
        exact bodyPost_ret (v := .tuple #[.agg #[.int .i64 0, .int .u64 0], .bool false]) (by simp [results, Try.results27, go_sem, r0, r1]) rfl ⟨by rw [show sumOf s = 0 from if_neg HF.out, decide_eq_false HF.out, hiW_zero, loW_zero], (hbel.setCell (by simp; omega) _).setCell (by simp; omega) _⟩
    · have hfit : fits s := by rw [HW.out]; simp [h1, h2, h3]
      have HF := Lib.hid hfit; clear hfit HW
      have dh1 : decide (hiW a < 0) = false := by simpa using h1
      have dh2 : decide (hiW b < 0) = true := by simpa using h2
      have dh3 : decide (hiW s < 0) = false := by simpa using h3
      clear h1 h2 h3
      go_upto_region 2 with fail
      go_cut [22] (fun t wx => t = .bool false ∧ SumsAt w a b s g wx)
      case first =>
        obtain ⟨c1, c2, c3, c4, c5, c6⟩ := (show _ ∧ _ ∧ _ ∧ _ ∧ _ ∧ _ from ⟨H.a0, H.a1, H.b0, H.b1, H.s0, H.s1⟩)
        go_region_held3 (fun w' => w'.cell? ⟨w.heap.size, 0, none⟩ = some (.int .i64 (hiW a)) ∧ w'.cell? ⟨w.heap.size, 1, none⟩ = some (.int .u64 (loW a)) ∧ w'.cell? ⟨w.heap.size + 1, 0, none⟩ = some (.int .i64 (hiW b)) ∧ w'.cell? ⟨w.heap.size + 1, 1, none⟩ = some (.int .u64 (loW b)) ∧ w'.cell? ⟨g, 0, none⟩ = some (.int .i64 (hiW s)) ∧ w'.cell? ⟨g, 1, none⟩ = some (.int .u64 (loW s))) ((with_reducible (refine ⟨?_, ?_, ?_, ?_, ?_, ?_⟩ <;> (repeat (first | refine cell_dr ?_ | refine cell_al ?_)) <;> (first | exact c1 | exact c2 | exact c3 | exact c4 | exact c5 | exact c6))))
          ((go_at_call 45; refine (below_any _ _ _).mono ?_; rintro e w' ⟨rfl, rfl⟩))
        all_goals (go_wp2_with fail; go_meet; exact ⟨rfl, by with_reducible (repeat (first | refine SumsAt.dr ?_ | refine SumsAt.drN ?_ _ | refine SumsAt.al ?_ _)); exact H⟩)
      case rest =>
        obtain ⟨rfl, H'⟩ := hcut
        obtain ⟨hbel, hsz, _, _, _, _, r0, r1, s0, s1, f0, f1⟩ := H'
        clear H
        go_wp2
        exact bodyPost_ret (v := .tuple #[.agg #[.int .i64 (hiW s), .int .u64 (loW s)], .bool true]) (by simp [results, Try.results27, go_sem, r0, r1]) rfl ⟨by rw [show sumOf s = s from if_pos HF.out, decide_eq_true HF.out], (hbel.setCell (by simp; omega) _).setCell (by simp; omega) _⟩
  · have hfit : fits s := by rw [HW.out]; simp [h1, h2]
    have HF := Lib.hid hfit; clear hfit HW
    have dh1 : decide (hiW a < 0) = false := by simpa using h1
    have dh2 : decide (hiW b < 0) = false := by simpa using h2
    clear h1 h2
    go_upto_region 2 with fail
    go_cut [22] (fun t wx => t = .bool false ∧ SumsAt w a b s g wx)
    case first =>
      obtain ⟨c1, c2, c3, c4, c5, c6⟩ := (show _ ∧ _ ∧ _ ∧ _ ∧ _ ∧ _ from ⟨H.a0, H.a1, H.b0, H.b1, H.s0, H.s1⟩)
      have k1 : ∀ o, (wc.alloc o).cell? ⟨w.heap.size, 0, none⟩ = some (.int .i64 (hiW a)) := fun o => cell_al c1
      have k2 : ∀ o, (wc.alloc o).cell? ⟨w.heap.size, 1, none⟩ = some (.int .u64 (loW a)) := fun o => cell_al c2
      have k3 : ∀ o, (wc.alloc o).cell? ⟨w.heap.size + 1, 0, none⟩ = some (.int .i64 (hiW b)) := fun o => cell_al c3
      have k4 : ∀ o, (wc.alloc o).cell? ⟨w.heap.size + 1, 1, none⟩ = some (.int .u64 (loW b)) := fun o => cell_al c4
      go_region_with ((go_at_call 45; refine (below_any _ _ _).mono ?_; rintro e w' ⟨rfl, rfl⟩))
      all_goals (go_wp2_with fail; go_meet; exact ⟨rfl, by with_reducible (repeat (first | refine SumsAt.dr ?_ | refine SumsAt.drN ?_ _ | refine SumsAt.al ?_ _)); exact H⟩)
    case rest =>
      obtain ⟨rfl, H'⟩ := hcut
      obtain ⟨hbel, hsz, _, _, _, _, r0, r1, s0, s1, f0, f1⟩ := H'
      clear H
      go_wp2
      exact bodyPost_ret (v := .tuple #[.agg #[.int .i64 (hiW s), .int .u64 (loW s)], .bool true]) (by simp [results, Try.results27, go_sem, r0, r1]) rfl ⟨by rw [show sumOf s = s from if_pos HF.out, decide_eq_true HF.out], (hbel.setCell (by simp; omega) _).setCell (by simp; omega) _⟩
end Go.Proofs.Ytljepnonigjcbaa

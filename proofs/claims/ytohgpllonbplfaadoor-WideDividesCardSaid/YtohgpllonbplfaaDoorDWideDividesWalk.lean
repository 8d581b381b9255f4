/- The walk of WideDivides: it returns true for any number and divisor. -/
import Derived.Test.YtohgpllonbplfaaDoorDText
import Derived.Test.YtohgpllonbplfaaDoorDInt
import Derived.Test.YtohgpllonbplfaaDoorDRefDiv
import Derived.Test.YtohgpllonbplfaaDoorDRefMore
import Derived.Deep.CutBlock
namespace Go.Proofs.YtohgpllonbplfaaDoor
open Go Go.RowKit
set_option linter.unusedVariables false

/-- the number in its blocks -/
structure DvAt (w : World) (g : Nat) (a : Int) (wx : World) : Prop where
  bel : Below w.heap.size w wx
  a0 : wx.cell? ⟨w.heap.size, 0, none⟩ = some (.int .i64 (hiW a))
  a1 : wx.cell? ⟨w.heap.size, 1, none⟩ = some (.int .u64 (loW a))
  e : Eight wx g (lb a)
theorem DvAt.step {w wx wy : World} {g : Nat} {a : Int} (h : DvAt w g a wx) (hb : Below wx.heap.size wx wy) : DvAt w g a wy :=
  ⟨h.bel.trans (hb.mono h.bel.size), cell_be hb h.a0, cell_be hb h.a1, h.e.be hb⟩
def isSmall (a : Int) : Bool := decide (-9223372036854775808 ≤ a ∧ a ≤ 9223372036854775807)
def smallV (a : Int) : Int := if isSmall a then a else 0
theorem int_any (a : Int) (w : World) (ha : fits a) :
    Calls Tryd.prog 8 #[.agg #[.int .i64 (hiW a), .int .u64 (loW a)]] w fun e w' => e = .returned (.tuple #[.int .i64 (smallV a), .bool (isSmall a)]) ∧ Below w.heap.size w w' := by
  by_cases h : -9223372036854775808 ≤ a ∧ a ≤ 9223372036854775807
  · have h1 : isSmall a = true := by simp [isSmall, h]
    unfold smallV
    rw [h1, if_pos rfl]
    exact int_yes a w h.1 h.2
  · have h1 : isSmall a = false := by unfold isSmall; rw [decide_eq_false_iff_not]; exact h
    unfold smallV
    rw [h1]
    exact int_no a w ha h
def SmallR (a : Int) (W0 : World) (t : Value) (wx : World) : Prop := t = .bool (isSmall a) ∧ wx = W0
def SameR (w : World) (g : Nat) (a : Int) (_ _ _ t : Value) (wx : World) : Prop := t = .bool false ∧ DvAt w g a wx
set_option maxRecDepth 100000 in
set_option maxHeartbeats 4000000 in
theorem wideDivides_walk (w : World) (a n : Int) (ha : fits a) (hn0 : -9223372036854775808 ≤ n) (hn1 : n ≤ 9223372036854775807) :
    Calls Tryd.prog 4 #[.agg #[.int .i64 (hiW a), .int .u64 (loW a)], .int .i64 n] w fun e w' => e = .returned (.bool true) ∧ Below w.heap.size w w' := by
  have HL := Lib.hid (fun w => limbs_any a w)
  have HI := Lib.hid (fun w => int_any a w ha)
  go_enter Tryd.func4, Tryd.ntmps4
  go_wp2_with fail
  obtain ⟨W0, hW0⟩ : ∃ W0, W0 = w.alloc (.cells #[.int .i64 (hiW a), .int .u64 (loW a)] 24) := ⟨_, rfl⟩
  have a0 : W0.cell? ⟨w.heap.size, 0, none⟩ = some (.int .i64 (hiW a)) := by rw [hW0]; exact cell_new0 rfl
  have a1 : W0.cell? ⟨w.heap.size, 1, none⟩ = some (.int .u64 (loW a)) := by rw [hW0]; exact cell_new1 rfl
  have hB : Below w.heap.size w W0 := by rw [hW0]; exact (Below.refl _ _).alloc (Nat.le_refl _) _
  rw [← hW0]
  clear hW0
  with_reducible refine (HL.out _).mono ?_
  rintro e w1 ⟨rfl, hb⟩
  have H1 := Lib.hid (show DvAt w w1.heap.size a (w1.alloc (.cells #[.int .i64 (lb a 0), .int .i64 (lb a 1), .int .i64 (lb a 2), .int .i64 (lb a 3), .int .i64 (lb a 4), .int .i64 (lb a 5), .int .i64 (lb a 6), .int .i64 (lb a 7)] 28)) from
    ⟨(bel_step hB (Nat.le_refl _) hb).alloc (bel_step hB (Nat.le_refl _) hb).size _, cell_al (cell_be hb a0), cell_al (cell_be hb a1), Eight.new rfl _ (lb a)⟩)
  replace a0 := H1.out.a0
  replace a1 := H1.out.a1
  clear hb hB HL
  go_wp2_with fail
  with_reducible refine (HI.out _).mono ?_
  rintro e w2 ⟨rfl, hb⟩
  replace H1 := Lib.hid (H1.out.step hb)
  replace a0 := H1.out.a0
  replace a1 := H1.out.a1
  clear hb HI
  go_upto_region 3 with fail
  go_cut [8] (SmallR a w2)
  case first =>
    clear H1
    have hv := val_of a ha
    obtain ⟨b0, b1⟩ := hiW_bd a
    obtain ⟨c0, c1⟩ := loW_bd a
    have hsm : isSmall a = decide ((hiW a = 0 ∧ loW a < 9223372036854775808) ∨ (hiW a = -1 ∧ 9223372036854775808 ≤ loW a)) := by
      unfold isSmall
      rw [decide_eq_decide]
      omega
    clear hv ha
    generalize hiW a = h at *
    generalize loW a = l at *
    have HSM := Lib.hid hsm; clear hsm
    by_cases h0 : h = 0
    · subst h0
      by_cases hl : l < 9223372036854775808
      · have d1 : decide (l < 9223372036854775808) = true := by simpa using hl
        go_wp2_with fail
        go_meet
        exact ⟨by rw [HSM.out]; simp [hl], rfl⟩
      · have d1 : decide (l < 9223372036854775808) = false := by simpa using hl
        go_wp2_with fail
        go_meet
        exact ⟨by rw [HSM.out]; simp [hl], rfl⟩
    · have e0 : (h == 0) = false := by simpa using h0
      by_cases h1 : h = -1
      · subst h1
        by_cases hl : 9223372036854775808 ≤ l
        · have d1 : decide (9223372036854775808 ≤ l) = true := by simpa using hl
          go_wp2_with fail
          go_meet
          exact ⟨by rw [HSM.out]; simp [hl], rfl⟩
        · have d1 : decide (9223372036854775808 ≤ l) = false := by simpa using hl
          go_wp2_with fail
          go_meet
          exact ⟨by rw [HSM.out]; simp [hl], rfl⟩
      · have e1 : (h == -1) = false := by simpa using h1
        go_wp2_with fail
        go_meet
        exact ⟨by rw [HSM.out]; simp [h0, h1], rfl⟩
  case rest =>
  obtain ⟨rfl, rfl⟩ := hcut
  go_upto_region 4 with fail
  go_cut [6, 7, 8, 69] (SameR w w1.heap.size a)
  case first =>
    have HA := Lib.hid (fun w => text_any a w ha)
    have HR := Lib.hid (fun w => rtext_any a w ha)
    obtain ⟨s, hs⟩ : ∃ s : ByteArray, s = ⟨(textL a).toArray⟩ := ⟨_, rfl⟩
    rw [← hs] at HA HR
    clear hs ha
    obtain ⟨r0, r1, r2, r3, r4, r5, r6, r7, _⟩ := eight_cells H1.out.e
    by_cases hsm : isSmall a = true
    · have hv : smallV a = a := by unfold smallV; rw [if_pos hsm]
      have hab : -9223372036854775808 ≤ a ∧ a ≤ 9223372036854775807 := by unfold isSmall at hsm; simpa using hsm
      have e1 : IntKind.i64.wrap (loW a) = a := by rw [IntWalk.i64_left]; unfold wrap64 loW; omega
      have e2 : wrap64 (loW a) = a := by unfold wrap64 loW; omega
      rw [hsm, hv]
      clear hsm hv hab
      refine wp_region_held_drew (S := (fun w' => w'.cell? ⟨w.heap.size, 0, none⟩ = some (.int .i64 (hiW a)) ∧ w'.cell? ⟨w.heap.size, 1, none⟩ = some (.int .u64 (loW a)) ∧ w'.cell? ⟨w1.heap.size, 0, none⟩ = some (.int .i64 (lb a 0)) ∧ w'.cell? ⟨w1.heap.size, 1, none⟩ = some (.int .i64 (lb a 1)) ∧ w'.cell? ⟨w1.heap.size, 2, none⟩ = some (.int .i64 (lb a 2)) ∧ w'.cell? ⟨w1.heap.size, 3, none⟩ = some (.int .i64 (lb a 3)) ∧ w'.cell? ⟨w1.heap.size, 4, none⟩ = some (.int .i64 (lb a 4)) ∧ w'.cell? ⟨w1.heap.size, 5, none⟩ = some (.int .i64 (lb a 5)) ∧ w'.cell? ⟨w1.heap.size, 6, none⟩ = some (.int .i64 (lb a 6)) ∧ w'.cell? ⟨w1.heap.size, 7, none⟩ = some (.int .i64 (lb a 7)))) (by kernel_rfl) ⟨a0, a1, r0, r1, r2, r3, r4, r5, r6, r7⟩ (fun hHeld => ?_)
      refine wpAnyH_take (i := 0) (v := ?_) rfl (by kernel_rfl) (by kernel_rfl) (by kernel_rfl) (fun _ _ _ h => h) (Or.inl ⟨rfl, ?_⟩) (by assumption) ?_
      rotate_left
      · (intro w hSw; (try dsimp only at hSw); go_simp; try with_reducible rfl)
      simp only [Act.put, List.getElem_toArray, List.getElem_cons_zero, List.setIfInBounds_toArray, List.set_cons_zero, List.set_cons_succ]
      refine wpAnyH_take (i := 1) (v := ?_) rfl (by kernel_rfl) (by kernel_rfl) (by kernel_rfl) (fun _ _ _ h => h) (Or.inl ⟨rfl, ?_⟩) (by assumption) ?_
      rotate_left
      · (intro w hSw; (try dsimp only at hSw); go_simp; try with_reducible rfl)
      simp only [Act.put, List.getElem_toArray, List.getElem_cons_zero, List.getElem_cons_succ, List.setIfInBounds_toArray, List.set_cons_zero, List.set_cons_succ]
      refine wpAnyH_take (i := 2) (v := ?_) rfl (by kernel_rfl) (by kernel_rfl) (by kernel_rfl) (fun _ _ _ h => h) (Or.inl ⟨rfl, ?_⟩) (by assumption) ?_
      rotate_left
      · (intro w hSw; (try dsimp only at hSw); go_simp; try with_reducible rfl)
      simp only [Act.put, List.getElem_toArray, List.getElem_cons_zero, List.getElem_cons_succ, List.setIfInBounds_toArray, List.set_cons_zero, List.set_cons_succ]
      refine wpAnyH_take (i := 3) (v := ?_) rfl (by kernel_rfl) (by kernel_rfl) (by kernel_rfl) (fun _ _ _ h => h) (Or.inl ⟨rfl, ?_⟩) (by assumption) ?_
      rotate_left
      · (intro w hSw; (try dsimp only at hSw); go_simp; try with_reducible rfl)
      simp only [Act.put, List.getElem_toArray, List.getElem_cons_zero, List.getElem_cons_succ, List.setIfInBounds_toArray, List.set_cons_zero, List.set_cons_succ]
      refine wpAnyH_take (i := 4) (v := ?_) rfl (by kernel_rfl) (by kernel_rfl) (by kernel_rfl) (fun _ _ _ h => h) (Or.inl ⟨rfl, ?_⟩) (by assumption) ?_
      rotate_left
      · (intro w hSw; (try dsimp only at hSw); go_simp; try with_reducible rfl)
      simp only [Act.put, List.getElem_toArray, List.getElem_cons_zero, List.getElem_cons_succ, List.setIfInBounds_toArray, List.set_cons_zero, List.set_cons_succ]
      refine wpAnyH_take (i := 5) (v := ?_) rfl (by kernel_rfl) (by kernel_rfl) (by kernel_rfl) (fun _ _ _ h => h) (Or.inl ⟨rfl, ?_⟩) (by assumption) ?_
      rotate_left
      · (intro w hSw; (try dsimp only at hSw); go_simp; try with_reducible rfl)
      simp only [Act.put, List.getElem_toArray, List.getElem_cons_zero, List.getElem_cons_succ, List.setIfInBounds_toArray, List.set_cons_zero, List.set_cons_succ]
      refine wpAnyH_take (i := 6) (v := ?_) rfl (by kernel_rfl) (by kernel_rfl) (by kernel_rfl) (fun _ _ _ h => h) (Or.inl ⟨rfl, ?_⟩) (by assumption) ?_
      rotate_left
      · (intro w hSw; (try dsimp only at hSw); go_simp; try with_reducible rfl)
      simp only [Act.put, List.getElem_toArray, List.getElem_cons_zero, List.getElem_cons_succ, List.setIfInBounds_toArray, List.set_cons_zero, List.set_cons_succ]
      refine wpAnyH_take (i := 7) (v := ?_) rfl (by kernel_rfl) (by kernel_rfl) (by kernel_rfl) (fun _ _ _ h => h) (Or.inl ⟨rfl, ?_⟩) (by assumption) ?_
      rotate_left
      · (intro w hSw; (try dsimp only at hSw); go_simp; try with_reducible rfl)
      simp only [Act.put, List.getElem_toArray, List.getElem_cons_zero, List.getElem_cons_succ, List.setIfInBounds_toArray, List.set_cons_zero, List.set_cons_succ]
      refine wpAnyH_take (i := 8) (v := ?_) rfl (by kernel_rfl) (by kernel_rfl) (by kernel_rfl) (fun _ _ _ h => h) (Or.inl ⟨rfl, ?_⟩) (by assumption) ?_
      rotate_left
      · (intro w hSw; (try dsimp only at hSw); go_simp; try with_reducible rfl)
      simp only [Act.put, List.getElem_toArray, List.getElem_cons_zero, List.getElem_cons_succ, List.setIfInBounds_toArray, List.set_cons_zero, List.set_cons_succ]
      refine wpAnyH_take (i := 9) (v := ?_) rfl (by kernel_rfl) (by kernel_rfl) (by kernel_rfl) (fun _ _ _ h => h) (Or.inl ⟨rfl, ?_⟩) (by assumption) ?_
      rotate_left
      · (intro w hSw; (try dsimp only at hSw); go_simp; try with_reducible rfl)
      simp only [Act.put, List.getElem_toArray, List.getElem_cons_zero, List.getElem_cons_succ, List.setIfInBounds_toArray, List.set_cons_zero, List.set_cons_succ]
      refine wpAnyH_take (i := 10) (v := ?_) rfl (by kernel_rfl) (by kernel_rfl) (by kernel_rfl) (fun _ _ _ h => h) (Or.inl ⟨rfl, ?_⟩) (by assumption) ?_
      rotate_left
      · (intro w hSw; (try dsimp only at hSw); go_simp; try with_reducible rfl)
      simp only [Act.put, List.getElem_toArray, List.getElem_cons_zero, List.getElem_cons_succ, List.setIfInBounds_toArray, List.set_cons_zero, List.set_cons_succ]
      refine wpAnyH_take (i := 11) (v := ?_) rfl (by kernel_rfl) (by kernel_rfl) (by kernel_rfl) (fun _ _ _ h => h) (Or.inl ⟨rfl, ?_⟩) (by assumption) ?_
      rotate_left
      · (intro w hSw; (try dsimp only at hSw); go_simp; try with_reducible rfl)
      simp only [Act.put, List.getElem_toArray, List.getElem_cons_zero, List.getElem_cons_succ, List.setIfInBounds_toArray, List.set_cons_zero, List.set_cons_succ]
      refine wpAnyH_take (i := 12) (v := ?_) rfl (by kernel_rfl) (by kernel_rfl) (by kernel_rfl) (fun _ _ _ h => h) (Or.inl ⟨rfl, ?_⟩) (by assumption) ?_
      rotate_left
      · (intro w hSw; (try dsimp only at hSw); go_simp; try with_reducible rfl)
      simp only [Act.put, List.getElem_toArray, List.getElem_cons_zero, List.getElem_cons_succ, List.setIfInBounds_toArray, List.set_cons_zero, List.set_cons_succ]
      refine wpAnyH_take (i := 13) (v := ?_) rfl (by kernel_rfl) (by kernel_rfl) (by kernel_rfl) (fun _ _ _ h => h) (Or.inl ⟨rfl, ?_⟩) (by assumption) ?_
      rotate_left
      · (intro w hSw; (try dsimp only at hSw); go_simp; try with_reducible rfl)
      simp only [Act.put, List.getElem_toArray, List.getElem_cons_zero, List.getElem_cons_succ, List.setIfInBounds_toArray, List.set_cons_zero, List.set_cons_succ]
      refine wpAnyH_take (i := 14) (v := ?_) rfl (by kernel_rfl) (by kernel_rfl) (by kernel_rfl) (fun _ _ _ h => h) (Or.inl ⟨rfl, ?_⟩) (by assumption) ?_
      rotate_left
      · (intro w hSw; (try dsimp only at hSw); go_simp; try with_reducible rfl)
      simp only [Act.put, List.getElem_toArray, List.getElem_cons_zero, List.getElem_cons_succ, List.setIfInBounds_toArray, List.set_cons_zero, List.set_cons_succ]
      refine wpAnyH_take (i := 15) (v := ?_) rfl (by kernel_rfl) (by kernel_rfl) (by kernel_rfl) (fun _ _ _ h => h) (Or.inl ⟨rfl, ?_⟩) (by assumption) ?_
      rotate_left
      · (intro w hSw; (try dsimp only at hSw); go_simp; try with_reducible rfl)
      simp only [Act.put, List.getElem_toArray, List.getElem_cons_zero, List.getElem_cons_succ, List.setIfInBounds_toArray, List.set_cons_zero, List.set_cons_succ]
      refine wpAnyH_take (i := 16) (v := ?_) rfl (by kernel_rfl) (by kernel_rfl) (by kernel_rfl) (fun _ _ _ h => h) (Or.inl ⟨rfl, ?_⟩) (by assumption) ?_
      rotate_left
      · (intro w hSw; (try dsimp only at hSw); go_simp; try with_reducible rfl)
      simp only [Act.put, List.getElem_toArray, List.getElem_cons_zero, List.getElem_cons_succ, List.setIfInBounds_toArray, List.set_cons_zero, List.set_cons_succ]
      refine wpAnyH_take (i := 17) (v := undef) rfl (by kernel_rfl) (by kernel_rfl) (by kernel_rfl) (fun _ _ _ h => h) (Or.inr ⟨rfl, rfl⟩) (by assumption) ?_
      simp only [Act.put, List.getElem_toArray, List.getElem_cons_zero, List.getElem_cons_succ, List.setIfInBounds_toArray, List.set_cons_zero, List.set_cons_succ]
      refine wpAnyH_take (i := 18) (v := undef) rfl (by kernel_rfl) (by kernel_rfl) (by kernel_rfl) (fun _ _ _ h => h) (Or.inr ⟨rfl, rfl⟩) (by assumption) ?_
      simp only [Act.put, List.getElem_toArray, List.getElem_cons_zero, List.getElem_cons_succ, List.setIfInBounds_toArray, List.set_cons_zero, List.set_cons_succ]
      refine wpAnyH_take (i := 19) (v := ?_) rfl (by kernel_rfl) (by kernel_rfl) (by kernel_rfl) (fun _ _ _ h => h) (Or.inl ⟨rfl, ?_⟩) (by assumption) ?_
      rotate_left
      · (intro w hSw; (try dsimp only at hSw); go_simp; try with_reducible rfl)
      simp only [Act.put, List.getElem_toArray, List.getElem_cons_zero, List.getElem_cons_succ, List.setIfInBounds_toArray, List.set_cons_zero, List.set_cons_succ]
      refine wpAnyH_take (i := 20) (v := ?_) rfl (by kernel_rfl) (by kernel_rfl) (by kernel_rfl) (fun _ _ _ h => h) (Or.inl ⟨rfl, ?_⟩) (by assumption) ?_
      rotate_left
      · (intro w hSw; (try dsimp only at hSw); go_simp; try with_reducible rfl)
      simp only [Act.put, List.getElem_toArray, List.getElem_cons_zero, List.getElem_cons_succ, List.setIfInBounds_toArray, List.set_cons_zero, List.set_cons_succ]
      refine wpAnyH_take (i := 21) (v := ?_) rfl (by kernel_rfl) (by kernel_rfl) (by kernel_rfl) (fun _ _ _ h => h) (Or.inl ⟨rfl, ?_⟩) (by assumption) ?_
      rotate_left
      · (intro w hSw; (try dsimp only at hSw); go_simp; try with_reducible rfl)
      simp only [Act.put, List.getElem_toArray, List.getElem_cons_zero, List.getElem_cons_succ, List.setIfInBounds_toArray, List.set_cons_zero, List.set_cons_succ]
      refine wpAnyH_take (i := 22) (v := ?_) rfl (by kernel_rfl) (by kernel_rfl) (by kernel_rfl) (fun _ _ _ h => h) (Or.inl ⟨rfl, ?_⟩) (by assumption) ?_
      rotate_left
      · (intro w hSw; (try dsimp only at hSw); go_simp; try with_reducible rfl)
      simp only [Act.put, List.getElem_toArray, List.getElem_cons_zero, List.getElem_cons_succ, List.setIfInBounds_toArray, List.set_cons_zero, List.set_cons_succ]
      refine wpAnyH_take (i := 24) (v := ?_) rfl (by kernel_rfl) (by kernel_rfl) (by kernel_rfl) (fun _ _ _ h => h) (Or.inl ⟨rfl, ?_⟩) (by assumption) ?_
      rotate_left
      · (intro w hSw; (try dsimp only at hSw); go_simp; try with_reducible rfl)
      simp only [Act.put, List.getElem_toArray, List.getElem_cons_zero, List.getElem_cons_succ, List.setIfInBounds_toArray, List.set_cons_zero, List.set_cons_succ]
      refine wpAnyH_ready (rs := [23]) (by kernel_rfl) (by simp) ?_
      refine AllReadyH.cons rfl (fun K hK => ?_) AllReadyH.nil
      go_simp
      go_at_call 5
      with_reducible refine (HA.out _).mono ?_
      rintro e w3 ⟨rfl, hb3⟩
      replace a0 := cell_be hb3 (cell_dr a0)
      replace a1 := cell_be hb3 (cell_dr a1)
      replace r0 := cell_be hb3 (cell_dr r0)
      replace r1 := cell_be hb3 (cell_dr r1)
      replace r2 := cell_be hb3 (cell_dr r2)
      replace r3 := cell_be hb3 (cell_dr r3)
      replace r4 := cell_be hb3 (cell_dr r4)
      replace r5 := cell_be hb3 (cell_dr r5)
      replace r6 := cell_be hb3 (cell_dr r6)
      replace r7 := cell_be hb3 (cell_dr r7)
      refine hK.out _ _ ⟨a0, a1, r0, r1, r2, r3, r4, r5, r6, r7⟩ (fun hHeld => ?_)
      clear hK K
      try simp only [Act.put, List.getElem_toArray, List.getElem_cons_zero, List.getElem_cons_succ, List.setIfInBounds_toArray, List.set_cons_zero, List.set_cons_succ]
      refine wpAnyH_ready (rs := [25]) (by kernel_rfl) (by simp) ?_
      refine AllReadyH.cons rfl (fun K hK => ?_) AllReadyH.nil
      go_simp
      go_at_call 9
      with_reducible refine (HR.out _).mono ?_
      rintro e w4 ⟨rfl, hb4⟩
      replace a0 := cell_be hb4 (a0)
      replace a1 := cell_be hb4 (a1)
      replace r0 := cell_be hb4 (r0)
      replace r1 := cell_be hb4 (r1)
      replace r2 := cell_be hb4 (r2)
      replace r3 := cell_be hb4 (r3)
      replace r4 := cell_be hb4 (r4)
      replace r5 := cell_be hb4 (r5)
      replace r6 := cell_be hb4 (r6)
      replace r7 := cell_be hb4 (r7)
      refine hK.out _ _ ⟨a0, a1, r0, r1, r2, r3, r4, r5, r6, r7⟩ (fun hHeld => ?_)
      clear hK K
      try simp only [Act.put, List.getElem_toArray, List.getElem_cons_zero, List.getElem_cons_succ, List.setIfInBounds_toArray, List.set_cons_zero, List.set_cons_succ]
      refine wpAnyH_take (i := 26) (v := ?_) rfl (by kernel_rfl) (by kernel_rfl) (by kernel_rfl) (fun _ _ _ h => h) (Or.inl ⟨rfl, ?_⟩) (by assumption) ?_
      rotate_left
      · (intro w hSw; (try dsimp only at hSw); go_simp; try with_reducible rfl)
      simp only [Act.put, List.getElem_toArray, List.getElem_cons_zero, List.getElem_cons_succ, List.setIfInBounds_toArray, List.set_cons_zero, List.set_cons_succ]
      refine wpAnyH_take (i := 27) (v := ?_) rfl (by kernel_rfl) (by kernel_rfl) (by kernel_rfl) (fun _ _ _ h => h) (Or.inl ⟨rfl, ?_⟩) (by assumption) ?_
      rotate_left
      · (intro w hSw; (try dsimp only at hSw); go_simp; try with_reducible rfl)
      simp only [Act.put, List.getElem_toArray, List.getElem_cons_zero, List.getElem_cons_succ, List.setIfInBounds_toArray, List.set_cons_zero, List.set_cons_succ]
      refine wpAnyH_done (by kernel_rfl) ?_ _
      go_wp2_with fail
      go_meet
      exact ⟨rfl, ((H1.out.step (Below.refl _ _).drew).step hb3).step hb4⟩
    · have hsm' : isSmall a = false := by simpa using hsm
      have hv : smallV a = 0 := by unfold smallV; rw [hsm']; rfl
      rw [hsm', hv]
      clear hsm hsm' hv
      refine wp_region_held_drew (S := (fun w' => w'.cell? ⟨w.heap.size, 0, none⟩ = some (.int .i64 (hiW a)) ∧ w'.cell? ⟨w.heap.size, 1, none⟩ = some (.int .u64 (loW a)) ∧ w'.cell? ⟨w1.heap.size, 0, none⟩ = some (.int .i64 (lb a 0)) ∧ w'.cell? ⟨w1.heap.size, 1, none⟩ = some (.int .i64 (lb a 1)) ∧ w'.cell? ⟨w1.heap.size, 2, none⟩ = some (.int .i64 (lb a 2)) ∧ w'.cell? ⟨w1.heap.size, 3, none⟩ = some (.int .i64 (lb a 3)) ∧ w'.cell? ⟨w1.heap.size, 4, none⟩ = some (.int .i64 (lb a 4)) ∧ w'.cell? ⟨w1.heap.size, 5, none⟩ = some (.int .i64 (lb a 5)) ∧ w'.cell? ⟨w1.heap.size, 6, none⟩ = some (.int .i64 (lb a 6)) ∧ w'.cell? ⟨w1.heap.size, 7, none⟩ = some (.int .i64 (lb a 7)))) (by kernel_rfl) ⟨a0, a1, r0, r1, r2, r3, r4, r5, r6, r7⟩ (fun hHeld => ?_)
      refine wpAnyH_take (i := 0) (v := ?_) rfl (by kernel_rfl) (by kernel_rfl) (by kernel_rfl) (fun _ _ _ h => h) (Or.inl ⟨rfl, ?_⟩) (by assumption) ?_
      rotate_left
      · (intro w hSw; (try dsimp only at hSw); go_simp; try with_reducible rfl)
      simp only [Act.put, List.getElem_toArray, List.getElem_cons_zero, List.setIfInBounds_toArray, List.set_cons_zero, List.set_cons_succ]
      refine wpAnyH_take (i := 1) (v := ?_) rfl (by kernel_rfl) (by kernel_rfl) (by kernel_rfl) (fun _ _ _ h => h) (Or.inl ⟨rfl, ?_⟩) (by assumption) ?_
      rotate_left
      · (intro w hSw; (try dsimp only at hSw); go_simp; try with_reducible rfl)
      simp only [Act.put, List.getElem_toArray, List.getElem_cons_zero, List.getElem_cons_succ, List.setIfInBounds_toArray, List.set_cons_zero, List.set_cons_succ]
      refine wpAnyH_take (i := 2) (v := ?_) rfl (by kernel_rfl) (by kernel_rfl) (by kernel_rfl) (fun _ _ _ h => h) (Or.inl ⟨rfl, ?_⟩) (by assumption) ?_
      rotate_left
      · (intro w hSw; (try dsimp only at hSw); go_simp; try with_reducible rfl)
      simp only [Act.put, List.getElem_toArray, List.getElem_cons_zero, List.getElem_cons_succ, List.setIfInBounds_toArray, List.set_cons_zero, List.set_cons_succ]
      refine wpAnyH_take (i := 3) (v := ?_) rfl (by kernel_rfl) (by kernel_rfl) (by kernel_rfl) (fun _ _ _ h => h) (Or.inl ⟨rfl, ?_⟩) (by assumption) ?_
      rotate_left
      · (intro w hSw; (try dsimp only at hSw); go_simp; try with_reducible rfl)
      simp only [Act.put, List.getElem_toArray, List.getElem_cons_zero, List.getElem_cons_succ, List.setIfInBounds_toArray, List.set_cons_zero, List.set_cons_succ]
      refine wpAnyH_take (i := 4) (v := ?_) rfl (by kernel_rfl) (by kernel_rfl) (by kernel_rfl) (fun _ _ _ h => h) (Or.inl ⟨rfl, ?_⟩) (by assumption) ?_
      rotate_left
      · (intro w hSw; (try dsimp only at hSw); go_simp; try with_reducible rfl)
      simp only [Act.put, List.getElem_toArray, List.getElem_cons_zero, List.getElem_cons_succ, List.setIfInBounds_toArray, List.set_cons_zero, List.set_cons_succ]
      refine wpAnyH_take (i := 5) (v := ?_) rfl (by kernel_rfl) (by kernel_rfl) (by kernel_rfl) (fun _ _ _ h => h) (Or.inl ⟨rfl, ?_⟩) (by assumption) ?_
      rotate_left
      · (intro w hSw; (try dsimp only at hSw); go_simp; try with_reducible rfl)
      simp only [Act.put, List.getElem_toArray, List.getElem_cons_zero, List.getElem_cons_succ, List.setIfInBounds_toArray, List.set_cons_zero, List.set_cons_succ]
      refine wpAnyH_take (i := 6) (v := undef) rfl (by kernel_rfl) (by kernel_rfl) (by kernel_rfl) (fun _ _ _ h => h) (Or.inr ⟨rfl, rfl⟩) (by assumption) ?_
      simp only [Act.put, List.getElem_toArray, List.getElem_cons_zero, List.getElem_cons_succ, List.setIfInBounds_toArray, List.set_cons_zero, List.set_cons_succ]
      refine wpAnyH_take (i := 7) (v := undef) rfl (by kernel_rfl) (by kernel_rfl) (by kernel_rfl) (fun _ _ _ h => h) (Or.inr ⟨rfl, rfl⟩) (by assumption) ?_
      simp only [Act.put, List.getElem_toArray, List.getElem_cons_zero, List.getElem_cons_succ, List.setIfInBounds_toArray, List.set_cons_zero, List.set_cons_succ]
      refine wpAnyH_take (i := 8) (v := undef) rfl (by kernel_rfl) (by kernel_rfl) (by kernel_rfl) (fun _ _ _ h => h) (Or.inr ⟨rfl, rfl⟩) (by assumption) ?_
      simp only [Act.put, List.getElem_toArray, List.getElem_cons_zero, List.getElem_cons_succ, List.setIfInBounds_toArray, List.set_cons_zero, List.set_cons_succ]
      refine wpAnyH_take (i := 9) (v := undef) rfl (by kernel_rfl) (by kernel_rfl) (by kernel_rfl) (fun _ _ _ h => h) (Or.inr ⟨rfl, rfl⟩) (by assumption) ?_
      simp only [Act.put, List.getElem_toArray, List.getElem_cons_zero, List.getElem_cons_succ, List.setIfInBounds_toArray, List.set_cons_zero, List.set_cons_succ]
      refine wpAnyH_take (i := 10) (v := undef) rfl (by kernel_rfl) (by kernel_rfl) (by kernel_rfl) (fun _ _ _ h => h) (Or.inr ⟨rfl, rfl⟩) (by assumption) ?_
      simp only [Act.put, List.getElem_toArray, List.getElem_cons_zero, List.getElem_cons_succ, List.setIfInBounds_toArray, List.set_cons_zero, List.set_cons_succ]
      refine wpAnyH_take (i := 11) (v := ?_) rfl (by kernel_rfl) (by kernel_rfl) (by kernel_rfl) (fun _ _ _ h => h) (Or.inl ⟨rfl, ?_⟩) (by assumption) ?_
      rotate_left
      · (intro w hSw; (try dsimp only at hSw); go_simp; try with_reducible rfl)
      simp only [Act.put, List.getElem_toArray, List.getElem_cons_zero, List.getElem_cons_succ, List.setIfInBounds_toArray, List.set_cons_zero, List.set_cons_succ]
      refine wpAnyH_take (i := 12) (v := ?_) rfl (by kernel_rfl) (by kernel_rfl) (by kernel_rfl) (fun _ _ _ h => h) (Or.inl ⟨rfl, ?_⟩) (by assumption) ?_
      rotate_left
      · (intro w hSw; (try dsimp only at hSw); go_simp; try with_reducible rfl)
      simp only [Act.put, List.getElem_toArray, List.getElem_cons_zero, List.getElem_cons_succ, List.setIfInBounds_toArray, List.set_cons_zero, List.set_cons_succ]
      refine wpAnyH_take (i := 13) (v := ?_) rfl (by kernel_rfl) (by kernel_rfl) (by kernel_rfl) (fun _ _ _ h => h) (Or.inl ⟨rfl, ?_⟩) (by assumption) ?_
      rotate_left
      · (intro w hSw; (try dsimp only at hSw); go_simp; try with_reducible rfl)
      simp only [Act.put, List.getElem_toArray, List.getElem_cons_zero, List.getElem_cons_succ, List.setIfInBounds_toArray, List.set_cons_zero, List.set_cons_succ]
      refine wpAnyH_take (i := 14) (v := ?_) rfl (by kernel_rfl) (by kernel_rfl) (by kernel_rfl) (fun _ _ _ h => h) (Or.inl ⟨rfl, ?_⟩) (by assumption) ?_
      rotate_left
      · (intro w hSw; (try dsimp only at hSw); go_simp; try with_reducible rfl)
      simp only [Act.put, List.getElem_toArray, List.getElem_cons_zero, List.getElem_cons_succ, List.setIfInBounds_toArray, List.set_cons_zero, List.set_cons_succ]
      refine wpAnyH_take (i := 15) (v := ?_) rfl (by kernel_rfl) (by kernel_rfl) (by kernel_rfl) (fun _ _ _ h => h) (Or.inl ⟨rfl, ?_⟩) (by assumption) ?_
      rotate_left
      · (intro w hSw; (try dsimp only at hSw); go_simp; try with_reducible rfl)
      simp only [Act.put, List.getElem_toArray, List.getElem_cons_zero, List.getElem_cons_succ, List.setIfInBounds_toArray, List.set_cons_zero, List.set_cons_succ]
      refine wpAnyH_take (i := 16) (v := ?_) rfl (by kernel_rfl) (by kernel_rfl) (by kernel_rfl) (fun _ _ _ h => h) (Or.inl ⟨rfl, ?_⟩) (by assumption) ?_
      rotate_left
      · (intro w hSw; (try dsimp only at hSw); go_simp; try with_reducible rfl)
      simp only [Act.put, List.getElem_toArray, List.getElem_cons_zero, List.getElem_cons_succ, List.setIfInBounds_toArray, List.set_cons_zero, List.set_cons_succ]
      refine wpAnyH_take (i := 17) (v := ?_) rfl (by kernel_rfl) (by kernel_rfl) (by kernel_rfl) (fun _ _ _ h => h) (Or.inl ⟨rfl, ?_⟩) (by assumption) ?_
      rotate_left
      · (intro w hSw; (try dsimp only at hSw); go_simp; try with_reducible rfl)
      simp only [Act.put, List.getElem_toArray, List.getElem_cons_zero, List.getElem_cons_succ, List.setIfInBounds_toArray, List.set_cons_zero, List.set_cons_succ]
      refine wpAnyH_take (i := 18) (v := ?_) rfl (by kernel_rfl) (by kernel_rfl) (by kernel_rfl) (fun _ _ _ h => h) (Or.inl ⟨rfl, ?_⟩) (by assumption) ?_
      rotate_left
      · (intro w hSw; (try dsimp only at hSw); go_simp; try with_reducible rfl)
      simp only [Act.put, List.getElem_toArray, List.getElem_cons_zero, List.getElem_cons_succ, List.setIfInBounds_toArray, List.set_cons_zero, List.set_cons_succ]
      refine wpAnyH_take (i := 19) (v := ?_) rfl (by kernel_rfl) (by kernel_rfl) (by kernel_rfl) (fun _ _ _ h => h) (Or.inl ⟨rfl, ?_⟩) (by assumption) ?_
      rotate_left
      · (intro w hSw; (try dsimp only at hSw); go_simp; try with_reducible rfl)
      simp only [Act.put, List.getElem_toArray, List.getElem_cons_zero, List.getElem_cons_succ, List.setIfInBounds_toArray, List.set_cons_zero, List.set_cons_succ]
      refine wpAnyH_take (i := 20) (v := ?_) rfl (by kernel_rfl) (by kernel_rfl) (by kernel_rfl) (fun _ _ _ h => h) (Or.inl ⟨rfl, ?_⟩) (by assumption) ?_
      rotate_left
      · (intro w hSw; (try dsimp only at hSw); go_simp; try with_reducible rfl)
      simp only [Act.put, List.getElem_toArray, List.getElem_cons_zero, List.getElem_cons_succ, List.setIfInBounds_toArray, List.set_cons_zero, List.set_cons_succ]
      refine wpAnyH_take (i := 21) (v := ?_) rfl (by kernel_rfl) (by kernel_rfl) (by kernel_rfl) (fun _ _ _ h => h) (Or.inl ⟨rfl, ?_⟩) (by assumption) ?_
      rotate_left
      · (intro w hSw; (try dsimp only at hSw); go_simp; try with_reducible rfl)
      simp only [Act.put, List.getElem_toArray, List.getElem_cons_zero, List.getElem_cons_succ, List.setIfInBounds_toArray, List.set_cons_zero, List.set_cons_succ]
      refine wpAnyH_take (i := 22) (v := ?_) rfl (by kernel_rfl) (by kernel_rfl) (by kernel_rfl) (fun _ _ _ h => h) (Or.inl ⟨rfl, ?_⟩) (by assumption) ?_
      rotate_left
      · (intro w hSw; (try dsimp only at hSw); go_simp; try with_reducible rfl)
      simp only [Act.put, List.getElem_toArray, List.getElem_cons_zero, List.getElem_cons_succ, List.setIfInBounds_toArray, List.set_cons_zero, List.set_cons_succ]
      refine wpAnyH_take (i := 24) (v := ?_) rfl (by kernel_rfl) (by kernel_rfl) (by kernel_rfl) (fun _ _ _ h => h) (Or.inl ⟨rfl, ?_⟩) (by assumption) ?_
      rotate_left
      · (intro w hSw; (try dsimp only at hSw); go_simp; try with_reducible rfl)
      simp only [Act.put, List.getElem_toArray, List.getElem_cons_zero, List.getElem_cons_succ, List.setIfInBounds_toArray, List.set_cons_zero, List.set_cons_succ]
      refine wpAnyH_ready (rs := [23]) (by kernel_rfl) (by simp) ?_
      refine AllReadyH.cons rfl (fun K hK => ?_) AllReadyH.nil
      go_simp
      go_at_call 5
      with_reducible refine (HA.out _).mono ?_
      rintro e w3 ⟨rfl, hb3⟩
      replace a0 := cell_be hb3 (cell_dr a0)
      replace a1 := cell_be hb3 (cell_dr a1)
      replace r0 := cell_be hb3 (cell_dr r0)
      replace r1 := cell_be hb3 (cell_dr r1)
      replace r2 := cell_be hb3 (cell_dr r2)
      replace r3 := cell_be hb3 (cell_dr r3)
      replace r4 := cell_be hb3 (cell_dr r4)
      replace r5 := cell_be hb3 (cell_dr r5)
      replace r6 := cell_be hb3 (cell_dr r6)
      replace r7 := cell_be hb3 (cell_dr r7)
      refine hK.out _ _ ⟨a0, a1, r0, r1, r2, r3, r4, r5, r6, r7⟩ (fun hHeld => ?_)
      clear hK K
      try simp only [Act.put, List.getElem_toArray, List.getElem_cons_zero, List.getElem_cons_succ, List.setIfInBounds_toArray, List.set_cons_zero, List.set_cons_succ]
      refine wpAnyH_ready (rs := [25]) (by kernel_rfl) (by simp) ?_
      refine AllReadyH.cons rfl (fun K hK => ?_) AllReadyH.nil
      go_simp
      go_at_call 9
      with_reducible refine (HR.out _).mono ?_
      rintro e w4 ⟨rfl, hb4⟩
      replace a0 := cell_be hb4 (a0)
      replace a1 := cell_be hb4 (a1)
      replace r0 := cell_be hb4 (r0)
      replace r1 := cell_be hb4 (r1)
      replace r2 := cell_be hb4 (r2)
      replace r3 := cell_be hb4 (r3)
      replace r4 := cell_be hb4 (r4)
      replace r5 := cell_be hb4 (r5)
      replace r6 := cell_be hb4 (r6)
      replace r7 := cell_be hb4 (r7)
      refine hK.out _ _ ⟨a0, a1, r0, r1, r2, r3, r4, r5, r6, r7⟩ (fun hHeld => ?_)
      clear hK K
      try simp only [Act.put, List.getElem_toArray, List.getElem_cons_zero, List.getElem_cons_succ, List.setIfInBounds_toArray, List.set_cons_zero, List.set_cons_succ]
      refine wpAnyH_take (i := 26) (v := ?_) rfl (by kernel_rfl) (by kernel_rfl) (by kernel_rfl) (fun _ _ _ h => h) (Or.inl ⟨rfl, ?_⟩) (by assumption) ?_
      rotate_left
      · (intro w hSw; (try dsimp only at hSw); go_simp; try with_reducible rfl)
      simp only [Act.put, List.getElem_toArray, List.getElem_cons_zero, List.getElem_cons_succ, List.setIfInBounds_toArray, List.set_cons_zero, List.set_cons_succ]
      refine wpAnyH_take (i := 27) (v := ?_) rfl (by kernel_rfl) (by kernel_rfl) (by kernel_rfl) (fun _ _ _ h => h) (Or.inl ⟨rfl, ?_⟩) (by assumption) ?_
      rotate_left
      · (intro w hSw; (try dsimp only at hSw); go_simp; try with_reducible rfl)
      simp only [Act.put, List.getElem_toArray, List.getElem_cons_zero, List.getElem_cons_succ, List.setIfInBounds_toArray, List.set_cons_zero, List.set_cons_succ]
      refine wpAnyH_done (by kernel_rfl) ?_ _
      go_wp2_with fail
      go_meet
      exact ⟨rfl, ((H1.out.step (Below.refl _ _).drew).step hb3).step hb4⟩
  case rest =>
  obtain ⟨rfl, H2⟩ := hcut
  clear H1 a0 a1
  have a0 := H2.a0
  have a1 := H2.a1
  replace H2 := Lib.hid H2
  by_cases hn : n ≤ 0
  · have HD := Lib.hid (fun w => wdiv_bad a n w hn)
    have dn : decide (n ≤ 0) = true := by simpa using hn
    go_wp2_with fail
    with_reducible refine (HD.out _).mono ?_
    rintro e w5 ⟨rfl, hb⟩
    have hB := bel_step H2.out.bel (Nat.le_refl _) hb
    clear hb HD a0 a1
    go_wp2_with fail
    go_ret
    exact ⟨rfl, hB.alloc hB.size _⟩
  · have HD := Lib.hid (fun w => div_any a n w ha (by omega) hn1)
    have HR := Lib.hid (fun w => rdiv_any a n w ha (by omega) hn1)
    have HS := Lib.hid (fun w => like_same (a / n) true w)
    have dn : ¬ n ≤ 0 := hn
    clear hn
    go_wp2_with fail
    with_reducible refine (HD.out _).mono ?_
    rintro e w5 ⟨rfl, hb⟩
    replace H2 := Lib.hid (H2.out.step hb)
    clear hb HD a0 a1
    obtain ⟨W6, hW6⟩ : ∃ W6, W6 = w5.alloc (.cells #[.int .i64 (hiW (a / n)), .int .u64 (loW (a / n))] 24) := ⟨_, rfl⟩
    have q0 : W6.cell? ⟨w5.heap.size, 0, none⟩ = some (.int .i64 (hiW (a / n))) := by rw [hW6]; exact cell_new0 rfl
    have q1 : W6.cell? ⟨w5.heap.size, 1, none⟩ = some (.int .u64 (loW (a / n))) := by rw [hW6]; exact cell_new1 rfl
    have H3 := Lib.hid (show DvAt w w1.heap.size a W6 by rw [hW6]; exact H2.out.step ((Below.refl _ _).alloc (Nat.le_refl _) _))
    have HW := Lib.hid hW6; clear hW6
    obtain ⟨r0, r1, r2, r3, r4, r5, r6, r7, _⟩ := eight_cells H3.out.e
    generalize a / n = Q at *
    generalize a % n = R at *
    go_upto_region 9 with fail
    rw [← HW.out]
    clear HW
    go_wp2_with fail
    with_reducible refine (HR.out _).mono ?_
    rintro e w7 ⟨rfl, hb⟩
    replace q0 := cell_be hb q0
    replace q1 := cell_be hb q1
    have hB := bel_step H3.out.bel (Nat.le_refl _) hb
    clear hb HR H2 H3 r0 r1 r2 r3 r4 r5 r6 r7
    obtain ⟨W8, hW8⟩ : ∃ W8, W8 = w7.alloc (.cells #[.int .i64 (lb Q 0), .int .i64 (lb Q 1), .int .i64 (lb Q 2), .int .i64 (lb Q 3), .int .i64 (lb Q 4), .int .i64 (lb Q 5), .int .i64 (lb Q 6), .int .i64 (lb Q 7)] 28) := ⟨_, rfl⟩
    have E := Lib.hid (show Eight W8 w7.heap.size (lb Q) by rw [hW8]; exact Eight.new rfl _ (lb Q))
    obtain ⟨r0, r1, r2, r3, r4, r5, r6, r7, _⟩ := eight_cells E.out
    replace q0 : W8.cell? ⟨w5.heap.size, 0, none⟩ = some (.int .i64 (hiW Q)) := by rw [hW8]; exact cell_al q0
    replace q1 : W8.cell? ⟨w5.heap.size, 1, none⟩ = some (.int .u64 (loW Q)) := by rw [hW8]; exact cell_al q1
    replace hB : Below w.heap.size w W8 := by rw [hW8]; exact hB.alloc hB.size _
    have HW := Lib.hid hW8; clear hW8
    go_upto_region 10 with fail
    rw [← HW.out]
    clear HW
    go_wp2_with fail
    with_reducible refine (HS.out _).mono ?_
    rintro e w9 ⟨rfl, hb⟩
    replace hB := bel_step hB (Nat.le_refl _) hb
    clear hb HS q0 q1 r0 r1 r2 r3 r4 r5 r6 r7 E
    go_wp2_with fail
    go_ret
    exact ⟨rfl, hB⟩
theorem wideDivides_parts (w : World) (b00 b01 : Int) (h0 : -9223372036854775808 ≤ b00 ∧ b00 ≤ 9223372036854775807) (l0 : 0 ≤ b01 ∧ b01 ≤ 18446744073709551615) (a1 : Int) (h1 : -9223372036854775808 ≤ a1 ∧ a1 ≤ 9223372036854775807) :
    Calls Tryd.prog 4 #[.agg #[.int .i64 b00, .int .u64 b01], .int .i64 a1] w fun e w' => e = .returned (.bool true) ∧ Below w.heap.size w w' := by
  obtain ⟨e0, e1, f0⟩ := parts_of b00 b01 h0.1 h0.2 l0.1 l0.2
  have h := wideDivides_walk w _ a1 f0 h1.1 h1.2
  rw [e0, e1] at h
  exact h
end Go.Proofs.YtohgpllonbplfaaDoor

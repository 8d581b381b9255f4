/- The contract of wide.Sum's Text. -/
import Derived.Test.YtohgpllonbplfaaDoorDDiv
import Derived.Test.YtohgpllonbplfaaDoorDChunk
import Derived.Test.YtohgpllonbplfaaDoorDTrim
import Derived.Deep.DeepCutAuto
namespace Go.Proofs.YtohgpllonbplfaaDoor
open Go Go.RowKit
set_option linter.unusedVariables false

/-- the three parts so far, and what is left -/
def part19 (v : Nat) (j : Nat) : Nat := v / 10000000000000000000 ^ j % 10000000000000000000
structure TxAt (w : World) (g : Nat) (a : Int) (v k : Nat) (wx : World) : Prop where
  bel : Below w.heap.size w wx
  a0 : wx.cell? ⟨w.heap.size, 0, none⟩ = some (.int .i64 (hiW a))
  a1 : wx.cell? ⟨w.heap.size, 1, none⟩ = some (.int .u64 (loW a))
  l : ∀ j, j < 3 → wx.cell? ⟨w.heap.size + 1, j, none⟩ = some (.int .u64 (if j < k then (part19 v j : Int) else 0)) ∧ wx.frozen? ⟨w.heap.size + 1, j, none⟩ = false
  p0 : wx.cell? ⟨g, 0, none⟩ = some (.int .u64 (upW ((v / 10000000000000000000 ^ k : Nat) : Int)))
  p1 : wx.cell? ⟨g, 1, none⟩ = some (.int .u64 (loW ((v / 10000000000000000000 ^ k : Nat) : Int)))
  f0 : wx.frozen? ⟨g, 0, none⟩ = false
  f1 : wx.frozen? ⟨g, 1, none⟩ = false
  hg : w.heap.size + 1 < g
def TxRel (w : World) (g : Nat) (a : Int) (v : Nat) (v10 : Value) (wr : World) : Prop := ∃ k, k ≤ 3 ∧ v10 = .int .i64 (k : Nat) ∧ TxAt w g a v k wr
theorem parts_ten (n : Nat) (w : World) (h : n < 340282366920938463463374607431768211456) :
    Calls Tryd.prog 14 #[.agg #[.int .u64 (upW n), .int .u64 (loW n)], .int .u64 10000000000000000000] w fun e w' => e = .returned (.tuple #[.agg #[.int .u64 (upW ((n / 10000000000000000000 : Nat) : Int)), .int .u64 (loW ((n / 10000000000000000000 : Nat) : Int))], .int .u64 ((n % 10000000000000000000 : Nat) : Int)]) ∧ Below w.heap.size w w' := by
  have h := parts_any (n : Int) 10000000000000000000 w (by omega) (by omega) (by omega) (by omega)
  rw [show (n : Int) / 10000000000000000000 = ((n / 10000000000000000000 : Nat) : Int) by omega, show (n : Int) % 10000000000000000000 = ((n % 10000000000000000000 : Nat) : Int) by omega] at h
  exact h
theorem TxAt.put {w wx : World} {g : Nat} {a : Int} {v k : Nat} (h : TxAt w g a v k wx) (hk : k < 3) :
    TxAt w g a v (k + 1) (((wx.setCell ⟨g, 0, none⟩ (.int .u64 (upW ((v / 10000000000000000000 ^ k / 10000000000000000000 : Nat) : Int)))).setCell ⟨g, 1, none⟩ (.int .u64 (loW ((v / 10000000000000000000 ^ k / 10000000000000000000 : Nat) : Int)))).setCell ⟨w.heap.size + 1, k, none⟩ (.int .u64 ((v / 10000000000000000000 ^ k % 10000000000000000000 : Nat) : Int))) := by
  obtain ⟨bel, a0, a1, l, p0, p1, f0, f1, hg⟩ := h
  have t := two_set (x := .int .u64 (upW ((v / 10000000000000000000 ^ k / 10000000000000000000 : Nat) : Int))) (y := .int .u64 (loW ((v / 10000000000000000000 ^ k / 10000000000000000000 : Nat) : Int))) p0 p1
  have e : v / 10000000000000000000 ^ (k + 1) = v / 10000000000000000000 ^ k / 10000000000000000000 := by rw [Nat.pow_succ, Nat.div_div_eq_div_mul]
  refine ⟨((bel.setCell (p := ⟨g, 0, none⟩) (show w.heap.size ≤ g by omega) _).setCell (p := ⟨g, 1, none⟩) (show w.heap.size ≤ g by omega) _).setCell (p := ⟨w.heap.size + 1, k, none⟩) (show w.heap.size ≤ w.heap.size + 1 by omega) _, ?_, ?_, ?_, ?_, ?_, by simp only [World.frozen?_setCell]; exact f0, by simp only [World.frozen?_setCell]; exact f1, hg⟩
  · exact cell_set (cell_set (cell_set a0 (by omega)) (by omega)) (by omega)
  · exact cell_set (cell_set (cell_set a1 (by omega)) (by omega)) (by omega)
  · intro j hj
    refine ⟨?_, by simp only [World.frozen?_setCell]; exact (l j hj).2⟩
    have lj := cell_set (b' := g) (o' := 1) (u := .int .u64 (loW ((v / 10000000000000000000 ^ k / 10000000000000000000 : Nat) : Int))) (cell_set (b' := g) (o' := 0) (u := .int .u64 (upW ((v / 10000000000000000000 ^ k / 10000000000000000000 : Nat) : Int))) (l j hj).1 (by omega)) (by omega)
    by_cases ej : j = k
    · subst ej
      rw [World.cell?_setCell_same _ _ _ lj, if_pos (by omega)]
      rfl
    · rw [World.cell?_setCell_other _ _ _ _ (by simp only [ne_eq, Addr.mk.injEq, not_and]; intro _ h2; exact absurd h2.symm ej), lj]
      by_cases e3 : j < k
      · rw [if_pos e3, if_pos (by omega)]
      · rw [if_neg e3, if_neg (by omega)]
  · rw [e]; exact cell_set t.1 (by omega)
  · rw [e]; exact cell_set t.2 (by omega)
theorem TxAt.step {w wx wy : World} {g : Nat} {a : Int} {v k : Nat} (h : TxAt w g a v k wx) (hb : Below wx.heap.size wx wy) : TxAt w g a v k wy :=
  ⟨h.bel.trans (hb.mono h.bel.size), cell_be hb h.a0, cell_be hb h.a1, fun j hj => ⟨cell_be hb (h.l j hj).1, frozen_be hb (World.block_lt_of_cell? _ _ (h.l j hj).1) (h.l j hj).2⟩, cell_be hb h.p0, cell_be hb h.p1, frozen_be hb (World.block_lt_of_cell? _ _ h.p0) h.f0, frozen_be hb (World.block_lt_of_cell? _ _ h.p0) h.f1, h.hg⟩
theorem cell_newk3 {w : World} {cs : Array Value} {t : TypeId} {n k : Nat} {x : Value} (h : w.heap.size = n) (hx : cs[k]? = some x) : (w.alloc (.cells cs t)).cell? ⟨n, k, none⟩ = some x := by
  subst h
  rw [cell_of_row _ w.heap.size k cs t (0, 0) (heap_alloc_new w _)]; exact hx
theorem frozen_new3 {w : World} {cs : Array Value} {t : TypeId} {n : Nat} (h : w.heap.size = n) (k : Nat) : (w.alloc (.cells cs t)).frozen? ⟨n, k, none⟩ = false := by subst h; exact frozen_of_row _ _ _ _ _ (heap_alloc_new w _)
set_option maxRecDepth 100000 in
set_option maxHeartbeats 4000000 in
theorem text_any (a : Int) (w : World) (ha : fits a) :
    Calls Tryd.prog 5 #[.agg #[.int .i64 (hiW a), .int .u64 (loW a)]] w fun e w' => e = .returned (.string ⟨(textL a).toArray⟩) ∧ Below w.heap.size w w' := by
  obtain ⟨T, hT⟩ : ∃ T, T = (⟨(textL a).toArray⟩ : ByteArray) := ⟨_, rfl⟩
  rw [← hT]
  have HHT := Lib.hid hT; clear hT
  have HA := Lib.hid (fun w => amount_any a w ha)
  have ab := absI_bd a ha
  obtain ⟨v, hv⟩ : ∃ v : Nat, absI a = (v : Int) := ⟨(absI a).toNat, by omega⟩
  rw [hv] at HA ab
  have HP := Lib.hid (fun (n : Nat) (w : World) (h : n ≤ v) => parts_ten n w (by omega))
  go_enter Tryd.func5, Tryd.ntmps5
  go_wp2_with fail
  with_reducible refine (HA.out _).mono ?_
  rintro e w1 ⟨rfl, hb⟩
  have a0 := cell_be hb (cell_al (cell_new0 (n := w.heap.size) rfl))
  have a1 := cell_be hb (cell_al (cell_new1 (n := w.heap.size) rfl))
  have l0 : ∀ j, j < 3 → w1.cell? ⟨w.heap.size + 1, j, none⟩ = some (.int .u64 0) ∧ w1.frozen? ⟨w.heap.size + 1, j, none⟩ = false := fun j hj =>
    ⟨cell_be hb (cell_newk3 (by simp) (by rcases (show j = 0 ∨ j = 1 ∨ j = 2 by omega) with rfl | rfl | rfl <;> rfl)), frozen_be hb (by simp) (frozen_new3 (by simp) j)⟩
  have hB := (((Below.refl w.heap.size w).alloc (Nat.le_refl _) (.cells #[.int .i64 (hiW a), .int .u64 (loW a)] 24)).alloc (by simp) (.cells #[.int .u64 0, .int .u64 0, .int .u64 0] 40)).trans (hb.mono (by simp; omega))
  have s1 : w.heap.size + 1 < w1.heap.size := by have := hb.size; simp at this; omega
  have HS := Lib.hid (show TxAt w w1.heap.size a v 0 (w1.alloc (.cells #[.int .u64 (upW v), .int .u64 (loW v)] 41)) from
    ⟨hB.alloc hB.size _, cell_al a0, cell_al a1, fun j hj => ⟨by rw [if_neg (by omega)]; exact cell_al (l0 j hj).1, frozen_al s1 (l0 j hj).2⟩, by rw [Nat.pow_zero, Nat.div_one]; exact cell_new0 rfl, by rw [Nat.pow_zero, Nat.div_one]; exact cell_new1 rfl, frozen_new rfl 0, frozen_new rfl 1, s1⟩)
  clear hb l0 hB a0 a1
  go_wp2_with fail
  go_loopw [10] (TxRel w w1.heap.size a v) (fun i _ => 3 - (intOf i).toNat)
  case atStart => exact ⟨0, by omega, rfl, HS.out⟩
  case round =>
    clear HS
    obtain ⟨k, hk, rfl, HT⟩ := hrel
    by_cases hlt : k < 3
    · have p0 := HT.p0
      have p1 := HT.p1
      have f0 := HT.f0
      have f1 := HT.f1
      have l0 := (HT.l k hlt).1
      have l1 := (HT.l k hlt).2
      rw [if_neg (by omega)] at l0
      have i0 : (0 : Int) ≤ (k : Int) := Int.natCast_nonneg _
      have i1 : (k : Int) < 3 := by omega
      have HPP := Lib.hid (HP.out (v / 10000000000000000000 ^ k) wr (Nat.div_le_self _ _))
      have HTT := Lib.hid HT; clear HT
      obtain ⟨q, hq⟩ : ∃ q, q = v / 10000000000000000000 ^ k := ⟨_, rfl⟩
      have HQ := Lib.hid hq
      rw [← hq] at p0 p1 HPP
      clear hq
      go_wp2_with fail
      with_reducible refine HPP.out.mono ?_
      rintro e w2 ⟨rfl, hb⟩
      have HT2 := Lib.hid (HTT.out.step hb)
      replace p0 := cell_be hb p0
      replace p1 := cell_be hb p1
      replace l0 := cell_be hb l0
      replace f0 := HT2.out.f0
      replace f1 := HT2.out.f1
      replace l1 := (HT2.out.l k hlt).2
      clear hb HTT HPP
      go_wp2
      have HF := HT2.out.put hlt
      rw [← HQ.out] at HF
      refine ⟨⟨k + 1, by omega, by go_num, ?_⟩, by simp [intOf]; omega⟩
      rw [show ((q / 10000000000000000000 : Nat) : Int) = (q : Int) / 10000000000000000000 by omega, show ((q % 10000000000000000000 : Nat) : Int) = (q : Int) % 10000000000000000000 by omega] at HF
      exact HF
    · obtain rfl : k = 3 := by omega
      have a0 := HT.a0
      have a1 := HT.a1
      have d0 := (HT.l 0 (by omega)).1
      have d1 := (HT.l 1 (by omega)).1
      have d2 := (HT.l 2 (by omega)).1
      rw [if_pos (by omega)] at d0 d1 d2
      have hB := HT.bel
      clear HT
      have e3 := three_parts v (by omega)
      have E0 : part19 v 0 = v % 10 ^ 19 := by unfold part19; rw [Nat.pow_zero, Nat.div_one]
      have E1 : part19 v 1 = v / 10 ^ 19 % 10 ^ 19 := by unfold part19; rw [Nat.pow_one]
      have E2 : part19 v 2 = v / 10 ^ 19 / 10 ^ 19 := by
        unfold part19
        rw [Nat.pow_succ, Nat.pow_one, ← Nat.div_div_eq_div_mul]
        rw [show (10000000000000000000 : Nat) = 10 ^ 19 by decide]
        have : v / 10 ^ 19 / 10 ^ 19 < 10 := by rw [Nat.div_div_eq_div_mul]; exact Nat.div_lt_of_lt_mul (by omega)
        omega
      rw [← E0, ← E1, ← E2] at e3
      have B0 : part19 v 0 < 18446744073709551616 := by unfold part19; omega
      have B1 : part19 v 1 < 18446744073709551616 := by unfold part19; omega
      have B2 : part19 v 2 < 18446744073709551616 := by unfold part19; omega
      clear E0 E1 E2
      have H2 := Lib.hid (fun w => chunk_1 (part19 v 2) w B2)
      have H1 := Lib.hid (fun w => chunk_19 (part19 v 1) w B1)
      have H0 := Lib.hid (fun w => chunk_19 (part19 v 0) w B0)
      have L2 := lowD_length2 20 (part19 v 2) 1 (by omega) (by omega)
      have L1 := lowD_length2 20 (part19 v 1) 19 (by omega) (by omega)
      have L0 := lowD_length2 20 (part19 v 0) 19 (by omega) (by omega)
      have P2 : 0 < (lowD (part19 v 2) 1).length := by rw [lowD_cons (by omega)]; simp
      generalize part19 v 0 = c0 at *
      generalize part19 v 1 = c1 at *
      generalize part19 v 2 = c2 at *
      obtain ⟨s2, hs2⟩ : ∃ s : ByteArray, s = ⟨(lowD c2 1).reverse.toArray⟩ := ⟨_, rfl⟩
      obtain ⟨s1', hs1⟩ : ∃ s : ByteArray, s = ⟨(lowD c1 19).reverse.toArray⟩ := ⟨_, rfl⟩
      obtain ⟨s0, hs0⟩ : ∃ s : ByteArray, s = ⟨(lowD c0 19).reverse.toArray⟩ := ⟨_, rfl⟩
      have z2 : s2.size = (lowD c2 1).length := by rw [hs2]; simp [ByteArray.size]
      have z1 : s1'.size = (lowD c1 19).length := by rw [hs1]; simp [ByteArray.size]
      have z0 : s0.size = (lowD c0 19).length := by rw [hs0]; simp [ByteArray.size]
      have HT := Lib.hid (fun w => trimLeft_any (s2 ++ s1' ++ s0) ((lowD c2 1).reverse ++ (lowD c1 19).reverse ++ (lowD c0 19).reverse) w (by rw [hs2, hs1, hs0]; apply ByteArray.ext; simp) (by simp; omega))
      rw [e3] at HT
      rw [← hs2] at H2
      rw [← hs1] at H1
      rw [← hs0] at H0
      have n1 : s2.size + s1'.size ≤ 9223372036854775807 := by omega
      have n2 : s2.size + s1'.size + s0.size ≤ 9223372036854775807 := by omega
      have m1 : ¬ 9223372036854775807 < s2.size + s1'.size := by omega
      have m2 : ¬ 9223372036854775807 < s2.size + s1'.size + s0.size := by omega
      clear e3 z2 z1 z0 L2 L1 L0 P2 B0 B1 B2
      clear hs2 hs1 hs0
      go_wp2_with fail
      go_region_held3 (fun w' => w'.cell? ⟨w.heap.size + 1, 0, none⟩ = some (.int .u64 c0) ∧ w'.cell? ⟨w.heap.size + 1, 1, none⟩ = some (.int .u64 c1) ∧ w'.cell? ⟨w.heap.size + 1, 2, none⟩ = some (.int .u64 c2)) ((refine ⟨?_, ?_, ?_⟩ <;> (repeat (first | (with_reducible refine cell_dr ?_) | (with_reducible refine cell_be hb0 ?_) | (with_reducible refine cell_be hb1 ?_) | (with_reducible refine cell_be hb2 ?_))) <;> (with_reducible first | exact d0 | exact d1 | exact d2))) (first | (go_at_call 15; with_reducible refine (HT.out _).mono ?_; rintro e wt ⟨rfl, rfl⟩) | (go_at_call 16; first | (with_reducible refine (H2.out _).mono ?_; rintro e wo2 ⟨rfl, hb2⟩) | (with_reducible refine (H1.out _).mono ?_; rintro e wo1 ⟨rfl, hb1⟩) | (with_reducible refine (H0.out _).mono ?_; rintro e wo0 ⟨rfl, hb0⟩)))
      have hB3 := bel_step (bel_step (bel_step hB.drew (Nat.le_refl _) hb2) (Nat.le_refl _) hb1) (Nat.le_refl _) hb0
      replace a0 := cell_be hb0 (cell_be hb1 (cell_be hb2 (cell_dr a0)))
      replace a1 := cell_be hb0 (cell_be hb1 (cell_be hb2 (cell_dr a1)))
      clear hb2 hb1 hb0 hB d0 d1 d2 HT H2 H1 H0 HP HA
      have hneg := hiW_neg a ha
      by_cases hz : a = 0
      · obtain rfl : v = 0 := by rw [hz, absI_pos 0 (by decide)] at hv; omega
        have ht : textL a = [48] := by unfold textL; rw [if_pos hz]
        rw [digs_zero]
        have e0 : T = ⟨#[48]⟩ := by rw [HHT.out, ht]
        go_wp2_with fail
        go_ret
        exact ⟨by rw [e0]; rfl, hB3⟩
      · have hvz : v ≠ 0 := by unfold absI at hv; split at hv <;> omega
        obtain ⟨x, r, hd, hx⟩ := digs_head hvz
        have hemp : (⟨(digs v).toArray⟩ : ByteArray).toList.isEmpty = false := by rw [Lib.toList_data, hd]; rfl
        obtain ⟨t, ht⟩ : ∃ t : ByteArray, t = ⟨(digs v).toArray⟩ := ⟨_, rfl⟩
        have hts : t.size ≤ 40 := by rw [ht]; have := lowD_length 39 v (by omega); simp [ByteArray.size, digs]; omega
        rw [← ht] at hemp ⊢
        have hna : a.natAbs = v := by unfold absI at hv; split at hv <;> omega
        by_cases hn : a < 0
        · have hneg' : hiW a < 0 := hneg.2 hn
          have hte : textL a = 45 :: digs v := by unfold textL; rw [if_neg hz, if_pos hn, hna]
          have e0 : T = ⟨#[45]⟩ ++ t := by rw [HHT.out, hte, ht]; apply ByteArray.ext; simp
          have n3 : ¬ 9223372036854775807 < 1 + t.size := by omega
          have HE := Lib.hid e0
          clear ht hd hx hte e0 hts hvz hna
          go_wp2_with fail
          with_reducible refine (below_yes _ _ _ hneg').mono ?_
          rintro e w' ⟨rfl, rfl⟩
          go_wp2
          go_ret
          exact ⟨by rw [HE.out]; rfl, hB3.alloc hB3.size _⟩
        · have hneg' : ¬ hiW a < 0 := fun h => hn (hneg.1 h)
          have hte : textL a = digs v := by unfold textL; rw [if_neg hz, if_neg hn, hna]
          have e0 : T = t := by rw [HHT.out, hte, ht]
          have HE := Lib.hid e0
          clear ht hd hx hte e0 hts hvz hna
          go_wp2_with fail
          with_reducible refine (below_no _ _ _ (Int.not_lt.2 hneg')).mono ?_
          rintro e w' ⟨rfl, rfl⟩
          go_wp2
          go_ret
          exact ⟨by rw [HE.out]; rfl, hB3.alloc hB3.size _⟩
end Go.Proofs.YtohgpllonbplfaaDoor

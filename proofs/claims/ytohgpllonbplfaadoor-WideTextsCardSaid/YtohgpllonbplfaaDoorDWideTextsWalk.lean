/- The walk of WideTexts: it returns true for any two numbers. -/
import Derived.Test.YtohgpllonbplfaaDoorDText
import Derived.Test.YtohgpllonbplfaaDoorDInt
namespace Go.Proofs.YtohgpllonbplfaaDoor
open Go Go.RowKit
set_option linter.unusedVariables false

theorem text_five (w : World) : Calls Tryd.prog 5 #[.agg #[.int .i64 (hiW (-5)), .int .u64 (loW (-5))]] w fun e w' => e = .returned (.string ⟨#[45, 53]⟩) ∧ Below w.heap.size w w' := by
  have h := text_any (-5) w (by decide)
  rw [textL_five] at h
  exact h
/-- two numbers that lie in blocks -/
structure TwoAt (w : World) (a b : Int) (wx : World) : Prop where
  bel : Below w.heap.size w wx
  a0 : wx.cell? ⟨w.heap.size, 0, none⟩ = some (.int .i64 (hiW a))
  a1 : wx.cell? ⟨w.heap.size, 1, none⟩ = some (.int .u64 (loW a))
  b0 : wx.cell? ⟨w.heap.size + 1, 0, none⟩ = some (.int .i64 (hiW b))
  b1 : wx.cell? ⟨w.heap.size + 1, 1, none⟩ = some (.int .u64 (loW b))
theorem TwoAt.step {w wx wy : World} {a b : Int} (h : TwoAt w a b wx) (hb : Below wx.heap.size wx wy) : TwoAt w a b wy :=
  ⟨h.bel.trans (hb.mono h.bel.size), cell_be hb h.a0, cell_be hb h.a1, cell_be hb h.b0, cell_be hb h.b1⟩
set_option maxRecDepth 100000 in
set_option maxHeartbeats 4000000 in
theorem wideTexts_walk (w : World) (a b : Int) (ha : fits a) (hb : fits b) :
    Calls Tryd.prog 3 #[.agg #[.int .i64 (hiW a), .int .u64 (loW a)], .agg #[.int .i64 (hiW b), .int .u64 (loW b)]] w fun e w' => e = .returned (.bool true) ∧ Below w.heap.size w w' := by
  obtain ⟨s, hs⟩ : ∃ s : ByteArray, s = ⟨(textL a).toArray⟩ := ⟨_, rfl⟩
  obtain ⟨t, ht⟩ : ∃ t : ByteArray, t = ⟨(textL b).toArray⟩ := ⟨_, rfl⟩
  have HA := Lib.hid (fun w => text_any a w ha)
  have HB := Lib.hid (fun w => text_any b w hb)
  rw [← hs] at HA
  rw [← ht] at HB
  have HS := Lib.hid hs; have HTT := Lib.hid ht; clear hs ht
  have HO := Lib.hid (fun w => of_any (-5) w (by decide) (by decide))
  have H5 := Lib.hid text_five
  obtain ⟨W0, hW0⟩ : ∃ W0, W0 = (w.alloc (.cells #[.int .i64 (hiW a), .int .u64 (loW a)] 24)).alloc (.cells #[.int .i64 (hiW b), .int .u64 (loW b)] 24) := ⟨_, rfl⟩
  have HT : TwoAt w a b W0 := by
    rw [hW0]
    exact ⟨((Below.refl _ _).alloc (Nat.le_refl _) _).alloc (by simp) _, cell_al (cell_new0 rfl), cell_al (cell_new1 rfl), cell_new0 (by simp), cell_new1 (by simp)⟩
  have HW := Lib.hid hW0; clear hW0
  obtain ⟨hB, a0, a1, b0, b1⟩ := HT
  go_enter Tryd.func3, Tryd.ntmps3
  go_wp2_with fail
  rw [← HW.out]
  clear HW
  go_region_held3 (fun w' => w'.cell? ⟨w.heap.size, 0, none⟩ = some (.int .i64 (hiW a)) ∧ w'.cell? ⟨w.heap.size, 1, none⟩ = some (.int .u64 (loW a)) ∧ w'.cell? ⟨w.heap.size + 1, 0, none⟩ = some (.int .i64 (hiW b)) ∧ w'.cell? ⟨w.heap.size + 1, 1, none⟩ = some (.int .u64 (loW b))) ((refine ⟨?_, ?_, ?_, ?_⟩ <;> (repeat (first | (with_reducible refine cell_dr ?_) | (with_reducible refine cell_be hb1 ?_) | (with_reducible refine cell_be hb2 ?_))) <;> (with_reducible first | exact a0 | exact a1 | exact b0 | exact b1))) (first | (go_at_call 5; first | (with_reducible refine (HA.out _).mono ?_; rintro e w1 ⟨rfl, hb1⟩) | (with_reducible refine (HB.out _).mono ?_; rintro e w2 ⟨rfl, hb2⟩)))
  replace a0 := cell_be hb2 (cell_be hb1 (cell_dr a0))
  replace a1 := cell_be hb2 (cell_be hb1 (cell_dr a1))
  replace b0 := cell_be hb2 (cell_be hb1 (cell_dr b0))
  replace b1 := cell_be hb2 (cell_be hb1 (cell_dr b1))
  replace hB := bel_step (bel_step hB.drew (Nat.le_refl _) hb1) (Nat.le_refl _) hb2
  clear hb1 hb2 HA HB
  obtain ⟨l1, l2⟩ := textL_len a (by unfold fits at ha; omega)
  obtain ⟨x, r, hx, hxn⟩ := textL_head a
  have hneg := hiW_neg a ha
  have hs := HS.out
  have ht := HTT.out
  have hsz : s.size = (textL a).length := by rw [hs]; simp [ByteArray.size]
  rw [← hsz] at l1 l2
  have l3 : (s.size : Int) ≤ 40 := by omega
  have hx0 : ∀ h, s[0]'h = x := by
    intro h
    have : s = ⟨(x :: r).toArray⟩ := by rw [hs, hx]
    subst this
    rfl
  clear hsz hx
  have hinj : s = t → a = b := by
    intro h
    rw [hs, ht] at h
    injection h with h
    exact textL_inj (by simpa using h)
  by_cases hn : a < 0
  · have hn' : hiW a < 0 := hneg.2 hn
    have dn : decide (hiW a < 0) = true := by simpa using hn'
    obtain rfl : x = 45 := hxn.2 hn
    clear hxn hneg hn
    by_cases hab : a = b
    · subst hab
      obtain rfl : t = s := by rw [hs, ht]
      clear hs ht HS HTT hinj hb
      go_wp2_with fail
      go_region_held3 (fun w' => w'.cell? ⟨w.heap.size, 0, none⟩ = some (.int .i64 (hiW a)) ∧ w'.cell? ⟨w.heap.size, 1, none⟩ = some (.int .u64 (loW a)) ∧ w'.cell? ⟨w.heap.size + 1, 0, none⟩ = some (.int .i64 (hiW a)) ∧ w'.cell? ⟨w.heap.size + 1, 1, none⟩ = some (.int .u64 (loW a))) ((refine ⟨?_, ?_, ?_, ?_⟩ <;> (repeat (first | (with_reducible refine cell_dr ?_) | (with_reducible refine cell_be hb4 ?_) | (with_reducible refine cell_be hb3 ?_))) <;> (with_reducible first | exact a0 | exact a1 | exact b0 | exact b1))) (first | (go_at_call 6; with_reducible refine (HO.out _).mono ?_; rintro e w3 ⟨rfl, hb3⟩) | (go_at_call 5; with_reducible refine (H5.out _).mono ?_; rintro e w4 ⟨rfl, hb4⟩))
      go_wp2
      go_ret
      exact ⟨rfl, bel_step (bel_step hB.drew (Nat.le_refl _) hb3) (Nat.le_refl _) hb4⟩
    · have hst : (s.toList == t.toList) = false := by
        rw [beq_eq_false_iff_ne, Lib.toList_data, Lib.toList_data]
        intro h
        exact hab (hinj (by rw [← Lib.mk_data s, h, Lib.mk_data t]))
      have hd : ¬ (hiW a = hiW b ∧ loW a = loW b) := fun h => hab (parts_inj a b ha hb h.1 h.2)
      clear hs ht HS HTT hinj ha hb hab
      generalize hiW a = p at *
      generalize loW a = l at *
      generalize hiW b = q at *
      generalize loW b = m at *
      by_cases hpq : p = q
      · subst hpq
        have hlm : ¬ l = m := fun h => hd ⟨rfl, h⟩
        clear hd
        go_wp2_with fail
        go_region_held3 (fun w' => w'.cell? ⟨w.heap.size, 0, none⟩ = some (.int .i64 p) ∧ w'.cell? ⟨w.heap.size, 1, none⟩ = some (.int .u64 l) ∧ w'.cell? ⟨w.heap.size + 1, 0, none⟩ = some (.int .i64 p) ∧ w'.cell? ⟨w.heap.size + 1, 1, none⟩ = some (.int .u64 m)) ((refine ⟨?_, ?_, ?_, ?_⟩ <;> (repeat (first | (with_reducible refine cell_dr ?_) | (with_reducible refine cell_be hb4 ?_) | (with_reducible refine cell_be hb3 ?_))) <;> (with_reducible first | exact a0 | exact a1 | exact b0 | exact b1))) (first | (go_at_call 6; with_reducible refine (HO.out _).mono ?_; rintro e w3 ⟨rfl, hb3⟩) | (go_at_call 5; with_reducible refine (H5.out _).mono ?_; rintro e w4 ⟨rfl, hb4⟩))
        go_wp2
        go_ret
        exact ⟨rfl, bel_step (bel_step hB.drew (Nat.le_refl _) hb3) (Nat.le_refl _) hb4⟩
      · clear hd
        go_wp2_with fail
        go_region_held3 (fun w' => w'.cell? ⟨w.heap.size, 0, none⟩ = some (.int .i64 p) ∧ w'.cell? ⟨w.heap.size, 1, none⟩ = some (.int .u64 l) ∧ w'.cell? ⟨w.heap.size + 1, 0, none⟩ = some (.int .i64 q) ∧ w'.cell? ⟨w.heap.size + 1, 1, none⟩ = some (.int .u64 m)) ((refine ⟨?_, ?_, ?_, ?_⟩ <;> (repeat (first | (with_reducible refine cell_dr ?_) | (with_reducible refine cell_be hb4 ?_) | (with_reducible refine cell_be hb3 ?_))) <;> (with_reducible first | exact a0 | exact a1 | exact b0 | exact b1))) (first | (go_at_call 6; with_reducible refine (HO.out _).mono ?_; rintro e w3 ⟨rfl, hb3⟩) | (go_at_call 5; with_reducible refine (H5.out _).mono ?_; rintro e w4 ⟨rfl, hb4⟩))
        go_wp2
        go_ret
        exact ⟨rfl, bel_step (bel_step hB.drew (Nat.le_refl _) hb3) (Nat.le_refl _) hb4⟩
  · have hn' : ¬ hiW a < 0 := fun h => hn (hneg.1 h)
    have dn : decide (hiW a < 0) = false := by simpa using hn'
    have hx45 : ((x.toNat : Int) == 45) = false := by
      rw [beq_eq_false_iff_ne]
      intro h
      exact hn (hxn.1 (UInt8.toNat_inj.1 (by exact_mod_cast h)))
    clear hxn hneg hn
    by_cases hab : a = b
    · subst hab
      obtain rfl : t = s := by rw [hs, ht]
      clear hs ht HS HTT hinj hb
      go_wp2_with fail
      go_region_held3 (fun w' => w'.cell? ⟨w.heap.size, 0, none⟩ = some (.int .i64 (hiW a)) ∧ w'.cell? ⟨w.heap.size, 1, none⟩ = some (.int .u64 (loW a)) ∧ w'.cell? ⟨w.heap.size + 1, 0, none⟩ = some (.int .i64 (hiW a)) ∧ w'.cell? ⟨w.heap.size + 1, 1, none⟩ = some (.int .u64 (loW a))) ((refine ⟨?_, ?_, ?_, ?_⟩ <;> (repeat (first | (with_reducible refine cell_dr ?_) | (with_reducible refine cell_be hb4 ?_) | (with_reducible refine cell_be hb3 ?_))) <;> (with_reducible first | exact a0 | exact a1 | exact b0 | exact b1))) (first | (go_at_call 6; with_reducible refine (HO.out _).mono ?_; rintro e w3 ⟨rfl, hb3⟩) | (go_at_call 5; with_reducible refine (H5.out _).mono ?_; rintro e w4 ⟨rfl, hb4⟩))
      go_wp2
      go_ret
      exact ⟨rfl, bel_step (bel_step hB.drew (Nat.le_refl _) hb3) (Nat.le_refl _) hb4⟩
    · have hst : (s.toList == t.toList) = false := by
        rw [beq_eq_false_iff_ne, Lib.toList_data, Lib.toList_data]
        intro h
        exact hab (hinj (by rw [← Lib.mk_data s, h, Lib.mk_data t]))
      have hd : ¬ (hiW a = hiW b ∧ loW a = loW b) := fun h => hab (parts_inj a b ha hb h.1 h.2)
      clear hs ht HS HTT hinj ha hb hab
      generalize hiW a = p at *
      generalize loW a = l at *
      generalize hiW b = q at *
      generalize loW b = m at *
      by_cases hpq : p = q
      · subst hpq
        have hlm : ¬ l = m := fun h => hd ⟨rfl, h⟩
        clear hd
        go_wp2_with fail
        go_region_held3 (fun w' => w'.cell? ⟨w.heap.size, 0, none⟩ = some (.int .i64 p) ∧ w'.cell? ⟨w.heap.size, 1, none⟩ = some (.int .u64 l) ∧ w'.cell? ⟨w.heap.size + 1, 0, none⟩ = some (.int .i64 p) ∧ w'.cell? ⟨w.heap.size + 1, 1, none⟩ = some (.int .u64 m)) ((refine ⟨?_, ?_, ?_, ?_⟩ <;> (repeat (first | (with_reducible refine cell_dr ?_) | (with_reducible refine cell_be hb4 ?_) | (with_reducible refine cell_be hb3 ?_))) <;> (with_reducible first | exact a0 | exact a1 | exact b0 | exact b1))) (first | (go_at_call 6; with_reducible refine (HO.out _).mono ?_; rintro e w3 ⟨rfl, hb3⟩) | (go_at_call 5; with_reducible refine (H5.out _).mono ?_; rintro e w4 ⟨rfl, hb4⟩))
        go_wp2
        go_ret
        exact ⟨rfl, bel_step (bel_step hB.drew (Nat.le_refl _) hb3) (Nat.le_refl _) hb4⟩
      · clear hd
        go_wp2_with fail
        go_region_held3 (fun w' => w'.cell? ⟨w.heap.size, 0, none⟩ = some (.int .i64 p) ∧ w'.cell? ⟨w.heap.size, 1, none⟩ = some (.int .u64 l) ∧ w'.cell? ⟨w.heap.size + 1, 0, none⟩ = some (.int .i64 q) ∧ w'.cell? ⟨w.heap.size + 1, 1, none⟩ = some (.int .u64 m)) ((refine ⟨?_, ?_, ?_, ?_⟩ <;> (repeat (first | (with_reducible refine cell_dr ?_) | (with_reducible refine cell_be hb4 ?_) | (with_reducible refine cell_be hb3 ?_))) <;> (with_reducible first | exact a0 | exact a1 | exact b0 | exact b1))) (first | (go_at_call 6; with_reducible refine (HO.out _).mono ?_; rintro e w3 ⟨rfl, hb3⟩) | (go_at_call 5; with_reducible refine (H5.out _).mono ?_; rintro e w4 ⟨rfl, hb4⟩))
        go_wp2
        go_ret
        exact ⟨rfl, bel_step (bel_step hB.drew (Nat.le_refl _) hb3) (Nat.le_refl _) hb4⟩
theorem wideTexts_parts (w : World) (b00 b01 : Int) (h0 : -9223372036854775808 ≤ b00 ∧ b00 ≤ 9223372036854775807) (l0 : 0 ≤ b01 ∧ b01 ≤ 18446744073709551615) (b10 b11 : Int) (h1 : -9223372036854775808 ≤ b10 ∧ b10 ≤ 9223372036854775807) (l1 : 0 ≤ b11 ∧ b11 ≤ 18446744073709551615) :
    Calls Tryd.prog 3 #[.agg #[.int .i64 b00, .int .u64 b01], .agg #[.int .i64 b10, .int .u64 b11]] w fun e w' => e = .returned (.bool true) ∧ Below w.heap.size w w' := by
  obtain ⟨e0, e1, f0⟩ := parts_of b00 b01 h0.1 h0.2 l0.1 l0.2
  obtain ⟨e2, e3, f1⟩ := parts_of b10 b11 h1.1 h1.2 l1.1 l1.2
  have h := wideTexts_walk w _ _ f0 f1
  rw [e0, e1, e2, e3] at h
  exact h
end Go.Proofs.YtohgpllonbplfaaDoor

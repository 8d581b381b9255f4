/- The walk of WindowTells: it returns true for every kind of windows, span and bucket. -/
import Derived.Test.YtjbdnomnjdpckaaWindowRefOf
namespace Go.Proofs.Ytjbdnomnjdpckaa
open Go.RowKit
set_option linter.unusedVariables false

theorem wins_1057 : wins (firstW 10 5 0 7) 5 10 (countW (firstW 10 5 0 7) 5 7) = [(0, 10), (5, 15)] := by decide
theorem of_1057 (w : World) : Calls Try.prog 12 #[.agg #[.int .i64 10, .int .i64 5, .int .i64 0], .int .i64 7] w
    fun e w' => ∃ A c, e = .returned (.tuple #[.slice A 2 c, .int .i64 0]) ∧ Below w.heap.size w w' := by
  refine (of_pairs 10 5 0 7 w (by unfold valid; decide) (by decide)).mono fun e w' h => ?_
  rw [wins_1057] at h
  obtain ⟨A, c, he, hp, hb⟩ := h
  exact ⟨A, c, he, hb⟩
/-- the three boxes -/
def KSB (w : World) (W S O f t d o : Int) : World := (KS w W S O f t).alloc (.cells #[.int .i64 d, .int .i64 o] 41)
theorem ksb_size (w : World) (W S O f t d o : Int) : (KSB w W S O f t d o).heap.size = w.heap.size + 3 := by simp [KSB, ks_size]
theorem ksb_below (w : World) (W S O f t d o : Int) : Below w.heap.size w (KSB w W S O f t d o) := (ks_below w W S O f t).alloc (by rw [ks_size]; omega) _
theorem ksb_cells {w w' : World} {W S O f t d o : Int} (hb : Below (w.heap.size + 3) (KSB w W S O f t d o) w') :
    w'.cell? ⟨w.heap.size, 0, none⟩ = some (.int .i64 W) ∧ w'.cell? ⟨w.heap.size, 1, none⟩ = some (.int .i64 S) ∧ w'.cell? ⟨w.heap.size, 2, none⟩ = some (.int .i64 O) ∧
      w'.cell? ⟨w.heap.size + 1, 0, none⟩ = some (.int .i64 f) ∧ w'.cell? ⟨w.heap.size + 1, 1, none⟩ = some (.int .i64 t) ∧ w'.cell? ⟨w.heap.size + 2, 0, none⟩ = some (.int .i64 d) ∧ w'.cell? ⟨w.heap.size + 2, 1, none⟩ = some (.int .i64 o) := by
  obtain ⟨h0, h1, h2, h3, h4⟩ := ks_cells (Below.refl (w.heap.size + 2) (KS w W S O f t))
  have lt : ∀ p : Addr, p.block < w.heap.size + 2 → (KSB w W S O f t d o).cell? p = (KS w W S O f t).cell? p := fun p hp => World.cell?_alloc_lt _ _ p (by rw [ks_size]; exact hp)
  have e := ks_size w W S O f t
  refine ⟨?_, ?_, ?_, ?_, ?_, ?_, ?_⟩
  · rw [hb.cell (p := ⟨w.heap.size, 0, none⟩) (by simp), lt _ (by simp), h0]
  · rw [hb.cell (p := ⟨w.heap.size, 1, none⟩) (by simp), lt _ (by simp), h1]
  · rw [hb.cell (p := ⟨w.heap.size, 2, none⟩) (by simp), lt _ (by simp), h2]
  · rw [hb.cell (p := ⟨w.heap.size + 1, 0, none⟩) (by simp), lt _ (by simp), h3]
  · rw [hb.cell (p := ⟨w.heap.size + 1, 1, none⟩) (by simp), lt _ (by simp), h4]
  · rw [hb.cell (p := ⟨w.heap.size + 2, 0, none⟩) (by simp), ← e]; simp [KSB]
  · rw [hb.cell (p := ⟨w.heap.size + 2, 1, none⟩) (by simp), ← e]; simp [KSB]
/-- what stays through the last statement -/
structure TellsInv (w0 : World) (B : Nat) (A1 A2 A3 A4 : Option Addr) (L1 L2 : List (Int × Int)) (w' : World) : Prop where
  bel : Below B w0 w'
  size : B ≤ w0.heap.size
  p1 : Pairs w' A1 L1
  p2 : Pairs w' A2 L1
  p3 : Pairs w' A3 L2
  p4 : Pairs w' A4 L2
theorem TellsInv.step {w0 : World} {B : Nat} {A1 A2 A3 A4 : Option Addr} {L1 L2 : List (Int × Int)} {w w' : World} (h : TellsInv w0 B A1 A2 A3 A4 L1 L2 w) (hb : Below w.heap.size w w') : TellsInv w0 B A1 A2 A3 A4 L1 L2 w' :=
  ⟨bel_step h.bel h.size hb, h.size, h.p1.below hb, h.p2.below hb, h.p3.below hb, h.p4.below hb⟩
theorem TellsInv.drew {w0 : World} {B : Nat} {A1 A2 A3 A4 : Option Addr} {L1 L2 : List (Int × Int)} {w : World} (h : TellsInv w0 B A1 A2 A3 A4 L1 L2 w) : TellsInv w0 B A1 A2 A3 A4 L1 L2 w.drew := ⟨h.bel.drew, h.size, h.p1, h.p2, h.p3, h.p4⟩
def RefPairsPost (w : World) (L : List (Int × Int)) (k : Int) (e : Ending) (w' : World) : Prop :=
  ∃ A c, e = .returned (.tuple #[.slice A L.length c, .int .i64 k]) ∧ Pairs w' A L ∧ Below w.heap.size w w'
theorem tells_keep {w w1 w2 : World} {W S O f t d o : Int} {A1 A2 A3 A4 : Option Addr} {L1 L2 : List (Int × Int)} (h : TellsInv (KSB w W S O f t d o) (w.heap.size + 3) A1 A2 A3 A4 L1 L2 w1) (hb : Below w1.heap.size w1 w2) :
    w2.cell? ⟨w.heap.size, 0, none⟩ = some (.int .i64 W) ∧ w2.cell? ⟨w.heap.size, 1, none⟩ = some (.int .i64 S) ∧ w2.cell? ⟨w.heap.size, 2, none⟩ = some (.int .i64 O) ∧ w2.cell? ⟨w.heap.size + 2, 0, none⟩ = some (.int .i64 d) ∧ w2.cell? ⟨w.heap.size + 2, 1, none⟩ = some (.int .i64 o) ∧
      TellsInv (KSB w W S O f t d o) (w.heap.size + 3) A1 A2 A3 A4 L1 L2 w2 := by
  have h2 := h.step hb
  obtain ⟨c0, c1, c2, _, _, c5, c6⟩ := ksb_cells h2.bel
  exact ⟨c0, c1, c2, c5, c6, h2⟩

set_option maxRecDepth 100000 in
set_option maxHeartbeats 8000000 in
theorem tells_core (w : World) (W S O f t d o : Int) (L1 L2 : List (Int × Int)) (k1 k2 : Int) (b1 b2 : Bool) (hL1 : L1.length ≤ 1000000) (hL2 : L2.length ≤ 1000000)
    (c1 : ∀ w : World, Calls Try.prog 12 #[.agg #[.int .i64 W, .int .i64 S, .int .i64 O], .int .i64 f] w (PairsPost w L1 k1))
    (c2 : ∀ w : World, Calls Try.prog 16 #[.int .i64 W, .int .i64 S, .int .i64 O, .int .i64 f] w (RefPairsPost w L1 k1))
    (c3 : ∀ w : World, Calls Try.prog 15 #[.agg #[.int .i64 W, .int .i64 S, .int .i64 O], .agg #[.int .i64 f, .int .i64 t]] w (PairsPost w L2 k2))
    (c4 : ∀ w : World, Calls Try.prog 17 #[.int .i64 W, .int .i64 S, .int .i64 O, .agg #[.int .i64 f, .int .i64 t]] w (RefPairsPost w L2 k2))
    (c5 : ∀ w : World, Calls Try.prog 13 #[.agg #[.int .i64 W, .int .i64 S, .int .i64 O]] w fun e w' => e = .returned (.bool b1) ∧ Below w.heap.size w w')
    (c6 : ∀ w : World, Calls Try.prog 18 #[.int .i64 W, .int .i64 S, .int .i64 O] w fun e w' => e = .returned (.bool b1) ∧ w = w')
    (c7 : ∀ w : World, Calls Try.prog 14 #[.agg #[.int .i64 W, .int .i64 S, .int .i64 O], .int .i64 d, .int .i64 o] w fun e w' => e = .returned (.bool b2) ∧ Below w.heap.size w w')
    (c8 : ∀ w : World, Calls Try.prog 19 #[.int .i64 W, .int .i64 S, .int .i64 O, .int .i64 d, .int .i64 o] w fun e w' => e = .returned (.bool b2) ∧ w = w') :
    Calls Try.prog 8 #[.agg #[.int .i64 W, .int .i64 S, .int .i64 O], .agg #[.int .i64 f, .int .i64 t], .agg #[.int .i64 d, .int .i64 o]] w fun e w' => e = .returned (.bool true) ∧ Below w.heap.size w w' := by
  have C1 := Lib.hid c1; have C2 := Lib.hid c2; have C3 := Lib.hid c3; have C4 := Lib.hid c4; have C5 := Lib.hid c5; have C6 := Lib.hid c6; have C7 := Lib.hid c7; have C8 := Lib.hid c8
  clear c1 c2 c3 c4 c5 c6 c7 c8
  have hszk := Nat.le_of_eq (ksb_size w W S O f t d o).symm
  go_enter Try.func8, Try.ntmps8
  go_wp2_with fail
  with_reducible refine (C1.out _).mono ?_
  rintro e w1 ⟨A1, a1, rfl, hp1, hb1⟩
  have hb1' : Below (w.heap.size + 3) (KSB w W S O f t d o) w1 := by simpa [KSB, KS] using hb1
  clear hb1
  obtain ⟨k0, kk1, kk2, kk3, kk4, kk5, kk6⟩ := ksb_cells hb1'
  go_wp2_with fail
  with_reducible refine (C2.out _).mono ?_
  rintro e w2 ⟨A2, a2, rfl, hp2, hb2⟩
  have hp12 := hp1.below hb2
  have hb2' := bel_step hb1' hszk hb2
  clear hp1 hb2 hb1' k0 kk1 kk2 kk3 kk4 kk5 kk6
  obtain ⟨k0, kk1, kk2, kk3, kk4, kk5, kk6⟩ := ksb_cells hb2'
  go_wp2_with fail
  with_reducible refine (C3.out _).mono ?_
  rintro e w3 ⟨A3, a3, rfl, hp3, hb3⟩
  have hp13 := hp12.below hb3
  have hp23 := hp2.below hb3
  have hb3' := bel_step hb2' hszk hb3
  clear hp12 hp2 hb3 hb2' k0 kk1 kk2 kk3 kk4 kk5 kk6
  obtain ⟨k0, kk1, kk2, kk3, kk4, kk5, kk6⟩ := ksb_cells hb3'
  go_wp2_with fail
  with_reducible refine (C4.out _).mono ?_
  rintro e w4 ⟨A4, a4, rfl, hp4, hb4⟩
  have hp14 := hp13.below hb4
  have hp24 := hp23.below hb4
  have hp34 := hp3.below hb4
  have hb4' := bel_step hb3' hszk hb4
  clear hp13 hp23 hp3 hb4 hb3' k0 kk1 kk2 kk3 kk4 kk5 kk6
  go_wp2_with fail
  with_reducible refine (of_1057 _).mono ?_
  rintro e w5 ⟨A5, a5, rfl, hb5⟩
  have hinv : TellsInv (KSB w W S O f t d o) (w.heap.size + 3) A1 A2 A3 A4 L1 L2 w5 := ⟨bel_step hb4' hszk hb5, hszk, hp14.below hb5, hp24.below hb5, hp34.below hb5, hp4.below hb5⟩
  clear hp14 hp24 hp34 hp4 hb5 hb4'
  obtain ⟨k0, kk1, kk2, kk3, kk4, kk5, kk6⟩ := ksb_cells hinv.bel
  have e1 : (b1 == b1) = true := by simp
  have e2 : (b2 == b2) = true := by simp
  go_wp2_with fail
  go_region_held3 (fun w' => w'.cell? ⟨w.heap.size, 0, none⟩ = some (.int .i64 W) ∧ w'.cell? ⟨w.heap.size, 1, none⟩ = some (.int .i64 S) ∧ w'.cell? ⟨w.heap.size, 2, none⟩ = some (.int .i64 O) ∧ w'.cell? ⟨w.heap.size + 2, 0, none⟩ = some (.int .i64 d) ∧ w'.cell? ⟨w.heap.size + 2, 1, none⟩ = some (.int .i64 o) ∧ TellsInv (KSB w W S O f t d o) (w.heap.size + 3) A1 A2 A3 A4 L1 L2 w')
    (first
      | exact ⟨k0, kk1, kk2, kk5, kk6, hinv.drew⟩
      | go_keep
      | (go_split_ands; exact tells_keep (by assumption) (by assumption)))
    (first
      | (go_at_call 13; (with_reducible refine (C5.out _).mono ?_); rintro e wv ⟨rfl, hbv⟩)
      | (go_at_call 18; (with_reducible refine (C6.out _).mono ?_); rintro e wv ⟨rfl, rfl⟩)
      | (go_at_call 14; (with_reducible refine (C7.out _).mono ?_); rintro e wv ⟨rfl, hbf⟩)
      | (go_at_call 19; (with_reducible refine (C8.out _).mono ?_); rintro e wv ⟨rfl, rfl⟩)
      | (go_at_call 11; go_split_ands; (with_reducible refine (spans_own A1 _ A2 _ L1 _ (TellsInv.p1 (by assumption)) (TellsInv.p2 (by assumption)) hL1).mono ?_); rintro e ws ⟨rfl, hbs1⟩)
      | (go_at_call 11; go_split_ands; (with_reducible refine (spans_own A3 _ A4 _ L2 _ (TellsInv.p3 (by assumption)) (TellsInv.p4 (by assumption)) hL2).mono ?_); rintro e ws ⟨rfl, hbs2⟩))
  go_wp2
  go_ret
  refine ⟨by first | rfl | simp, ?_⟩
  go_split_ands
  exact (ksb_below w W S O f t d o).trans ((TellsInv.bel (by assumption)).mono (by omega))
theorem RefWinsPost.pairs {w w' : World} {L : List (Int × Int)} {k : Int} {e : Ending} (h : RefWinsPost w L k e w') : RefPairsPost w L k e w' := by
  obtain ⟨A, c, he, ho, hb⟩ := h
  exact ⟨A, c, he, Pairs.of_own ho, hb⟩
theorem windowTells_walk (w : World) (W : Int) (hW : -9223372036854775808 ≤ W ∧ W ≤ 9223372036854775807) (S : Int) (hS : -9223372036854775808 ≤ S ∧ S ≤ 9223372036854775807) (O : Int) (hO : -9223372036854775808 ≤ O ∧ O ≤ 9223372036854775807)
    (f : Int) (hf : -9223372036854775808 ≤ f ∧ f ≤ 9223372036854775807) (t : Int) (ht : -9223372036854775808 ≤ t ∧ t ≤ 9223372036854775807) (d : Int) (hd : -9223372036854775808 ≤ d ∧ d ≤ 9223372036854775807) (o : Int) (ho : -9223372036854775808 ≤ o ∧ o ≤ 9223372036854775807) :
    Calls Try.prog 8 #[.agg #[.int .i64 W, .int .i64 S, .int .i64 O], .agg #[.int .i64 f, .int .i64 t], .agg #[.int .i64 d, .int .i64 o]] w fun e w' => e = .returned (.bool true) ∧ Below w.heap.size w w' := by
  have h1 : ∃ (L : List (Int × Int)) (k : Int), L.length ≤ 1000000 ∧ (∀ w : World, Calls Try.prog 12 #[.agg #[.int .i64 W, .int .i64 S, .int .i64 O], .int .i64 f] w (PairsPost w L k)) ∧
      ∀ w : World, Calls Try.prog 16 #[.int .i64 W, .int .i64 S, .int .i64 O, .int .i64 f] w (RefPairsPost w L k) := by
    by_cases h : valid W S O ∧ isTime f
    · obtain ⟨_, f2, _⟩ := has_facts (t := f) h.1 _ rfl
      exact ⟨_, 0, by rw [wins_length]; omega, fun w => of_pairs W S O f w h.1 h.2, fun w => (refOf_yes W S O f w h.1 h.2).mono fun _ _ h => h.pairs⟩
    · exact ⟨[], 2, by simp, fun w => (of_no W S O f w h).mono fun _ _ h => h.pairs, fun w => (refOf_no W S O f w h hW hS hO).mono fun _ _ h => h.pairs⟩
  have h2 : ∃ (L : List (Int × Int)) (k : Int), L.length ≤ 1000000 ∧ (∀ w : World, Calls Try.prog 15 #[.agg #[.int .i64 W, .int .i64 S, .int .i64 O], .agg #[.int .i64 f, .int .i64 t]] w (PairsPost w L k)) ∧
      ∀ w : World, Calls Try.prog 17 #[.int .i64 W, .int .i64 S, .int .i64 O, .agg #[.int .i64 f, .int .i64 t]] w (RefPairsPost w L k) := by
    by_cases h : allOk W S O f t
    · by_cases he : f = t
      · exact ⟨[], 0, by simp, fun w => (all_none W S O f t w 0 (.inl ⟨h, he, rfl⟩) hf ht).mono fun _ _ h => h.pairs, fun w => (refAll_none W S O f t w 0 (.inl ⟨h, he, rfl⟩) hW hS hO).mono fun _ _ h => h.pairs⟩
      · have hlt : f < t := by have := h.2.2.2; omega
        by_cases hbig : countW (firstW W S O f) S (t - 1) ≤ 65536
        · refine ⟨wins (firstW W S O f) S W (countW (firstW W S O f) S (t - 1)), 0, ?_, fun w => (all_yes W S O f t w h hlt).mono fun _ _ h => ?_, fun w => (refAll_yes W S O f t w h hlt).mono fun _ _ h => ?_⟩
          · rw [wins_length]; omega
          · unfold AllPost at h; rw [if_pos hbig] at h; exact h.pairs
          · unfold RefAllPost at h; rw [if_pos hbig] at h; exact h.pairs
        · refine ⟨[], 3, by simp, fun w => (all_yes W S O f t w h hlt).mono fun _ _ h => ?_, fun w => (refAll_yes W S O f t w h hlt).mono fun _ _ h => ?_⟩
          · unfold AllPost at h; rw [if_neg hbig] at h; exact h.pairs
          · unfold RefAllPost at h; rw [if_neg hbig] at h; exact h.pairs
    · exact ⟨[], 2, by simp, fun w => (all_none W S O f t w 2 (.inr ⟨h, rfl⟩) hf ht).mono fun _ _ h => h.pairs, fun w => (refAll_none W S O f t w 2 (.inr ⟨h, rfl⟩) hW hS hO).mono fun _ _ h => h.pairs⟩
  have h3 : ∃ b : Bool, (∀ w : World, Calls Try.prog 13 #[.agg #[.int .i64 W, .int .i64 S, .int .i64 O]] w fun e w' => e = .returned (.bool b) ∧ Below w.heap.size w w') ∧
      ∀ w : World, Calls Try.prog 18 #[.int .i64 W, .int .i64 S, .int .i64 O] w fun e w' => e = .returned (.bool b) ∧ w = w' := by
    by_cases h : valid W S O
    · exact ⟨true, fun w => valid_yes W S O w h, fun w => refValid_yes W S O w h⟩
    · exact ⟨false, fun w => valid_no W S O w h, fun w => refValid_no W S O w h hW hS hO⟩
  have h4 : ∃ b : Bool, (∀ w : World, Calls Try.prog 14 #[.agg #[.int .i64 W, .int .i64 S, .int .i64 O], .int .i64 d, .int .i64 o] w fun e w' => e = .returned (.bool b) ∧ Below w.heap.size w w') ∧
      ∀ w : World, Calls Try.prog 19 #[.int .i64 W, .int .i64 S, .int .i64 O, .int .i64 d, .int .i64 o] w fun e w' => e = .returned (.bool b) ∧ w = w' := by
    by_cases h : fitsW W S O d o
    · exact ⟨true, fun w => fitsW_yes W S O d o w h, fun w => refFits_yes W S O d o w h⟩
    · exact ⟨false, fun w => fitsW_no W S O d o w hd ho h, fun w => refFits_no W S O d o w hW hS hO hd ho h⟩
  obtain ⟨L1, k1, hl1, c1, c2⟩ := h1
  obtain ⟨L2, k2, hl2, c3, c4⟩ := h2
  obtain ⟨b1, c5, c6⟩ := h3
  obtain ⟨b2, c7, c8⟩ := h4
  exact tells_core w W S O f t d o L1 L2 k1 k2 b1 b2 hl1 hl2 c1 c2 c3 c4 c5 c6 c7 c8
end Go.Proofs.Ytjbdnomnjdpckaa

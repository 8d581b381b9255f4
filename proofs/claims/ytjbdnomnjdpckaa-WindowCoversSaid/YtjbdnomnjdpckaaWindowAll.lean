/- Contracts of window.All. -/
import Derived.Test.YtjbdnomnjdpckaaWindowOf
namespace Go.Proofs.Ytjbdnomnjdpckaa
open Go.RowKit
set_option linter.unusedVariables false

theorem two_ints (w : World) (t u : Int) : Ints (w.alloc (.cells #[.int .i64 t, .int .i64 u] 3)) (some ⟨w.heap.size, 0, none⟩) 2 (fun j => if j = 0 then t else u) := by
  intro _
  refine ⟨w.heap.size, 0, rfl, by simp, fun j hj => ?_⟩
  have : j = 0 ∨ j = 1 := by omega
  rcases this with rfl | rfl <;> simp
def KS (w : World) (W S O f t : Int) : World := (w.alloc (.cells #[.int .i64 W, .int .i64 S, .int .i64 O] 35)).alloc (.cells #[.int .i64 f, .int .i64 t] 33)
theorem ks_cells {w w' : World} {W S O f t : Int} (hb : Below (w.heap.size + 2) (KS w W S O f t) w') :
    w'.cell? ⟨w.heap.size, 0, none⟩ = some (.int .i64 W) ∧ w'.cell? ⟨w.heap.size, 1, none⟩ = some (.int .i64 S) ∧ w'.cell? ⟨w.heap.size, 2, none⟩ = some (.int .i64 O) ∧
      w'.cell? ⟨w.heap.size + 1, 0, none⟩ = some (.int .i64 f) ∧ w'.cell? ⟨w.heap.size + 1, 1, none⟩ = some (.int .i64 t) := by
  refine ⟨?_, ?_, ?_, ?_, ?_⟩
  · rw [hb.cell (p := ⟨w.heap.size, 0, none⟩) (by simp)]; simp [KS]
  · rw [hb.cell (p := ⟨w.heap.size, 1, none⟩) (by simp)]; simp [KS]
  · rw [hb.cell (p := ⟨w.heap.size, 2, none⟩) (by simp)]; simp [KS]
  · rw [hb.cell (p := ⟨w.heap.size + 1, 0, none⟩) (by simp)]; simp [KS]
  · rw [hb.cell (p := ⟨w.heap.size + 1, 1, none⟩) (by simp)]; simp [KS]
theorem ks_size (w : World) (W S O f t : Int) : (KS w W S O f t).heap.size = w.heap.size + 2 := by simp [KS]
theorem ks_below (w : World) (W S O f t : Int) : Below w.heap.size w (KS w W S O f t) := ((Below.refl _ _).alloc (Nat.le_refl _) _).alloc (by simp) _

def AllPost (w : World) (F S W : Int) (n : Nat) (e : Ending) (w' : World) : Prop := if n ≤ 65536 then WinsPost w (wins F S W n) 0 e w' else WinsPost w [] 3 e w'
set_option maxHeartbeats 2000000 in
theorem all_core (W S O f t F l : Int) (n : Nat) (w : World) (hv : valid W S O) (hf0 : isTime f) (ht : isTime t) (hft : f < t) (hFb : f - W < F) (hFb1 : F ≤ f - W + S) (hlb : t - 1 - S < l) (hlb1 : l ≤ t - 1) (hlF : 0 ≤ l - F) (hq : (l - F) / S + 1 = n)
    (hf : ∀ w : World, Calls Try.prog 22 #[.agg #[.int .i64 W, .int .i64 S, .int .i64 O], .int .i64 f] w fun e w' => e = .returned (.int .i64 F) ∧ Below w.heap.size w w')
    (hl : ∀ w : World, Calls Try.prog 23 #[.agg #[.int .i64 W, .int .i64 S, .int .i64 O], .int .i64 (t - 1)] w fun e w' => e = .returned (.int .i64 l) ∧ Below w.heap.size w w') :
    Calls Try.prog 15 #[.agg #[.int .i64 W, .int .i64 S, .int .i64 O], .agg #[.int .i64 f, .int .i64 t]] w (AllPost w F S W n) := by
  have HV := Lib.hid (fun w => valid_yes W S O w hv)
  have HT := Lib.hid (fun w : World => times_any (some ⟨w.heap.size, 0, none⟩) 2 2 (fun j => if j = 0 then f else t) _ (two_ints w f t) (by decide) true (by
    simp
    intro i hi
    split
    · exact hf0
    · exact ht))
  obtain ⟨h1, h2, h3, h4, h5, h6, h7⟩ := hv
  obtain ⟨ht1, ht2⟩ := ht
  obtain ⟨hf1, hf2⟩ := hf0
  have HF := Lib.hid hf; clear hf
  have HL := Lib.hid hl; clear hl
  have e1 : IntKind.i64.wrap (l - F) = l - F := IntWalk.i64_in _ (by omega)
  have e2 : IntKind.i64.wrap ((l - F).tdiv S) = (l - F) / S := IntWalk.i64_quo _ _ (by omega)
  have hqb := ediv_nonneg_of (x := l - F) (S := S) (by omega) hlF
  have e3 : IntKind.i64.wrap ((l - F) / S + 1) = (n : Int) := by rw [hq]; exact IntWalk.i64_in _ (by omega)
  have et : IntKind.i64.wrap (t - 1) = t - 1 := IntWalk.i64_in _ (by omega)
  have hSn : ¬ S = 0 := by omega
  have hne : (f == t) = false := by rw [beq_eq_false_iff_ne]; omega
  have E1 := Lib.hid e1; clear e1
  have E2 := Lib.hid e2; clear e2
  have E3 := Lib.hid e3; clear e3
  have HQ := Lib.hid hq; clear hq
  go_enter Try.func15, Try.ntmps15
  go_wp2_with fail
  with_reducible refine (HV.out _).mono ?_
  rintro e w1 ⟨rfl, hb1⟩
  have hb1' : Below (w.heap.size + 2) (KS w W S O f t) w1 := by simpa [KS] using hb1
  clear hb1
  obtain ⟨k0, k1, k2, k3, k4⟩ := ks_cells hb1'
  go_wp2_with fail
  with_reducible refine (HT.out _).mono ?_
  rintro e w2 ⟨rfl, rfl⟩
  have hb2 : Below (w.heap.size + 2) (KS w W S O f t) (w1.alloc (.cells #[.int .i64 f, .int .i64 t] 3)) := hb1'.alloc (by have := hb1'.size; rw [ks_size] at this; exact this) _
  obtain ⟨w2, hw2⟩ : ∃ w2, w2 = w1.alloc (.cells #[.int .i64 f, .int .i64 t] 3) := ⟨_, rfl⟩
  rw [← hw2] at hb2 ⊢
  clear hw2 hb1' k0 k1 k2 k3 k4
  have hk2 := ks_cells hb2
  have hszk := Nat.le_of_eq (ks_size w W S O f t).symm
  go_upto_region 5 with fail
  go_cut [6, 7] (fun a b wx => a = .int .i64 F ∧ b = .int .i64 l ∧ Below (w.heap.size + 2) (KS w W S O f t) wx)
  case first =>
    go_region_held3 (fun w' => w'.cell? ⟨w.heap.size, 0, none⟩ = some (.int .i64 W) ∧ w'.cell? ⟨w.heap.size, 1, none⟩ = some (.int .i64 S) ∧ w'.cell? ⟨w.heap.size, 2, none⟩ = some (.int .i64 O) ∧ w'.cell? ⟨w.heap.size + 1, 0, none⟩ = some (.int .i64 f) ∧ w'.cell? ⟨w.heap.size + 1, 1, none⟩ = some (.int .i64 t))
      (first
        | go_keep
        | exact ks_cells (bel_step (bel_step hb2.drew hszk hb4) hszk hb3)
        | exact ks_cells (bel_step hb2.drew hszk hb4))
      (first
        | (go_at_call 23; refine (HL.out _).mono ?_; rintro e w3 ⟨rfl, hb3⟩)
        | (go_at_call 22; refine (HF.out _).mono ?_; rintro e w4 ⟨rfl, hb4⟩))
    go_wp2_with fail
    go_meet
    case rel => exact ⟨rfl, rfl, bel_step (bel_step hb2.drew hszk hb4) hszk hb3⟩
  case rest =>
    obtain ⟨rfl, rfl, hb5⟩ := hcut
    obtain ⟨k0, k1, k2, k3, k4⟩ := ks_cells hb5
    have e1 := E1.out
    have e2 := E2.out
    have e3 := E3.out
    by_cases hbig : n ≤ 65536
    · have HX := Lib.hid (fun wx => from_any F n W S O wx (by omega) (by omega) (by omega) (by omega) (by omega) (by omega) (by omega))
      go_wp2_with fail
      with_reducible refine (HX.out _).mono ?_
      rintro e w6 ⟨A, c, rfl, ho6, hb6⟩
      have hb56 := bel_step hb5 hszk hb6
      go_wp2
      go_ret2
      unfold AllPost
      rw [if_pos hbig]
      have hlen := wins_length F S W n
      refine ⟨A, c, by rw [hlen]; rfl, ?_, (ks_below w W S O f t).trans (hb56.mono (by omega))⟩
      rw [hlen]
      exact own_less ho6 (by have := hb5.size; rw [ks_size] at this; omega)
    · go_wp2
      go_ret2
      unfold AllPost
      rw [if_neg (by omega)]
      exact ⟨none, 0, rfl, World.ownsRow_nil _ _ _ _, (ks_below w W S O f t).trans (hb5.mono (by omega))⟩
/-- what All answers -/
def allOk (W S O f t : Int) : Prop := valid W S O ∧ isTime f ∧ isTime t ∧ f ≤ t
theorem all_yes (W S O f t : Int) (w : World) (h : allOk W S O f t) (hft : f < t) :
    Calls Try.prog 15 #[.agg #[.int .i64 W, .int .i64 S, .int .i64 O], .agg #[.int .i64 f, .int .i64 t]] w (AllPost w (firstW W S O f) S W (countW (firstW W S O f) S (t - 1))) := by
  obtain ⟨hv, hf, ht, hle⟩ := h
  have hn := count_last W S O f (t - 1) (by have := hv.2.2.1; omega)
  obtain ⟨h1, h2, h3, h4, h5, h6, h7⟩ := id hv
  obtain ⟨ht1, ht2⟩ := id ht
  obtain ⟨hf1, hf2⟩ := id hf
  have hF := firstW_bd (W := W) (S := S) (O := O) (t := f) (by omega)
  have hL := lastW_bd (S := S) (O := O) (t := t - 1) (by omega)
  have hc0 := ediv_nonneg_of (x := t - 1 - firstW W S O f) (S := S) (by omega) (by omega)
  refine all_core W S O f t (firstW W S O f) (lastW S O (t - 1)) _ w hv hf ht hft hF.1 hF.2 hL.1 hL.2 ?_ ?_ (fun w => first_any W S O f w (by omega) (by omega) (by omega) (by omega) (by omega) (by omega) (by omega) (by omega)) (fun w => last_any W S O (t - 1) w (by omega) (by omega) (by omega) (by omega) (by omega) (by omega))
  · rcases Int.lt_or_le (lastW S O (t - 1) - firstW W S O f) 0 with hneg | hneg
    · have := Int.ediv_neg_of_neg_of_pos hneg (show 0 < S by omega)
      omega
    · exact hneg
  · rw [hn]; unfold countW; omega
theorem all_none (W S O f t : Int) (w : World) (k : Int) (h : (allOk W S O f t ∧ f = t ∧ k = 0) ∨ (¬ allOk W S O f t ∧ k = 2)) (hfb : -9223372036854775808 ≤ f ∧ f ≤ 9223372036854775807) (htb : -9223372036854775808 ≤ t ∧ t ≤ 9223372036854775807) :
    Calls Try.prog 15 #[.agg #[.int .i64 W, .int .i64 S, .int .i64 O], .agg #[.int .i64 f, .int .i64 t]] w (WinsPost w [] k) := by
  have fin : ∀ (e : Ending) (w' : World), e = .returned (.tuple #[.slice none 0 0, .int .i64 k]) → Below (w.heap.size + 2) (KS w W S O f t) w' → WinsPost w [] k e w' := fun e w' he hb => by
    subst he
    exact ⟨none, 0, rfl, World.ownsRow_nil _ _ _ _, (ks_below w W S O f t).trans (hb.mono (by omega))⟩
  have FIN := Lib.hid fin; clear fin
  by_cases hv : valid W S O
  · have HV := Lib.hid (fun w => valid_yes W S O w hv)
    by_cases htm : isTime f ∧ isTime t
    · have HT := Lib.hid (fun w : World => times_any (some ⟨w.heap.size, 0, none⟩) 2 2 (fun j => if j = 0 then f else t) _ (two_ints w f t) (by decide) true (by
        simp
        intro i hi
        split
        · exact htm.1
        · exact htm.2))
      by_cases hlt : t < f
      · have hk : k = 2 := by
          rcases h with ⟨ho, _, _⟩ | ⟨_, h⟩
          · have := ho.2.2.2; omega
          · exact h
        subst hk
        clear h
        go_enter Try.func15, Try.ntmps15
        go_wp2_with fail
        with_reducible refine (HV.out _).mono ?_
        rintro e w1 ⟨rfl, hb1⟩
        have hb1' : Below (w.heap.size + 2) (KS w W S O f t) w1 := by simpa [KS] using hb1
        clear hb1
        obtain ⟨k0, k1, k2, k3, k4⟩ := ks_cells hb1'
        go_wp2_with fail
        with_reducible refine (HT.out _).mono ?_
        rintro e w2 ⟨rfl, rfl⟩
        have hb2 : Below (w.heap.size + 2) (KS w W S O f t) (w1.alloc (.cells #[.int .i64 f, .int .i64 t] 3)) := hb1'.alloc (by have := hb1'.size; rw [ks_size] at this; exact this) _
        obtain ⟨w2, hw2⟩ : ∃ w2, w2 = w1.alloc (.cells #[.int .i64 f, .int .i64 t] 3) := ⟨_, rfl⟩
        rw [← hw2] at hb2 ⊢
        clear hw2 hb1' k0 k1 k2 k3 k4
        obtain ⟨k0, k1, k2, k3, k4⟩ := ks_cells hb2
        go_wp2
        go_ret2
        exact FIN.out _ _ rfl hb2
      · have hk : k = 0 ∧ f = t := by
          rcases h with ⟨_, h1, h2⟩ | ⟨h1, _⟩
          · exact ⟨h2, h1⟩
          · exact absurd ⟨hv, htm.1, htm.2, by omega⟩ h1
        obtain ⟨rfl, hft⟩ := hk
        have hbe : (f == t) = true := by simp [hft]
        have hbe2 : decide (t < f) = false := by simp; omega
        have HFT := Lib.hid hft; clear hft
        clear h hlt
        go_enter Try.func15, Try.ntmps15
        go_wp2_with fail
        with_reducible refine (HV.out _).mono ?_
        rintro e w1 ⟨rfl, hb1⟩
        have hb1' : Below (w.heap.size + 2) (KS w W S O f t) w1 := by simpa [KS] using hb1
        clear hb1
        obtain ⟨k0, k1, k2, k3, k4⟩ := ks_cells hb1'
        go_wp2_with fail
        with_reducible refine (HT.out _).mono ?_
        rintro e w2 ⟨rfl, rfl⟩
        have hb2 : Below (w.heap.size + 2) (KS w W S O f t) (w1.alloc (.cells #[.int .i64 f, .int .i64 t] 3)) := hb1'.alloc (by have := hb1'.size; rw [ks_size] at this; exact this) _
        obtain ⟨w2, hw2⟩ : ∃ w2, w2 = w1.alloc (.cells #[.int .i64 f, .int .i64 t] 3) := ⟨_, rfl⟩
        rw [← hw2] at hb2 ⊢
        clear hw2 hb1' k0 k1 k2 k3 k4
        obtain ⟨k0, k1, k2, k3, k4⟩ := ks_cells hb2
        go_wp2
        go_ret2
        exact FIN.out _ _ rfl hb2
    · have hk : k = 2 := by
        rcases h with ⟨ho, _, _⟩ | ⟨_, h⟩
        · exact absurd ⟨ho.2.1, ho.2.2.1⟩ htm
        · exact h
      subst hk
      have HT := Lib.hid (fun w : World => times_any (some ⟨w.heap.size, 0, none⟩) 2 2 (fun j => if j = 0 then f else t) _ (two_ints w f t) (by decide) false (by
        simp
        rcases Decidable.em (isTime f) with h | h
        · exact ⟨1, by decide, by simpa using fun h2 => htm ⟨h, h2⟩⟩
        · exact ⟨0, by decide, by simpa using h⟩))
      clear h htm
      go_enter Try.func15, Try.ntmps15
      go_wp2_with fail
      with_reducible refine (HV.out _).mono ?_
      rintro e w1 ⟨rfl, hb1⟩
      have hb1' : Below (w.heap.size + 2) (KS w W S O f t) w1 := by simpa [KS] using hb1
      clear hb1
      obtain ⟨k0, k1, k2, k3, k4⟩ := ks_cells hb1'
      go_wp2_with fail
      with_reducible refine (HT.out _).mono ?_
      rintro e w2 ⟨rfl, rfl⟩
      have hb2 : Below (w.heap.size + 2) (KS w W S O f t) (w1.alloc (.cells #[.int .i64 f, .int .i64 t] 3)) := hb1'.alloc (by have := hb1'.size; rw [ks_size] at this; exact this) _
      obtain ⟨w2, hw2⟩ : ∃ w2, w2 = w1.alloc (.cells #[.int .i64 f, .int .i64 t] 3) := ⟨_, rfl⟩
      rw [← hw2] at hb2 ⊢
      clear hw2 hb1' k0 k1 k2 k3 k4
      obtain ⟨k0, k1, k2, k3, k4⟩ := ks_cells hb2
      go_wp2
      go_ret2
      exact FIN.out _ _ rfl hb2
  · have hk : k = 2 := by
      rcases h with ⟨ho, _, _⟩ | ⟨_, h⟩
      · exact absurd ho.1 hv
      · exact h
    subst hk
    have HV := Lib.hid (fun w => valid_no W S O w hv)
    clear h hv
    go_enter Try.func15, Try.ntmps15
    go_wp2_with fail
    with_reducible refine (HV.out _).mono ?_
    rintro e w1 ⟨rfl, hb1⟩
    have hb1' : Below (w.heap.size + 2) (KS w W S O f t) w1 := by simpa [KS] using hb1
    clear hb1
    go_wp2
    go_ret2
    exact FIN.out _ _ rfl hb1'
end Go.Proofs.Ytjbdnomnjdpckaa

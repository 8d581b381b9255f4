/- Contracts of window.Of, window.All. -/
import Derived.Test.YtjbdnomnjdpckaaWindowFns
import Derived.Test.YtjbdnomnjdpckaaWindowSess
import Derived.Test.YtjbdnomnjdpckaaWindowSpans
import Derived.Deep.DeepCutAuto
namespace Go.Proofs.Ytjbdnomnjdpckaa
open Go.RowKit
set_option linter.unusedVariables false

def WinsPost (w : World) (L : List (Int × Int)) (k : Int) (e : Ending) (w' : World) : Prop :=
  ∃ A c, e = .returned (.tuple #[.slice A L.length c, .int .i64 k]) ∧ w'.ownsRow w.heap.size 33 2 (.slice A L.length c) L.length (cells2 L) ∧ Below w.heap.size w w'
def FlagPost (w : World) (b : Bool) (e : Ending) (w' : World) : Prop := e = .returned (.bool b) ∧ Below w.heap.size w w'

theorem one_int (w : World) (t : Int) : Ints (w.alloc (.cells #[.int .i64 t] 3)) (some ⟨w.heap.size, 0, none⟩) 1 (fun _ => t) := by
  intro _
  refine ⟨w.heap.size, 0, rfl, by simp, fun j hj => ?_⟩
  obtain rfl : j = 0 := by omega
  simp
theorem kind_cells {w w' : World} {W S O : Int} (hb : Below (w.heap.size + 1) (w.alloc (.cells #[.int .i64 W, .int .i64 S, .int .i64 O] 35)) w') :
    w'.cell? ⟨w.heap.size, 0, none⟩ = some (.int .i64 W) ∧ w'.cell? ⟨w.heap.size, 1, none⟩ = some (.int .i64 S) ∧ w'.cell? ⟨w.heap.size, 2, none⟩ = some (.int .i64 O) := by
  refine ⟨?_, ?_, ?_⟩
  · rw [hb.cell (p := ⟨w.heap.size, 0, none⟩) (by simp)]; simp
  · rw [hb.cell (p := ⟨w.heap.size, 1, none⟩) (by simp)]; simp
  · rw [hb.cell (p := ⟨w.heap.size, 2, none⟩) (by simp)]; simp

theorem own_less {w : World} {base base' : Nat} {e : TypeId} {size : Nat} {v : Value} {n : Nat} {xs : List Value} (h : w.ownsRow base e size v n xs) (hb : base' ≤ base) : w.ownsRow base' e size v n xs := by
  refine ⟨h.1, ?_⟩
  rcases h.2 with h | ⟨g, cap, cur, h1, h2, h3⟩
  · exact .inl h
  · exact .inr ⟨g, cap, cur, h1, Nat.le_trans hb h2, h3⟩
set_option maxHeartbeats 2000000 in
theorem of_core (W S O t F l : Int) (n : Nat) (w : World) (hv : valid W S O) (ht : isTime t) (hFb : t - W < F) (hFb1 : F ≤ t - W + S) (hlb : t - S < l) (hlb1 : l ≤ t) (hlF : 0 ≤ l - F) (hq : (l - F) / S + 1 = n) (hn : n ≤ 64)
    (hf : ∀ w : World, Calls Try.prog 22 #[.agg #[.int .i64 W, .int .i64 S, .int .i64 O], .int .i64 t] w fun e w' => e = .returned (.int .i64 F) ∧ Below w.heap.size w w')
    (hl : ∀ w : World, Calls Try.prog 23 #[.agg #[.int .i64 W, .int .i64 S, .int .i64 O], .int .i64 t] w fun e w' => e = .returned (.int .i64 l) ∧ Below w.heap.size w w') :
    Calls Try.prog 12 #[.agg #[.int .i64 W, .int .i64 S, .int .i64 O], .int .i64 t] w (WinsPost w (wins F S W n) 0) := by
  have HV := Lib.hid (fun w => valid_yes W S O w hv)
  have HT := Lib.hid (fun w : World => times_any (some ⟨w.heap.size, 0, none⟩) 1 1 (fun _ => t) _ (one_int w t) (by decide) true (by simp; exact ht))
  obtain ⟨h1, h2, h3, h4, h5, h6, h7⟩ := hv
  obtain ⟨ht1, ht2⟩ := ht
  have HF := Lib.hid hf; clear hf
  have HL := Lib.hid hl; clear hl
  have HX := Lib.hid (fun wx => from_any F n W S O wx (by omega) (by omega) (by omega) (by omega) (by omega) (by omega) (by omega))
  have e1 : IntKind.i64.wrap (l - F) = l - F := IntWalk.i64_in _ (by omega)
  have e2 : IntKind.i64.wrap ((l - F).tdiv S) = (l - F) / S := IntWalk.i64_quo _ _ (by omega)
  have e3 : IntKind.i64.wrap ((l - F) / S + 1) = (n : Int) := by rw [hq]; exact IntWalk.i64_in _ (by omega)
  have hS0 : (S == 0) = false := by simp; omega
  have hSn : ¬ S = 0 := by omega
  have HQ := Lib.hid hq; clear hq
  have E1 := Lib.hid e1; clear e1
  have E2 := Lib.hid e2; clear e2
  have E3 := Lib.hid e3; clear e3
  go_enter Try.func12, Try.ntmps12
  go_wp2_with fail
  with_reducible refine (HV.out _).mono ?_
  rintro e w1 ⟨rfl, hb1⟩
  simp only [World.size_alloc] at hb1
  have hk1 := kind_cells hb1
  go_wp2_with fail
  with_reducible refine (HT.out _).mono ?_
  rintro e w2 ⟨rfl, rfl⟩
  have hb2 : Below (w.heap.size + 1) _ (w1.alloc (.cells #[.int .i64 t] 3)) := hb1.alloc (by simpa using hb1.size) _
  obtain ⟨w2, hw2⟩ : ∃ w2, w2 = w1.alloc (.cells #[.int .i64 t] 3) := ⟨_, rfl⟩
  rw [← hw2] at hb2 ⊢
  clear hw2 hb1 hk1
  have hk2 := kind_cells hb2
  go_upto_region 3 with fail
  go_cut [6, 7] (fun a b wx => a = .int .i64 F ∧ b = .int .i64 l ∧ Below (w.heap.size + 1) (w.alloc (.cells #[.int .i64 W, .int .i64 S, .int .i64 O] 35)) wx)
  case first =>
    go_region_held3 (fun w' => w'.cell? ⟨w.heap.size, 0, none⟩ = some (.int .i64 W) ∧ w'.cell? ⟨w.heap.size, 1, none⟩ = some (.int .i64 S) ∧ w'.cell? ⟨w.heap.size, 2, none⟩ = some (.int .i64 O))
      (first
        | go_keep
        | exact kind_cells (bel_step (bel_step hb2.drew (by simp) hb4) (by simp) hb3)
        | exact kind_cells (bel_step hb2.drew (by simp) hb4))
      (first
        | (go_at_call 23; refine (HL.out _).mono ?_; rintro e w3 ⟨rfl, hb3⟩)
        | (go_at_call 22; refine (HF.out _).mono ?_; rintro e w4 ⟨rfl, hb4⟩))
    go_wp2_with fail
    go_meet
    case rel => exact ⟨rfl, rfl, bel_step (bel_step hb2.drew (by simp) hb4) (by simp) hb3⟩
  case rest =>
    obtain ⟨rfl, rfl, hb5⟩ := hcut
    have hk5 := kind_cells hb5
    have e1 := E1.out
    have e2 := E2.out
    have e3 := E3.out
    go_wp2_with fail
    go_region_held3 (fun w' => w'.cell? ⟨w.heap.size, 0, none⟩ = some (.int .i64 W) ∧ w'.cell? ⟨w.heap.size, 1, none⟩ = some (.int .i64 S) ∧ w'.cell? ⟨w.heap.size, 2, none⟩ = some (.int .i64 O))
      (first
        | go_keep
        | exact kind_cells (bel_step hb5.drew (by simp) hb6))
      (first
        | (go_at_call 24; refine (HX.out _).mono ?_; rintro e w6 ⟨A, c, rfl, ho6, hb6⟩))
    go_wp2
    go_ret2
    have hlen := wins_length F S W n
    refine ⟨A, c, by rw [hlen]; rfl, ?_, (((Below.refl w.heap.size w).alloc (Nat.le_refl _) _).trans (hb5.mono (by omega))).drew.trans (hb6.mono (by have := hb5.size; simp at *; omega))⟩
    rw [hlen]
    exact own_less ho6 (by have := hb5.size; simp at *; omega)
theorem of_yes (W S O t : Int) (w : World) (h : valid W S O) (ht : isTime t) :
    Calls Try.prog 12 #[.agg #[.int .i64 W, .int .i64 S, .int .i64 O], .int .i64 t] w (WinsPost w (wins (firstW W S O t) S W (countW (firstW W S O t) S t)) 0) := by
  have hc := of_count (t := t) h
  have hn := count_last W S O t t (by have := h.2.2.1; omega)
  obtain ⟨h1, h2, h3, h4, h5, h6, h7⟩ := id h
  obtain ⟨ht1, ht2⟩ := id ht
  have hF := firstW_bd (W := W) (S := S) (O := O) (t := t) (by omega)
  have hL := lastW_bd (S := S) (O := O) (t := t) (by omega)
  refine of_core W S O t (firstW W S O t) (lastW S O t) _ w h ht hF.1 hF.2 hL.1 hL.2 ?_ ?_ ?_ (fun w => first_any W S O t w (by omega) (by omega) (by omega) (by omega) (by omega) (by omega) (by omega) (by omega)) (fun w => last_any W S O t w (by omega) (by omega) (by omega) (by omega) (by omega) (by omega))
  · rcases Int.lt_or_le (lastW S O t - firstW W S O t) 0 with hneg | hneg
    · have := Int.ediv_neg_of_neg_of_pos hneg (show 0 < S by omega)
      omega
    · exact hneg
  · rw [hn]; unfold countW; omega
  · unfold countW; omega
theorem of_no (W S O t : Int) (w : World) (h : ¬ (valid W S O ∧ isTime t)) :
    Calls Try.prog 12 #[.agg #[.int .i64 W, .int .i64 S, .int .i64 O], .int .i64 t] w (WinsPost w [] 2) := by
  by_cases hv : valid W S O
  · have ht : ¬ isTime t := fun ht => h ⟨hv, ht⟩
    have HV := Lib.hid (fun w => valid_yes W S O w hv)
    have HT := Lib.hid (fun w : World => times_any (some ⟨w.heap.size, 0, none⟩) 1 1 (fun _ => t) _ (one_int w t) (by decide) false (by simp; exact ht))
    clear h hv ht
    go_enter Try.func12, Try.ntmps12
    go_wp2_with fail
    with_reducible refine (HV.out _).mono ?_
    rintro e w1 ⟨rfl, hb1⟩
    simp only [World.size_alloc] at hb1
    have hk1 := kind_cells hb1
    go_wp2_with fail
    with_reducible refine (HT.out _).mono ?_
    rintro e w2 ⟨rfl, rfl⟩
    have hb2 : Below (w.heap.size + 1) _ (w1.alloc (.cells #[.int .i64 t] 3)) := hb1.alloc (by simpa using hb1.size) _
    go_wp2
    go_ret2
    exact ⟨none, 0, rfl, World.ownsRow_nil _ _ _ _, ((Below.refl w.heap.size w).alloc (Nat.le_refl _) _).trans (hb2.mono (by omega))⟩
  · have HV := Lib.hid (fun w => valid_no W S O w hv)
    clear h hv
    go_enter Try.func12, Try.ntmps12
    go_wp2_with fail
    with_reducible refine (HV.out _).mono ?_
    rintro e w1 ⟨rfl, hb1⟩
    simp only [World.size_alloc] at hb1
    go_wp2
    go_ret2
    exact ⟨none, 0, rfl, World.ownsRow_nil _ _ _ _, ((Below.refl w.heap.size w).alloc (Nat.le_refl _) _).trans (hb1.mono (by omega))⟩
/-- the same, as the laws read it -/
def PairsPost (w : World) (L : List (Int × Int)) (k : Int) (e : Ending) (w' : World) : Prop :=
  ∃ A c, e = .returned (.tuple #[.slice A L.length c, .int .i64 k]) ∧ Pairs w' A L ∧ Below w.heap.size w w'
theorem WinsPost.pairs {w w' : World} {L : List (Int × Int)} {k : Int} {e : Ending} (h : WinsPost w L k e w') : PairsPost w L k e w' := by
  obtain ⟨A, c, he, ho, hb⟩ := h
  exact ⟨A, c, he, Pairs.of_own ho, hb⟩
theorem of_pairs (W S O t : Int) (w : World) (h : valid W S O) (ht : isTime t) :
    Calls Try.prog 12 #[.agg #[.int .i64 W, .int .i64 S, .int .i64 O], .int .i64 t] w (PairsPost w (wins (firstW W S O t) S W (countW (firstW W S O t) S t)) 0) :=
  (of_yes W S O t w h ht).mono fun _ _ h => h.pairs
end Go.Proofs.Ytjbdnomnjdpckaa

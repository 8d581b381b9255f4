/- Windows: contracts of window.All. -/
import Derived.Test.YtljepnonigjcbaaWindowFns
import Derived.Test.YtljepnonigjcbaaSessMath
import Derived.WalkKit
import Derived.WalkLawsBesides
import Derived.KernelRfl
import Derived.Deep.AppendLies
import Derived.Deep.DeepCutAuto
import Derived.Deep.QuietTactic
import Derived.BigQuiet
import Derived.Laws.StructEq
namespace Go.Proofs.Ytljepnonigjcbaa
open Go.RowKit
set_option linter.unusedVariables false

theorem wtimes_any (A : Option Addr) (n c : Nat) (x : Nat → Int) (w : World) (h : Ints w A n x) (hn : n ≤ 9223372036854775807) (ok : Bool) (hok : ok = true ↔ ∀ i, i < n → isTime (x i)) :
    Calls Try.prog 22 #[.slice A n c] w fun e w' => e = .returned (.bool ok) ∧ w = w' := by
  have HO := Lib.hid hok; clear hok
  go_enter Try.func22, Try.ntmps22
  go_wp2
  go_loop [7] (fun i => ∃ k : Nat, k ≤ n ∧ i = .int .i64 k ∧ ∀ j, j < k → isTime (x j)) (fun i => n - (intOf i).toNat)
  case atStart => exact ⟨0, by omega, rfl, fun j hj => by omega⟩
  case round =>
    obtain ⟨k, hk, rfl, hall⟩ := hrel
    have HA := Lib.hid hall; clear hall
    by_cases hlt : k < n
    · obtain ⟨b, off, rfl, hb, hc⟩ := h (by omega)
      have hck := hc k hlt
      clear hc h
      have no : ¬ isTime (x k) → Ending.returned (.bool false) = .returned (.bool ok) := fun hno => by
        rcases Bool.eq_false_or_eq_true ok with h | h
        · exact absurd (HO.out.1 h k hlt) hno
        · rw [h]
      have NO := Lib.hid no; clear no
      by_cases h1 : x k < -1152921504606846976
      · go_wp2
        go_ret
        exact ⟨NO.out (fun h => by unfold isTime at h; omega), rfl⟩
      · by_cases h2 : 1152921504606846976 < x k
        · go_wp2
          go_ret
          exact ⟨NO.out (fun h => by unfold isTime at h; omega), rfl⟩
        · go_wp2
          exact ⟨⟨k + 1, by omega, by go_num, fun j hj => by
            rcases Nat.lt_or_ge j k with h | h
            · exact HA.out j h
            · obtain rfl : j = k := by omega
              unfold isTime; omega⟩, by simp [intOf]; omega⟩
    · have e : ok = true := HO.out.2 (fun i hi => HA.out i (by omega))
      have E := Lib.hid e; clear e
      go_wp2
      go_ret
      exact ⟨by rw [E.out]; rfl, rfl⟩
/-- the cells of a list of pairs, by place -/
def pairCell (L : List (Int × Int)) (j : Nat) : Value := .int .i64 (if j % 2 = 0 then (L.getD (j / 2) (0, 0)).1 else (L.getD (j / 2) (0, 0)).2)
theorem pairCell_of (L : List (Int × Int)) (j : Nat) (h : j < L.length * 2) : (cells2 L)[j]? = some (pairCell L j) := by
  have hi : j / 2 < L.length := by omega
  have := cells2_even L (j / 2) L[j / 2] (List.getElem?_eq_getElem hi)
  unfold pairCell
  rw [List.getD_eq_getElem?_getD, List.getElem?_eq_getElem hi, Option.getD_some]
  split
  · have t := this.1
    rw [show j / 2 * 2 = j by omega] at t; exact t
  · have t := this.2
    rw [show j / 2 * 2 + 1 = j by omega] at t; exact t
/-- a slice of pairs -/
def Pairs (w : World) (A : Option Addr) (L : List (Int × Int)) : Prop := Cells w A (L.length * 2) (pairCell L)
theorem Pairs.of_own {w : World} {base : Nat} {e : TypeId} {A : Option Addr} {c : Nat} {L : List (Int × Int)} (h : w.ownsRow base e 2 (.slice A L.length c) L.length (cells2 L)) : Pairs w A L :=
  own_cells h _ (pairCell_of L)
theorem Pairs.at_ {w : World} {b off : Nat} {L : List (Int × Int)} (hc : ∀ j, j < L.length * 2 → w.cell? ⟨b, off + j, none⟩ = some (pairCell L j)) {i : Nat} (hi : i < L.length) :
    w.cell? ⟨b, off + i * 2, none⟩ = some (.int .i64 (L.getD i (0, 0)).1) ∧ w.cell? ⟨b, off + i * 2 + 1, none⟩ = some (.int .i64 (L.getD i (0, 0)).2) := by
  have h1 := hc (i * 2) (by omega)
  have h2 := hc (i * 2 + 1) (by omega)
  refine ⟨?_, ?_⟩
  · rw [h1]; unfold pairCell; rw [if_pos (by omega), show i * 2 / 2 = i by omega]
  · rw [← Nat.add_assoc] at h2; rw [h2]; unfold pairCell; rw [if_neg (by omega), show (i * 2 + 1) / 2 = i by omega]
def WinsPost (w : World) (L : List (Int × Int)) (k : Int) (e : Ending) (w' : World) : Prop :=
  ∃ A c, e = .returned (.tuple #[.slice A L.length c, .int .i64 k]) ∧ w'.ownsRow w.heap.size 52 2 (.slice A L.length c) L.length (cells2 L) ∧ Below w.heap.size w w'
def FlagPost (w : World) (b : Bool) (e : Ending) (w' : World) : Prop := e = .returned (.bool b) ∧ Below w.heap.size w w'
theorem one_int (w : World) (t : Int) : Ints (w.alloc (.cells #[.int .i64 t] 3)) (some ⟨w.heap.size, 0, none⟩) 1 (fun _ => t) := by
  intro _
  refine ⟨w.heap.size, 0, rfl, by simp, fun j hj => ?_⟩
  obtain rfl : j = 0 := by omega
  simp
theorem kind_cells {w w' : World} {W S O : Int} (hb : Below (w.heap.size + 1) (w.alloc (.cells #[.int .i64 W, .int .i64 S, .int .i64 O] 24)) w') :
    w'.cell? ⟨w.heap.size, 0, none⟩ = some (.int .i64 W) ∧ w'.cell? ⟨w.heap.size, 1, none⟩ = some (.int .i64 S) ∧ w'.cell? ⟨w.heap.size, 2, none⟩ = some (.int .i64 O) := by
  refine ⟨?_, ?_, ?_⟩
  · rw [hb.cell (p := ⟨w.heap.size, 0, none⟩) (by simp)]; simp
  · rw [hb.cell (p := ⟨w.heap.size, 1, none⟩) (by simp)]; simp
  · rw [hb.cell (p := ⟨w.heap.size, 2, none⟩) (by simp)]; simp
theorem own_less {w : World} {base base' : Nat} {e : TypeId} {size : Nat} {v : Value} {n : Nat} {xs : List Value} (h : w.ownsRow base e size v n xs) (hb : base' ≤ base) : w.ownsRow base' e size v n xs := by
  refine ⟨h.1, ?_⟩
  rcases h.2 with h | ⟨g, cap, cur, h1, h2, h3⟩
  · exact .inl h
  · exact .inr ⟨g, cap, cur, h1, Nat.le_trans hb h2, h3⟩
/-- the same, as the laws read it -/
def PairsPost (w : World) (L : List (Int × Int)) (k : Int) (e : Ending) (w' : World) : Prop :=
  ∃ A c, e = .returned (.tuple #[.slice A L.length c, .int .i64 k]) ∧ Pairs w' A L ∧ Below w.heap.size w w'
theorem WinsPost.pairs {w w' : World} {L : List (Int × Int)} {k : Int} {e : Ending} (h : WinsPost w L k e w') : PairsPost w L k e w' := by
  obtain ⟨A, c, he, ho, hb⟩ := h
  exact ⟨A, c, he, Pairs.of_own ho, hb⟩
theorem two_ints (w : World) (t u : Int) : Ints (w.alloc (.cells #[.int .i64 t, .int .i64 u] 3)) (some ⟨w.heap.size, 0, none⟩) 2 (fun j => if j = 0 then t else u) := by
  intro _
  refine ⟨w.heap.size, 0, rfl, by simp, fun j hj => ?_⟩
  have : j = 0 ∨ j = 1 := by omega
  rcases this with rfl | rfl <;> simp
def KS (w : World) (W S O f t : Int) : World := (w.alloc (.cells #[.int .i64 W, .int .i64 S, .int .i64 O] 24)).alloc (.cells #[.int .i64 f, .int .i64 t] 52)
theorem ks_cells {w w' : World} {W S O f t : Int} (hb : Below (w.heap.size + 2) (KS w W S O f t) w') :
    w'.cell? ⟨w.heap.size, 0, none⟩ = some (.int .i64 W) ∧ w'.cell? ⟨w.heap.size, 1, none⟩ = some (.int .i64 S) ∧ w'.cell? ⟨w.heap.size, 2, none⟩ = some (.int .i64 O) ∧
      w'.cell? ⟨w.heap.size + 1, 0, none⟩ = some (.int .i64 f) ∧ w'.cell? ⟨w.heap.size + 1, 1, none⟩ = some (.int .i64 t) := by
  refine ⟨?_, ?_, ?_, ?_, ?_⟩
  · rw [hb.cell (p := ⟨w.heap.size, 0, none⟩) (by simp)]; simp [KS]
  · rw [hb.cell (p := ⟨w.heap.size, 1, none⟩) (by simp)]; simp [KS]
  · rw [hb.cell (p := ⟨w.heap.size, 2, none⟩) (by simp)]; simp [KS]
  · rw [hb.cell (p := ⟨w.heap.size + 1, 0, none⟩) (by simp)]; simp [KS]
  · rw [hb.cell (p := ⟨w.heap.size + 1, 1, none⟩) (by simp)]; simp [KS]
theorem ks_size (w : World) (W S O f t : Int) : (KS w W S O f t).heap.size = w.heap.size + 2 := by simp [KS]
theorem ks_below (w : World) (W S O f t : Int) : Below w.heap.size w (KS w W S O f t) := ((Below.refl _ _).alloc (Nat.le_refl _) _).alloc (by simp) _
def AllPost (w : World) (F S W : Int) (n : Nat) (e : Ending) (w' : World) : Prop := if n ≤ 65536 then WinsPost w (wins F S W n) 0 e w' else WinsPost w [] 3 e w'
set_option maxHeartbeats 2000000 in
theorem all_core (W S O f t F l : Int) (n : Nat) (w : World) (hv : valid W S O) (hf0 : isTime f) (ht : isTime t) (hft : f < t) (hFb : f - W < F) (hFb1 : F ≤ f - W + S) (hlb : t - 1 - S < l) (hlb1 : l ≤ t - 1) (hlF : 0 ≤ l - F) (hq : (l - F) / S + 1 = n)
    (hf : ∀ w : World, Calls Try.prog 23 #[.agg #[.int .i64 W, .int .i64 S, .int .i64 O], .int .i64 f] w fun e w' => e = .returned (.int .i64 F) ∧ Below w.heap.size w w')
    (hl : ∀ w : World, Calls Try.prog 24 #[.agg #[.int .i64 W, .int .i64 S, .int .i64 O], .int .i64 (t - 1)] w fun e w' => e = .returned (.int .i64 l) ∧ Below w.heap.size w w') :
    Calls Try.prog 11 #[.agg #[.int .i64 W, .int .i64 S, .int .i64 O], .agg #[.int .i64 f, .int .i64 t]] w (AllPost w F S W n) := by
  have HV := Lib.hid (fun w => valid_yes W S O w hv)
  have HT := Lib.hid (fun w : World => wtimes_any (some ⟨w.heap.size, 0, none⟩) 2 2 (fun j => if j = 0 then f else t) _ (two_ints w f t) (by decide) true (by
    simp
    intro i hi
    split
    · exact hf0
    · exact ht))
  obtain ⟨h1, h2, h3, h4, h5, h6, h7⟩ := hv
  obtain ⟨ht1, ht2⟩ := ht
  obtain ⟨hf1, hf2⟩ := hf0
  have HF := Lib.hid hf; clear hf
  have HL := Lib.hid hl; clear hl
  have e1 : IntKind.i64.wrap (l - F) = l - F := IntWalk.i64_in _ (by omega)
  have e2 : IntKind.i64.wrap ((l - F).tdiv S) = (l - F) / S := IntWalk.i64_quo _ _ (by omega)
  have hqb := ediv_nonneg_of (x := l - F) (S := S) (by omega) hlF
  have e3 : IntKind.i64.wrap ((l - F) / S + 1) = (n : Int) := by rw [hq]; exact IntWalk.i64_in _ (by omega)
  have et : IntKind.i64.wrap (t - 1) = t - 1 := IntWalk.i64_in _ (by omega)
  have hSn : ¬ S = 0 := by omega
  have hne : (f == t) = false := by rw [beq_eq_false_iff_ne]; omega
  have E1 := Lib.hid e1; clear e1
  have E2 := Lib.hid e2; clear e2
  have E3 := Lib.hid e3; clear e3
  have HQ := Lib.hid hq; clear hq
  go_enter Try.func11, Try.ntmps11
  go_wp2_with fail
  with_reducible refine (HV.out _).mono ?_
  rintro e w1 ⟨rfl, hb1⟩
  have hb1' : Below (w.heap.size + 2) (KS w W S O f t) w1 := by simpa [KS] using hb1
  clear hb1
  obtain ⟨k0, k1, k2, k3, k4⟩ := ks_cells hb1'
  go_wp2_with fail
  with_reducible refine (HT.out _).mono ?_
  rintro e w2 ⟨rfl, rfl⟩
  have hb2 : Below (w.heap.size + 2) (KS w W S O f t) (w1.alloc (.cells #[.int .i64 f, .int .i64 t] 3)) := hb1'.alloc (by have := hb1'.size; rw [ks_size] at this; exact this) _
  obtain ⟨w2, hw2⟩ : ∃ w2, w2 = w1.alloc (.cells #[.int .i64 f, .int .i64 t] 3) := ⟨_, rfl⟩
  rw [← hw2] at hb2 ⊢
  clear hw2 hb1' k0 k1 k2 k3 k4
  have hk2 := ks_cells hb2
  have hszk := Nat.le_of_eq (ks_size w W S O f t).symm
  go_upto_region 5 with fail
  go_cut [6, 7] (fun a b wx => a = .int .i64 F ∧ b = .int .i64 l ∧ Below (w.heap.size + 2) (KS w W S O f t) wx)
  case first =>
    go_region_held3 (fun w' => w'.cell? ⟨w.heap.size, 0, none⟩ = some (.int .i64 W) ∧ w'.cell? ⟨w.heap.size, 1, none⟩ = some (.int .i64 S) ∧ w'.cell? ⟨w.heap.size, 2, none⟩ = some (.int .i64 O) ∧ w'.cell? ⟨w.heap.size + 1, 0, none⟩ = some (.int .i64 f) ∧ w'.cell? ⟨w.heap.size + 1, 1, none⟩ = some (.int .i64 t))
      (first
        | go_keep
        | exact ks_cells (bel_step (bel_step hb2.drew hszk hb4) hszk hb3)
        | exact ks_cells (bel_step hb2.drew hszk hb4))
      (first
        | (go_at_call 24; refine (HL.out _).mono ?_; rintro e w3 ⟨rfl, hb3⟩)
        | (go_at_call 23; refine (HF.out _).mono ?_; rintro e w4 ⟨rfl, hb4⟩))
    go_wp2_with fail
    go_meet
    case rel => exact ⟨rfl, rfl, bel_step (bel_step hb2.drew hszk hb4) hszk hb3⟩
  case rest =>
    obtain ⟨rfl, rfl, hb5⟩ := hcut
    obtain ⟨k0, k1, k2, k3, k4⟩ := ks_cells hb5
    have e1 := E1.out
    have e2 := E2.out
    have e3 := E3.out
    by_cases hbig : n ≤ 65536
    · have HX := Lib.hid (fun wx => from_any F n W S O wx (by omega) (by omega) (by omega) (by omega) (by omega) (by omega) (by omega))
      go_wp2_with fail
      with_reducible refine (HX.out _).mono ?_
      rintro e w6 ⟨A, c, rfl, ho6, hb6⟩
      have hb56 := bel_step hb5 hszk hb6
      go_wp2
      go_ret2
      unfold AllPost
      rw [if_pos hbig]
      have hlen := wins_length F S W n
      refine ⟨A, c, by rw [hlen]; rfl, ?_, (ks_below w W S O f t).trans (hb56.mono (by omega))⟩
      rw [hlen]
      exact own_less ho6 (by have := hb5.size; rw [ks_size] at this; omega)
    · go_wp2
      go_ret2
      unfold AllPost
      rw [if_neg (by omega)]
      exact ⟨none, 0, rfl, World.ownsRow_nil _ _ _ _, (ks_below w W S O f t).trans (hb5.mono (by omega))⟩
/-- what All answers -/
def allOk (W S O f t : Int) : Prop := valid W S O ∧ isTime f ∧ isTime t ∧ f ≤ t
theorem all_yes (W S O f t : Int) (w : World) (h : allOk W S O f t) (hft : f < t) :
    Calls Try.prog 11 #[.agg #[.int .i64 W, .int .i64 S, .int .i64 O], .agg #[.int .i64 f, .int .i64 t]] w (AllPost w (firstW W S O f) S W (countW (firstW W S O f) S (t - 1))) := by
  obtain ⟨hv, hf, ht, hle⟩ := h
  have hn := count_last W S O f (t - 1) (by have := hv.2.2.1; omega)
  obtain ⟨h1, h2, h3, h4, h5, h6, h7⟩ := id hv
  obtain ⟨ht1, ht2⟩ := id ht
  obtain ⟨hf1, hf2⟩ := id hf
  have hF := firstW_bd (W := W) (S := S) (O := O) (t := f) (by omega)
  have hL := lastW_bd (S := S) (O := O) (t := t - 1) (by omega)
  have hc0 := ediv_nonneg_of (x := t - 1 - firstW W S O f) (S := S) (by omega) (by omega)
  refine all_core W S O f t (firstW W S O f) (lastW S O (t - 1)) _ w hv hf ht hft hF.1 hF.2 hL.1 hL.2 ?_ ?_ (fun w => first_any W S O f w (by omega) (by omega) (by omega) (by omega) (by omega) (by omega) (by omega) (by omega)) (fun w => last_any W S O (t - 1) w (by omega) (by omega) (by omega) (by omega) (by omega) (by omega))
  · rcases Int.lt_or_le (lastW S O (t - 1) - firstW W S O f) 0 with hneg | hneg
    · have := Int.ediv_neg_of_neg_of_pos hneg (show 0 < S by omega)
      omega
    · exact hneg
  · rw [hn]; unfold countW; omega
theorem all_none (W S O f t : Int) (w : World) (k : Int) (h : (allOk W S O f t ∧ f = t ∧ k = 0) ∨ (¬ allOk W S O f t ∧ k = 2)) (hfb : -9223372036854775808 ≤ f ∧ f ≤ 9223372036854775807) (htb : -9223372036854775808 ≤ t ∧ t ≤ 9223372036854775807) :
    Calls Try.prog 11 #[.agg #[.int .i64 W, .int .i64 S, .int .i64 O], .agg #[.int .i64 f, .int .i64 t]] w (WinsPost w [] k) := by
  have fin : ∀ (e : Ending) (w' : World), e = .returned (.tuple #[.slice none 0 0, .int .i64 k]) → Below (w.heap.size + 2) (KS w W S O f t) w' → WinsPost w [] k e w' := fun e w' he hb => by
    subst he
    exact ⟨none, 0, rfl, World.ownsRow_nil _ _ _ _, (ks_below w W S O f t).trans (hb.mono (by omega))⟩
  have FIN := Lib.hid fin; clear fin
  by_cases hv : valid W S O
  · have HV := Lib.hid (fun w => valid_yes W S O w hv)
    by_cases htm : isTime f ∧ isTime t
    · have HT := Lib.hid (fun w : World => wtimes_any (some ⟨w.heap.size, 0, none⟩) 2 2 (fun j => if j = 0 then f else t) _ (two_ints w f t) (by decide) true (by
        simp
        intro i hi
        split
        · exact htm.1
        · exact htm.2))
      by_cases hlt : t < f
      · have hk : k = 2 := by
          rcases h with ⟨ho, _, _⟩ | ⟨_, h⟩
          · have := ho.2.2.2; omega
          · exact h
        subst hk
        clear h
        go_enter Try.func11, Try.ntmps11
        go_wp2_with fail
        with_reducible refine (HV.out _).mono ?_
        rintro e w1 ⟨rfl, hb1⟩
        have hb1' : Below (w.heap.size + 2) (KS w W S O f t) w1 := by simpa [KS] using hb1
        clear hb1
        obtain ⟨k0, k1, k2, k3, k4⟩ := ks_cells hb1'
        go_wp2_with fail
        with_reducible refine (HT.out _).mono ?_
        rintro e w2 ⟨rfl, rfl⟩
        have hb2 : Below (w.heap.size + 2) (KS w W S O f t) (w1.alloc (.cells #[.int .i64 f, .int .i64 t] 3)) := hb1'.alloc (by have := hb1'.size; rw [ks_size] at this; exact this) _
        obtain ⟨w2, hw2⟩ : ∃ w2, w2 = w1.alloc (.cells #[.int .i64 f, .int .i64 t] 3) := ⟨_, rfl⟩
        rw [← hw2] at hb2 ⊢
        clear hw2 hb1' k0 k1 k2 k3 k4
        obtain ⟨k0, k1, k2, k3, k4⟩ := ks_cells hb2
        go_wp2
        go_ret2
        exact FIN.out _ _ rfl hb2
      · have hk : k = 0 ∧ f = t := by
          rcases h with ⟨_, h1, h2⟩ | ⟨h1, _⟩
          · exact ⟨h2, h1⟩
          · exact absurd ⟨hv, htm.1, htm.2, by omega⟩ h1
        obtain ⟨rfl, hft⟩ := hk
        have hbe : (f == t) = true := by simp [hft]
        have hbe2 : decide (t < f) = false := by simp; omega
        have HFT := Lib.hid hft; clear hft
        clear h hlt
        go_enter Try.func11, Try.ntmps11
        go_wp2_with fail
        with_reducible refine (HV.out _).mono ?_
        rintro e w1 ⟨rfl, hb1⟩
        have hb1' : Below (w.heap.size + 2) (KS w W S O f t) w1 := by simpa [KS] using hb1
        clear hb1
        obtain ⟨k0, k1, k2, k3, k4⟩ := ks_cells hb1'
        go_wp2_with fail
        with_reducible refine (HT.out _).mono ?_
        rintro e w2 ⟨rfl, rfl⟩
        have hb2 : Below (w.heap.size + 2) (KS w W S O f t) (w1.alloc (.cells #[.int .i64 f, .int .i64 t] 3)) := hb1'.alloc (by have := hb1'.size; rw [ks_size] at this; exact this) _
        obtain ⟨w2, hw2⟩ : ∃ w2, w2 = w1.alloc (.cells #[.int .i64 f, .int .i64 t] 3) := ⟨_, rfl⟩
        rw [← hw2] at hb2 ⊢
        clear hw2 hb1' k0 k1 k2 k3 k4
        obtain ⟨k0, k1, k2, k3, k4⟩ := ks_cells hb2
        go_wp2
        go_ret2
        exact FIN.out _ _ rfl hb2
    · have hk : k = 2 := by
        rcases h with ⟨ho, _, _⟩ | ⟨_, h⟩
        · exact absurd ⟨ho.2.1, ho.2.2.1⟩ htm
        · exact h
      subst hk
      have HT := Lib.hid (fun w : World => wtimes_any (some ⟨w.heap.size, 0, none⟩) 2 2 (fun j => if j = 0 then f else t) _ (two_ints w f t) (by decide) false (by
        simp
        rcases Decidable.em (isTime f) with h | h
        · exact ⟨1, by decide, by simpa using fun h2 => htm ⟨h, h2⟩⟩
        · exact ⟨0, by decide, by simpa using h⟩))
      clear h htm
      go_enter Try.func11, Try.ntmps11
      go_wp2_with fail
      with_reducible refine (HV.out _).mono ?_
      rintro e w1 ⟨rfl, hb1⟩
      have hb1' : Below (w.heap.size + 2) (KS w W S O f t) w1 := by simpa [KS] using hb1
      clear hb1
      obtain ⟨k0, k1, k2, k3, k4⟩ := ks_cells hb1'
      go_wp2_with fail
      with_reducible refine (HT.out _).mono ?_
      rintro e w2 ⟨rfl, rfl⟩
      have hb2 : Below (w.heap.size + 2) (KS w W S O f t) (w1.alloc (.cells #[.int .i64 f, .int .i64 t] 3)) := hb1'.alloc (by have := hb1'.size; rw [ks_size] at this; exact this) _
      obtain ⟨w2, hw2⟩ : ∃ w2, w2 = w1.alloc (.cells #[.int .i64 f, .int .i64 t] 3) := ⟨_, rfl⟩
      rw [← hw2] at hb2 ⊢
      clear hw2 hb1' k0 k1 k2 k3 k4
      obtain ⟨k0, k1, k2, k3, k4⟩ := ks_cells hb2
      go_wp2
      go_ret2
      exact FIN.out _ _ rfl hb2
  · have hk : k = 2 := by
      rcases h with ⟨ho, _, _⟩ | ⟨_, h⟩
      · exact absurd ho.1 hv
      · exact h
    subst hk
    have HV := Lib.hid (fun w => valid_no W S O w hv)
    clear h hv
    go_enter Try.func11, Try.ntmps11
    go_wp2_with fail
    with_reducible refine (HV.out _).mono ?_
    rintro e w1 ⟨rfl, hb1⟩
    have hb1' : Below (w.heap.size + 2) (KS w W S O f t) w1 := by simpa [KS] using hb1
    clear hb1
    go_wp2
    go_ret2
    exact FIN.out _ _ rfl hb1'
end Go.Proofs.Ytljepnonigjcbaa

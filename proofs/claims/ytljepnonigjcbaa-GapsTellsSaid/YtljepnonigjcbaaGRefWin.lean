/- Windows: contracts of the document: All. -/
import Derived.Test.YtljepnonigjcbaaGWin
import Derived.Test.YtljepnonigjcbaaRefMod
import Derived.Deep.QuietTactic
import Derived.BigQuiet
import Derived.Laws.StructEq
import Derived.Deep.LoopGhost
namespace Go.Proofs.Ytljepnonigjcbaa
open Go.RowKit
set_option linter.unusedVariables false

theorem reftime_yes (t : Int) (w : World) (h : isTime t) :
    Calls Try.prog 32 #[.int .i64 t] w fun e w' => e = .returned (.bool true) ∧ w = w' := by
  obtain ⟨h1, h2⟩ := h
  go_enter Try.func32, Try.ntmps32
  go_wp2
  go_ret
  exact ⟨by first | rfl | exact ret_bool (by simp; omega), rfl⟩
theorem reftime_no (t : Int) (w : World) (h : ¬ isTime t) :
    Calls Try.prog 32 #[.int .i64 t] w fun e w' => e = .returned (.bool false) ∧ w = w' := by
  by_cases h1 : -1152921504606846976 ≤ t
  · have h2 : ¬ t ≤ 1152921504606846976 := fun h2 => h ⟨h1, h2⟩
    clear h
    go_enter Try.func32, Try.ntmps32
    go_wp2
    go_ret
    exact ⟨by first | rfl | exact ret_bool (by simp; omega), rfl⟩
  · clear h
    go_enter Try.func32, Try.ntmps32
    go_wp2
    go_ret
    exact ⟨rfl, rfl⟩
theorem quiet_of {f : FuncId} {args : Array Value} {w : World} {v : Value} (h : Calls Try.prog f args w fun e w' => e = .returned v ∧ w = w') : Calls Try.prog f args w fun e w' => e = .returned v ∧ w' = w :=
  h.mono fun _ _ ⟨a, b⟩ => ⟨a, b.symm⟩
theorem refSpanElem : Elem Try.prog 60 63 (.agg #[.int .i64 0, .int .i64 0]) 2 16 := Elem.mk' Try.underlying60 (by kernel_rfl) rfl (by decide)
theorem refValid_yes (W S O : Int) (w : World) (h : valid W S O) :
    Calls Try.prog 31 #[.int .i64 W, .int .i64 S, .int .i64 O] w fun e w' => e = .returned (.bool true) ∧ w = w' := by
  obtain ⟨h1, h2, h3, h4, h5, h6, h7⟩ := h
  have hSn : ¬ S = 0 := by omega
  have q1 : (W + S - 1) / S ≤ 64 := by
    have : (W + S - 1) / S < 65 := Int.ediv_lt_of_lt_mul (by omega) (by omega)
    omega
  by_cases he : W = 64 * S
  · have hb : (W == 64 * S) = true := by rw [beq_iff_eq]; exact he
    have q2 : W / S = 64 := by rw [he, Int.mul_ediv_cancel _ (by omega)]
    have HE := Lib.hid he; clear he
    have Q2 := Lib.hid q2
    have q3 : 64 ≤ W / S := by omega
    clear q2
    go_enter Try.func31, Try.ntmps31
    go_wp2
    go_ret
    exact ⟨by first | rfl | exact ret_bool (by simp; have := HE.out; omega), rfl⟩
  · have q2 : W / S < 64 := Int.ediv_lt_of_lt_mul (by omega) (by omega)
    clear he
    go_enter Try.func31, Try.ntmps31
    go_wp2
    go_ret
    exact ⟨by first | rfl | exact ret_bool (by simp; omega), rfl⟩
theorem refValid_no (W S O : Int) (w : World) (h : ¬ valid W S O) (hW : -9223372036854775808 ≤ W ∧ W ≤ 9223372036854775807) (hS : -9223372036854775808 ≤ S ∧ S ≤ 9223372036854775807) (hO : -9223372036854775808 ≤ O ∧ O ≤ 9223372036854775807) :
    Calls Try.prog 31 #[.int .i64 W, .int .i64 S, .int .i64 O] w fun e w' => e = .returned (.bool false) ∧ w = w' := by
  by_cases k1 : 1 ≤ W
  · by_cases k2 : W ≤ 1099511627776
    · by_cases k3 : 1 ≤ S
      · by_cases k4 : S ≤ W
        · by_cases k5 : 0 ≤ O
          · by_cases k6 : O < S
            · have hSn : ¬ S = 0 := by omega
              by_cases k7 : W ≤ 64 * S
              · exact absurd ⟨k1, k2, k3, k4, k7, k5, k6⟩ h
              · clear h
                have q7 : 64 < (W + S - 1) / S := by
                  have : 65 ≤ (W + S - 1) / S := Int.le_ediv_of_mul_le (by omega) (by omega)
                  omega
                go_enter Try.func31, Try.ntmps31
                go_wp2
                go_ret
                exact ⟨by first | rfl | exact ret_bool (by simp; omega), rfl⟩
            · clear h
              go_enter Try.func31, Try.ntmps31
              go_wp2
              go_ret
              exact ⟨by first | rfl | exact ret_bool (by simp; omega), rfl⟩
          · clear h
            go_enter Try.func31, Try.ntmps31
            go_wp2
            go_ret
            exact ⟨by first | rfl | exact ret_bool (by simp; omega), rfl⟩
        · clear h
          go_enter Try.func31, Try.ntmps31
          go_wp2
          go_ret
          exact ⟨by first | rfl | exact ret_bool (by simp; omega), rfl⟩
      · clear h
        go_enter Try.func31, Try.ntmps31
        go_wp2
        go_ret
        exact ⟨by first | rfl | exact ret_bool (by simp; omega), rfl⟩
    · clear h
      go_enter Try.func31, Try.ntmps31
      go_wp2
      go_ret
      exact ⟨by first | rfl | exact ret_bool (by simp; omega), rfl⟩
  · clear h
    go_enter Try.func31, Try.ntmps31
    go_wp2
    go_ret
    exact ⟨by first | rfl | exact ret_bool (by simp; omega), rfl⟩
theorem refFirst_any (W S O t : Int) (w : World) (hv : valid W S O) (ht : isTime t) :
    Calls Try.prog 33 #[.int .i64 W, .int .i64 S, .int .i64 O, .int .i64 t] w fun e w' => e = .returned (.int .i64 (firstW W S O t)) ∧ w = w' := by
  obtain ⟨h1, h2, h3, h4, h5, h6, h7⟩ := hv
  obtain ⟨ht1, ht2⟩ := ht
  have hb := lastW_bd (S := S) (O := O) (t := t) (by omega)
  have HF := Lib.hid (lastW_form S O t)
  have hm0 := Int.emod_nonneg (t - O) (show S ≠ 0 by omega)
  have hm1 := Int.emod_lt_of_pos (t - O) (show 0 < S by omega)
  have HU := Lib.hid (fun x p => first_unique W S O t x p (show 0 < S by omega))
  go_enter Try.func33, Try.ntmps33
  go_wp2_with (go_at_call 52; refine (refMod_ok _ _ _ (by omega) (by omega) (by omega) (by omega)).mono ?_; rintro e w' ⟨rfl, rfl⟩)
  go_loop [11] (fun y => ∃ x p : Int, y = .int .i64 x ∧ x = O + S * p ∧ t - W < x ∧ x ≤ t) (fun y => (intOf y - (t - W)).toNat)
  case atStart => exact ⟨_, (t - O) / S, rfl, HF.out, by unfold lastW at hb; omega, by unfold lastW at hb; omega⟩
  case round =>
    obtain ⟨x, p, rfl, hx, hx1, hx2⟩ := hrel
    have HX := Lib.hid hx; clear hx
    by_cases hgo : t < x - S + W
    · go_wp2
      exact ⟨⟨x - S, p - 1, rfl, by have := HX.out; rw [Int.mul_sub]; omega, by omega, by omega⟩, by simp [intOf]; omega⟩
    · go_wp2
      go_ret
      exact ⟨ret_int (HU.out x p HX.out hx1 (by omega)), rfl⟩
def RefWinsPost (w : World) (L : List (Int × Int)) (k : Int) (e : Ending) (w' : World) : Prop :=
  ∃ A c, e = .returned (.tuple #[.slice A L.length c, .int .i64 k]) ∧ w'.ownsRow w.heap.size 63 2 (.slice A L.length c) L.length (cells2 L) ∧ Below w.heap.size w w'
def RefAllPost (w : World) (F S W : Int) (n : Nat) (e : Ending) (w' : World) : Prop := if n ≤ 65536 then RefWinsPost w (wins F S W n) 0 e w' else RefWinsPost w [] 3 e w'
def SP (w : World) (f t : Int) : World := w.alloc (.cells #[.int .i64 f, .int .i64 t] 63)
theorem sp_size (w : World) (f t : Int) : (SP w f t).heap.size = w.heap.size + 1 := by simp [SP]
theorem sp_below (w : World) (f t : Int) : Below w.heap.size w (SP w f t) := (Below.refl _ _).alloc (Nat.le_refl _) _
theorem sp_cells {w w' : World} {f t : Int} (hb : Below (w.heap.size + 1) (SP w f t) w') : w'.cell? ⟨w.heap.size, 0, none⟩ = some (.int .i64 f) ∧ w'.cell? ⟨w.heap.size, 1, none⟩ = some (.int .i64 t) := by
  refine ⟨?_, ?_⟩
  · rw [hb.cell (p := ⟨w.heap.size, 0, none⟩) (by simp)]; simp [SP]
  · rw [hb.cell (p := ⟨w.heap.size, 1, none⟩) (by simp)]; simp [SP]
def RefAllRel (w : World) (f t F S W : Int) (n : Nat) (i v : Value) (wr : World) : Prop :=
  ∃ (k : Nat) (A : Option Addr) (c : Nat) (x : Int), k ≤ n ∧ k ≤ 65536 ∧ x = F + k * S ∧ i = .int .i64 x ∧ v = .slice A k c ∧ wr.ownsRow (w.heap.size + 1) 63 2 (.slice A k c) k (cells2 (wins F S W k)) ∧ Below (w.heap.size + 1) (SP w f t) wr
set_option maxHeartbeats 1000000 in
theorem refAll_core (W S O f t F : Int) (n : Nat) (w : World) (hv : valid W S O) (hf0 : isTime f) (ht : isTime t) (hft : f < t) (hF1 : f - W < F) (hF2 : F ≤ t - 1) (hlt : ∀ k : Nat, F + k * S ≤ t - 1 ↔ k < n)
    (hf : ∀ w : World, Calls Try.prog 33 #[.int .i64 W, .int .i64 S, .int .i64 O, .int .i64 f] w fun e w' => e = .returned (.int .i64 F) ∧ w = w') :
    Calls Try.prog 17 #[.int .i64 W, .int .i64 S, .int .i64 O, .agg #[.int .i64 f, .int .i64 t]] w (RefAllPost w F S W n) := by
  have HV := Lib.hid (fun w => refValid_yes W S O w hv)
  have HT1 := Lib.hid (fun w => reftime_yes f w hf0)
  have HT2 := Lib.hid (fun w => reftime_yes t w ht)
  have HF := Lib.hid hf; clear hf
  have HLT := Lib.hid hlt; clear hlt
  obtain ⟨h1, h2, h3, h4, h5, h6, h7⟩ := hv
  obtain ⟨ht1, ht2⟩ := ht
  obtain ⟨hf1, hf2⟩ := hf0
  have hne : (f == t) = false := by rw [beq_eq_false_iff_ne]; omega
  have hs0 : Below (w.heap.size + 1) (SP w f t) (SP w f t) := Below.refl _ _
  have hsp : SP w f t = w.alloc (.cells #[.int .i64 f, .int .i64 t] 63) := rfl
  have HSP := Lib.hid hsp; clear hsp
  go_enter Try.func17, Try.ntmps17
  go_wp2_with fail
  with_reducible refine (HV.out _).mono ?_
  rintro e w1 ⟨rfl, rfl⟩
  go_wp2_with fail
  with_reducible refine (HT1.out _).mono ?_
  rintro e w1 ⟨rfl, rfl⟩
  go_wp2_with fail
  with_reducible refine (HT2.out _).mono ?_
  rintro e w1 ⟨rfl, rfl⟩
  go_wp2_with fail
  with_reducible refine (HF.out _).mono ?_
  rintro e w1 ⟨rfl, rfl⟩
  go_wp2_with fail
  go_loopw [10, 11] (RefAllRel w f t F S W n) (fun i _ _ => (t + S - intOf i).toNat)
  case atStart => exact ⟨0, none, 0, F, by omega, by omega, by simp, rfl, rfl, World.ownsRow_nil _ _ _ _, hs0⟩
  case round =>
    obtain ⟨k, A, c, x, hk, hk6, hx, rfl, rfl, hown, hbel⟩ := hrel
    have hiff := HLT.out k
    have hm : 0 ≤ (k : Int) * S := Int.mul_nonneg (by omega) (by omega)
    rw [← hx] at hiff
    have hxF : F ≤ x := by omega
    have HX := Lib.hid hx; clear hx hm
    obtain ⟨hc0, hc1⟩ := sp_cells hbel
    have hsz := hbel.size
    rw [sp_size] at hsz
    by_cases hgo : x < t
    · have hkn : k < n := hiff.1 (by omega)
      clear hiff
      by_cases hbig : k = 65536
      · have hb : ((k : Int) == 65536) = true := by rw [beq_iff_eq]; omega
        have HB := Lib.hid hbig; clear hbig
        go_wp2
        go_ret2
        unfold RefAllPost
        rw [if_neg (by have := HB.out; omega)]
        exact ⟨none, 0, rfl, World.ownsRow_nil _ _ _ _, (sp_below w f t).trans (hbel.mono (by omega))⟩
      · have hb : ((k : Int) == 65536) = false := by rw [beq_eq_false_iff_ne]; omega
        go_wp2_with (at_builtin; refine wpList_append_new refSpanElem hown hbel (Nat.le_refl _) (by omega) rfl _ _ rfl [.int .i64 x, .int .i64 (x + W)] rfl rfl rfl (by simp [Value.oneCell']) (by unfold maxLen; omega) (by omega) ?_; intro A1 c1 w3 ho3 hb3 _)
        refine ⟨⟨k + 1, A1, c1, x + S, by omega, by omega, ?_, rfl, rfl, ?_, hb3⟩, by simp [intOf]; omega⟩
        · have := HX.out
          rw [Int.natCast_add, Int.add_mul]; omega
        · rw [wins_succ, cells2_append, ← HX.out]; exact ho3
    · have hkn : ¬ k < n := fun h => hgo (by have := hiff.2 h; omega)
      obtain rfl : k = n := by omega
      clear hiff hkn
      go_wp2
      go_ret2
      have hlen := wins_length F S W k
      unfold RefAllPost
      rw [if_pos hk6]
      exact ⟨A, c, by rw [hlen]; rfl, by rw [hlen]; exact own_less hown (by omega), (sp_below w f t).trans (hbel.mono (by omega))⟩
theorem refAll_yes (W S O f t : Int) (w : World) (h : allOk W S O f t) (hft : f < t) :
    Calls Try.prog 17 #[.int .i64 W, .int .i64 S, .int .i64 O, .agg #[.int .i64 f, .int .i64 t]] w (RefAllPost w (firstW W S O f) S W (countW (firstW W S O f) S (t - 1))) := by
  obtain ⟨hv, hf, ht, hle⟩ := h
  obtain ⟨h1, h2, h3, h4, h5, h6, h7⟩ := id hv
  have hF := firstW_bd (W := W) (S := S) (O := O) (t := f) (by omega)
  exact refAll_core W S O f t _ _ w hv hf ht hft hF.1 (by omega) (fun k => count_lt _ S (t - 1) k (by omega) (by omega)) (fun w => refFirst_any W S O f w hv hf)
theorem refAll_none (W S O f t : Int) (w : World) (k : Int) (h : (allOk W S O f t ∧ f = t ∧ k = 0) ∨ (¬ allOk W S O f t ∧ k = 2)) (hW : -9223372036854775808 ≤ W ∧ W ≤ 9223372036854775807) (hS : -9223372036854775808 ≤ S ∧ S ≤ 9223372036854775807) (hO : -9223372036854775808 ≤ O ∧ O ≤ 9223372036854775807) :
    Calls Try.prog 17 #[.int .i64 W, .int .i64 S, .int .i64 O, .agg #[.int .i64 f, .int .i64 t]] w (RefWinsPost w [] k) := by
  have fin : ∀ (e : Ending) (w' : World), e = .returned (.tuple #[.slice none 0 0, .int .i64 k]) → Below (w.heap.size + 1) (SP w f t) w' → RefWinsPost w [] k e w' := fun e w' he hb => by
    subst he
    exact ⟨none, 0, rfl, World.ownsRow_nil _ _ _ _, (sp_below w f t).trans (hb.mono (by omega))⟩
  have FIN := Lib.hid fin; clear fin
  have hs0 : Below (w.heap.size + 1) (SP w f t) (SP w f t) := Below.refl _ _
  by_cases hv : valid W S O
  · have HV := Lib.hid (fun w => refValid_yes W S O w hv)
    by_cases hf : isTime f
    · have HT1 := Lib.hid (fun w => reftime_yes f w hf)
      by_cases ht : isTime t
      · have HT2 := Lib.hid (fun w => reftime_yes t w ht)
        by_cases hlt : t < f
        · have hk : k = 2 := by
            rcases h with ⟨ho, _, _⟩ | ⟨_, h⟩
            · have := ho.2.2.2; omega
            · exact h
          subst hk
          clear h
          go_enter Try.func17, Try.ntmps17
          go_wp2_with fail
          with_reducible refine (HV.out _).mono ?_
          rintro e w1 ⟨rfl, rfl⟩
          go_wp2_with fail
          with_reducible refine (HT1.out _).mono ?_
          rintro e w1 ⟨rfl, rfl⟩
          go_wp2_with fail
          with_reducible refine (HT2.out _).mono ?_
          rintro e w1 ⟨rfl, rfl⟩
          go_wp2
          go_ret2
          exact FIN.out _ _ rfl hs0
        · have hk : k = 0 ∧ f = t := by
            rcases h with ⟨_, h1, h2⟩ | ⟨h1, _⟩
            · exact ⟨h2, h1⟩
            · exact absurd ⟨hv, hf, ht, by omega⟩ h1
          obtain ⟨rfl, hft⟩ := hk
          have hbe : (f == t) = true := by simp [hft]
          have hbe2 : decide (t < f) = false := by simp; omega
          have HFT := Lib.hid hft; clear hft
          clear h hlt
          go_enter Try.func17, Try.ntmps17
          go_wp2_with fail
          with_reducible refine (HV.out _).mono ?_
          rintro e w1 ⟨rfl, rfl⟩
          go_wp2_with fail
          with_reducible refine (HT1.out _).mono ?_
          rintro e w1 ⟨rfl, rfl⟩
          go_wp2_with fail
          with_reducible refine (HT2.out _).mono ?_
          rintro e w1 ⟨rfl, rfl⟩
          go_wp2
          go_ret2
          exact FIN.out _ _ rfl hs0
      · have hk : k = 2 := by
          rcases h with ⟨ho, _, _⟩ | ⟨_, h⟩
          · exact absurd ho.2.2.1 ht
          · exact h
        subst hk
        have HT2 := Lib.hid (fun w => reftime_no t w ht)
        clear h
        go_enter Try.func17, Try.ntmps17
        go_wp2_with fail
        with_reducible refine (HV.out _).mono ?_
        rintro e w1 ⟨rfl, rfl⟩
        go_wp2_with fail
        with_reducible refine (HT1.out _).mono ?_
        rintro e w1 ⟨rfl, rfl⟩
        go_wp2_with fail
        with_reducible refine (HT2.out _).mono ?_
        rintro e w1 ⟨rfl, rfl⟩
        go_wp2
        go_ret2
        exact FIN.out _ _ rfl hs0
    · have hk : k = 2 := by
        rcases h with ⟨ho, _, _⟩ | ⟨_, h⟩
        · exact absurd ho.2.1 hf
        · exact h
      subst hk
      have HT1 := Lib.hid (fun w => reftime_no f w hf)
      clear h
      go_enter Try.func17, Try.ntmps17
      go_wp2_with fail
      with_reducible refine (HV.out _).mono ?_
      rintro e w1 ⟨rfl, rfl⟩
      go_wp2_with fail
      with_reducible refine (HT1.out _).mono ?_
      rintro e w1 ⟨rfl, rfl⟩
      go_wp2
      go_ret2
      exact FIN.out _ _ rfl hs0
  · have hk : k = 2 := by
      rcases h with ⟨ho, _, _⟩ | ⟨_, h⟩
      · exact absurd ho.1 hv
      · exact h
    subst hk
    have HV := Lib.hid (fun w => refValid_no W S O w hv hW hS hO)
    clear h hv
    go_enter Try.func17, Try.ntmps17
    go_wp2_with fail
    with_reducible refine (HV.out _).mono ?_
    rintro e w1 ⟨rfl, rfl⟩
    go_wp2
    go_ret2
    exact FIN.out _ _ rfl hs0
end Go.Proofs.Ytljepnonigjcbaa

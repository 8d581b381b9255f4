/- Contracts of the functions of the package window that tell windows. -/
import Derived.Test.YtljepnonigjcbaaProg
import Derived.Test.YtljepnonigjcbaaWordDiv
import Derived.Test.YtljepnonigjcbaaMem
import Derived.Test.YtljepnonigjcbaaWinMath
import Derived.WalkKit
import Derived.WalkLawsBesides
import Derived.KernelRfl
import Derived.Deep.QuietTactic
import Derived.BigQuiet
import Derived.Deep.RegionHeld3
import Derived.Deep.AppendLies
namespace Go.Proofs.Ytljepnonigjcbaa
open Go.RowKit
set_option linter.unusedVariables false


theorem valid_yes (W S O : Int) (w : World) (h : valid W S O) :
    Calls Try.prog 21 #[.agg #[.int .i64 W, .int .i64 S, .int .i64 O]] w fun e w' => e = .returned (.bool true) ∧ Below w.heap.size w w' := by
  obtain ⟨h1, h2, h3, h4, h5, h6, h7⟩ := h
  go_enter Try.func21, Try.ntmps21
  go_wp2
  go_ret
  exact ⟨by first | rfl | exact ret_bool (by simp; omega), (Below.refl _ _).alloc (Nat.le_refl _) _⟩
theorem valid_no (W S O : Int) (w : World) (h : ¬ valid W S O) :
    Calls Try.prog 21 #[.agg #[.int .i64 W, .int .i64 S, .int .i64 O]] w fun e w' => e = .returned (.bool false) ∧ Below w.heap.size w w' := by
  by_cases h1 : 1 ≤ W
  · by_cases h2 : W ≤ 1099511627776
    · by_cases h3 : 1 ≤ S
      · by_cases h4 : S ≤ W
        · by_cases h5 : W ≤ 64 * S
          · by_cases h6 : 0 ≤ O
            · by_cases h7 : O < S
              · exact absurd ⟨h1, h2, h3, h4, h5, h6, h7⟩ h
              · clear h
                go_enter Try.func21, Try.ntmps21
                go_wp2
                go_ret
                exact ⟨by first | rfl | exact ret_bool (by simp; omega), (Below.refl _ _).alloc (Nat.le_refl _) _⟩
            · clear h
              go_enter Try.func21, Try.ntmps21
              go_wp2
              go_ret
              exact ⟨by first | rfl | exact ret_bool (by simp; omega), (Below.refl _ _).alloc (Nat.le_refl _) _⟩
          · clear h
            go_enter Try.func21, Try.ntmps21
            go_wp2
            go_ret
            exact ⟨by first | rfl | exact ret_bool (by simp; omega), (Below.refl _ _).alloc (Nat.le_refl _) _⟩
        · clear h
          go_enter Try.func21, Try.ntmps21
          go_wp2
          go_ret
          exact ⟨by first | rfl | exact ret_bool (by simp; omega), (Below.refl _ _).alloc (Nat.le_refl _) _⟩
      · clear h
        go_enter Try.func21, Try.ntmps21
        go_wp2
        go_ret
        exact ⟨by first | rfl | exact ret_bool (by simp; omega), (Below.refl _ _).alloc (Nat.le_refl _) _⟩
    · clear h
      go_enter Try.func21, Try.ntmps21
      go_wp2
      go_ret
      exact ⟨by first | rfl | exact ret_bool (by simp; omega), (Below.refl _ _).alloc (Nat.le_refl _) _⟩
  · clear h
    go_enter Try.func21, Try.ntmps21
    go_wp2
    go_ret
    exact ⟨by first | rfl | exact ret_bool (by simp; omega), (Below.refl _ _).alloc (Nat.le_refl _) _⟩
theorem last_any (W S O t : Int) (w : World) (hS : 0 < S) (hS1 : S ≤ 1099511627776) (hO : 0 ≤ O) (hO1 : O < S) (ht : -2305843009213693952 ≤ t) (ht1 : t ≤ 2305843009213693952) :
    Calls Try.prog 24 #[.agg #[.int .i64 W, .int .i64 S, .int .i64 O], .int .i64 t] w fun e w' => e = .returned (.int .i64 (t - (t - O) % S)) ∧ Below w.heap.size w w' := by
  have hm := Int.emod_nonneg (t - O) (show S ≠ 0 by omega)
  have hm1 := Int.emod_lt_of_pos (t - O) hS
  go_enter Try.func24, Try.ntmps24
  go_wp2_with (go_at_call 40; refine (mod_ok _ _ _ (by omega) (by omega) (by omega) (by omega)).mono ?_; rintro e w' ⟨rfl, rfl⟩)
  go_ret
  exact ⟨rfl, (Below.refl _ _).alloc (Nat.le_refl _) _⟩
theorem first_any (W S O t : Int) (w : World) (hS : 0 < S) (hS1 : S ≤ 1099511627776) (hO : 0 ≤ O) (hO1 : O < S) (ht : -1152921504606846976 ≤ t) (ht1 : t ≤ 1152921504606846976) (hW : 0 ≤ W) (hW1 : W ≤ 1099511627776) :
    Calls Try.prog 23 #[.agg #[.int .i64 W, .int .i64 S, .int .i64 O], .int .i64 t] w fun e w' => e = .returned (.int .i64 (t - W - (t - W - O) % S + S)) ∧ Below w.heap.size w w' := by
  have hm := Int.emod_nonneg (t - W - O) (show S ≠ 0 by omega)
  have hm1 := Int.emod_lt_of_pos (t - W - O) hS
  have e1 : IntKind.i64.wrap (t - W) = t - W := IntWalk.i64_in _ (by omega)
  have e2 : IntKind.i64.wrap (t - W - (t - W - O) % S + S) = t - W - (t - W - O) % S + S := IntWalk.i64_in _ (by omega)
  go_enter Try.func23, Try.ntmps23
  go_wp2_with fail
  go_region_held3 (fun w' => w'.cell? ⟨w.heap.size, 0, none⟩ = some (.int .i64 W) ∧ w'.cell? ⟨w.heap.size, 1, none⟩ = some (.int .i64 S) ∧ w'.cell? ⟨w.heap.size, 2, none⟩ = some (.int .i64 O))
    (first
      | go_keep
      | (refine ⟨?_, ?_, ?_⟩
         · (rw [hbc.cell (p := ⟨w.heap.size, 0, none⟩) (by simp)]; simp)
         · (rw [hbc.cell (p := ⟨w.heap.size, 1, none⟩) (by simp)]; simp)
         · (rw [hbc.cell (p := ⟨w.heap.size, 2, none⟩) (by simp)]; simp)))
    (first | (go_at_call 24; refine (last_any W S O (t - W) _ hS hS1 hO hO1 (by omega) (by omega)).mono ?_; rintro e w1 ⟨rfl, hbc⟩))
  go_wp2
  go_ret
  exact ⟨rfl, ((Below.refl w.heap.size w).alloc (Nat.le_refl _) _).drew.trans (hbc.mono (by simp))⟩
theorem from1_any (i a W S O : Int) (b1 b2 : Nat) (w : World) (h0 : w.cell? ⟨b1, 0, none⟩ = some (.int .i64 a)) (h1 : w.cell? ⟨b2, 0, none⟩ = some (.int .i64 W)) (h2 : w.cell? ⟨b2, 1, none⟩ = some (.int .i64 S))
    (hp0 : 0 ≤ i * S) (hp1 : i * S ≤ 1152921504606846976) (ha : -2305843009213693952 ≤ a) (ha1 : a ≤ 2305843009213693952) (hW : 0 ≤ W) (hW1 : W ≤ 1099511627776) :
    Calls Try.prog 42 #[.int .i64 i, .pointer (some ⟨b1, 0, none⟩), .pointer (some ⟨b2, 0, none⟩)] w fun e w' => e = .returned (.agg #[.int .i64 (a + i * S), .int .i64 (a + i * S + W)]) ∧ Below w.heap.size w w' := by
  have hb1 : b1 < w.heap.size := World.block_lt_of_cell? w _ h0
  have hb2 : b2 < w.heap.size := World.block_lt_of_cell? w _ h1
  go_enter Try.func42, Try.ntmps42
  go_wp2
  exact bodyPost_ret (v := .agg #[.int .i64 (a + i * S), .int .i64 (a + i * S + W)]) (by simp [results, Try.results42, go_sem]) rfl ⟨rfl, (Below.refl _ _).alloc (Nat.le_refl _) _⟩

theorem winElem : Elem Try.prog 49 52 (.agg #[.int .i64 0, .int .i64 0]) 2 16 := Elem.mk' Try.underlying49 (by kernel_rfl) rfl (by decide)
def ListRel (w : World) (n : Nat) (a S W : Int) (v i : Value) (wr : World) : Prop :=
  ∃ (k : Nat) (A : Option Addr) (c : Nat), k ≤ n ∧ i = .int .i64 k ∧ v = .slice A k c ∧ wr.ownsRow w.heap.size 52 2 (.slice A k c) k (cells2 (wins a S W k)) ∧ Below w.heap.size w wr
def ListPost (w : World) (n : Nat) (a S W : Int) (e : Ending) (w' : World) : Prop :=
  ∃ A c, e = .returned (.slice A n c) ∧ w'.ownsRow w.heap.size 52 2 (.slice A n c) n (cells2 (wins a S W n)) ∧ Below w.heap.size w w'
set_option maxHeartbeats 1000000 in
theorem list_any (n : Nat) (a W S O : Int) (b1 b2 : Nat) (w : World) (h0 : w.cell? ⟨b1, 0, none⟩ = some (.int .i64 a)) (h1 : w.cell? ⟨b2, 0, none⟩ = some (.int .i64 W)) (h2 : w.cell? ⟨b2, 1, none⟩ = some (.int .i64 S))
    (hn : n ≤ 1000000) (hS0 : 0 ≤ S) (hS : S ≤ 1099511627776) (ha : -2305843009213693952 ≤ a) (ha1 : a ≤ 2305843009213693952) (hW : 0 ≤ W) (hW1 : W ≤ 1099511627776) :
    Calls Try.prog 41 #[.int .i64 n, .func (.func 42) #[] #[.pointer (some ⟨b1, 0, none⟩), .pointer (some ⟨b2, 0, none⟩)]] w (ListPost w n a S W) := by
  have hb1 : b1 < w.heap.size := World.block_lt_of_cell? w _ h0
  have hb2 : b2 < w.heap.size := World.block_lt_of_cell? w _ h1
  have H0 := Lib.hid h0; clear h0
  have H1 := Lib.hid h1; clear h1
  have H2 := Lib.hid h2; clear h2
  go_enter Try.func41, Try.ntmps41
  go_wp2
  go_loopw [5, 8] (ListRel w n a S W) (fun _ i _ => n - (intOf i).toNat)
  case atStart => exact ⟨0, none, 0, by omega, rfl, rfl, World.ownsRow_nil _ _ _ _, Below.refl _ _⟩
  case round =>
    obtain ⟨k, A, c, hk, rfl, rfl, hown, hbel⟩ := hrel
    by_cases hlt : k < n
    · have hp0 : 0 ≤ (k : Int) * S := Int.mul_nonneg (by omega) hS0
      have hp1 : (k : Int) * S ≤ 1152921504606846976 := by
        have : (k : Int) * S ≤ 1000000 * 1099511627776 := Int.mul_le_mul (by omega) hS hS0 (by omega)
        omega
      have hc := from1_any k a W S O b1 b2 wr ((hbel.cell (p := ⟨b1, 0, none⟩) hb1).trans H0.out) ((hbel.cell (p := ⟨b2, 0, none⟩) hb2).trans H1.out) ((hbel.cell (p := ⟨b2, 1, none⟩) hb2).trans H2.out) hp0 hp1 ha ha1 hW hW1
      have HC := Lib.hid hc; clear hc
      have hsz := hbel.size
      go_wp2_with fail
      with_reducible refine HC.out.mono ?_
      rintro e w2 ⟨rfl, hb2⟩
      have hown2 := own_below hown hb2
      have hbel2 := hbel.trans (hb2.mono hbel.size)
      have hsz2 := hbel2.size
      go_wp2_with (at_builtin; refine wpList_append_new winElem hown2 hbel2 (Nat.le_refl _) (by omega) rfl _ _ rfl [.int .i64 (a + k * S), .int .i64 (a + k * S + W)] rfl rfl rfl (by simp [Value.oneCell']) (by unfold maxLen; omega) (by omega) ?_; intro A1 c1 w3 ho3 hb3 _)
      refine ⟨⟨k + 1, A1, c1, by omega, by go_num, rfl, ?_, hb3⟩, by simp [intOf]; omega⟩
      rw [wins_succ, cells2_append]; exact ho3
    · obtain rfl : k = n := by omega
      go_wp2
      go_ret
      exact ⟨A, c, rfl, hown, hbel⟩
theorem from_any (a : Int) (n : Nat) (W S O : Int) (w : World) (hn : n ≤ 1000000) (hS0 : 0 ≤ S) (hS : S ≤ 1099511627776) (ha : -2305843009213693952 ≤ a) (ha1 : a ≤ 2305843009213693952) (hW : 0 ≤ W) (hW1 : W ≤ 1099511627776) :
    Calls Try.prog 25 #[.agg #[.int .i64 W, .int .i64 S, .int .i64 O], .int .i64 a, .int .i64 n] w (ListPost w n a S W) := by
  have HC := Lib.hid (list_any n a W S O (w.heap.size + 1) w.heap.size ((w.alloc (.cells #[.int .i64 W, .int .i64 S, .int .i64 O] 24)).alloc (.cells #[.int .i64 a] 3)) (by simp) (by simp) (by simp) hn hS0 hS ha ha1 hW hW1)
  go_enter Try.func25, Try.ntmps25
  go_wp2_with fail
  with_reducible refine HC.out.mono ?_
  rintro e w2 ⟨A, c, rfl, ho, hb⟩
  have hbb : Below w.heap.size w w2 := (((Below.refl _ _).alloc (Nat.le_refl _) _).alloc (by simp) _).trans (hb.mono (by simp; omega))
  have hoo : w2.ownsRow w.heap.size 52 2 (.slice A n c) n (cells2 (wins a S W n)) := by
    refine ⟨ho.1, ?_⟩
    rcases ho.2 with h | ⟨g, cap, cur, h1, h2, h3⟩
    · exact .inl h
    · exact .inr ⟨g, cap, cur, h1, by simp at h2; omega, h3⟩
  go_wp2
  go_ret
  exact ⟨A, c, rfl, hoo, hbb⟩
end Go.Proofs.Ytljepnonigjcbaa

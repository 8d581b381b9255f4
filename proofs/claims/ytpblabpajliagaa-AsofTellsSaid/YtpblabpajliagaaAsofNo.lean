/- asof.Join of lists that may not be joined: no pairs, an error. -/
import Derived.Test.YtpblabpajliagaaAsofJoin
namespace Go.Proofs.Ytpblabpajliagaa
open Go.RowKit
set_option linter.unusedVariables false

set_option maxHeartbeats 1000000 in
theorem join_no (A B : Option Addr) (n ca m cb : Nat) (a b : Nat → Pt) (tol : Int) (w : World) (hA : Pts w A n a) (hB : Pts w B m b) (hn : n ≤ 1000000) (hm : m ≤ 1000000) (h : ¬ joinOk n a m b tol) :
    Calls Try.prog 6 #[.slice A n ca, .slice B m cb, .int .i64 tol] w (JoinPost w [] 2) := by
  have HA := Lib.hid hA
  have HB := Lib.hid hB
  clear hA hB
  obtain ⟨W1, hW1⟩ : ∃ W1, W1 = (w.alloc (.cells #[.slice B m cb] 22)).alloc (.cells #[.int .i64 tol] 3) := ⟨_, rfl⟩
  have hb1 : Below w.heap.size w W1 := by rw [hW1]; exact ((Below.refl _ _).alloc (Nat.le_refl _) _).alloc (by simp) _
  have hs1 : W1.heap.size = w.heap.size + 2 := by rw [hW1]; simp
  have hc1 : W1.cell? ⟨w.heap.size, 0, none⟩ = some (.slice B m cb) := by rw [hW1]; simp
  have hc2 : W1.cell? ⟨w.heap.size + 1, 0, none⟩ = some (.int .i64 tol) := by rw [hW1]; simp
  have HW1 := Lib.hid hW1; clear hW1
  have HS1 := Lib.hid hs1; clear hs1
  have HC1 := Lib.hid hc1; clear hc1
  have HC2 := Lib.hid hc2; clear hc2
  by_cases hra : rises n a
  · have HRA := Lib.hid (fun w hA => rising_any A n ca a w hA hn true (by simpa using hra))
    by_cases hrb : rises m b
    · have HRB := Lib.hid (fun w hB => rising_any B m cb b w hB hm true (by simpa using hrb))
      have ht : tol < 0 ∨ 1152921504606846976 < tol := by
        rcases Int.lt_or_le tol 0 with h1 | h1
        · exact .inl h1
        · rcases Int.lt_or_le 1152921504606846976 tol with h2 | h2
          · exact .inr h2
          · exact absurd ⟨hra, hrb, h1, h2⟩ h
      clear h hra hrb
      rcases ht with ht | ht
      all_goals
        go_enter Try.func6, Try.ntmps6
        go_wp2_with fail
        rw [← HW1.out]
        go_step3
        go_wp2_with fail
        with_reducible refine (HRA.out W1 (HA.out.below hb1)).mono ?_
        rintro e w2 ⟨rfl, hb2⟩
        have hb2' := bel_step hb1 (Nat.le_refl _) hb2
        have hs1 := HS1.out
        have d1 : w2.cell? ⟨w.heap.size, 0, none⟩ = some (.slice B m cb) := (hb2.cell (p := ⟨w.heap.size, 0, none⟩) (by simp; omega)).trans HC1.out
        go_wp2_with fail
        with_reducible refine (HRB.out w2 (HB.out.below hb2')).mono ?_
        rintro e w3 ⟨rfl, hb3⟩
        have hs2 := hb2.size
        have hs3 := hb3.size
        have hb3' := bel_step hb2' (Nat.le_refl _) hb3
        have hb13 := bel_step hb2 (Nat.le_refl _) hb3
        have d3 : w3.cell? ⟨w.heap.size + 1, 0, none⟩ = some (.int .i64 tol) := (hb13.cell (p := ⟨w.heap.size + 1, 0, none⟩) (by simp; omega)).trans HC2.out
        clear d1 hb2 hb3 hb2' hb13 hb1 HRA HRB HA HB hs1 hs2 hs3 HS1 HC1 HC2 HW1
        go_wp2
        rw [Exit.noGoto_ret]
        go_ret2
        exact ⟨none, 0, rfl, World.ownsRow_nil _ _ _ _, hb3'⟩
    · have HRB := Lib.hid (fun w hB => rising_any B m cb b w hB hm false (by simpa using hrb))
      clear h hra hrb
      go_enter Try.func6, Try.ntmps6
      go_wp2_with fail
      rw [← HW1.out]
      go_step3
      go_wp2_with fail
      with_reducible refine (HRA.out W1 (HA.out.below hb1)).mono ?_
      rintro e w2 ⟨rfl, hb2⟩
      have hb2' := bel_step hb1 (Nat.le_refl _) hb2
      have hs1 := HS1.out
      have d1 : w2.cell? ⟨w.heap.size, 0, none⟩ = some (.slice B m cb) := (hb2.cell (p := ⟨w.heap.size, 0, none⟩) (by simp; omega)).trans HC1.out
      go_wp2_with fail
      with_reducible refine (HRB.out w2 (HB.out.below hb2')).mono ?_
      rintro e w3 ⟨rfl, hb3⟩
      have hb3' := bel_step hb2' (Nat.le_refl _) hb3
      clear d1 hb2 hb3 hb2' hb1 HRA HRB HA HB hs1 HS1 HC1 HC2 HW1
      go_wp2
      rw [Exit.noGoto_ret]
      go_ret2
      exact ⟨none, 0, rfl, World.ownsRow_nil _ _ _ _, hb3'⟩
  · have HRA := Lib.hid (fun w hA => rising_any A n ca a w hA hn false (by simpa using hra))
    clear h hra
    go_enter Try.func6, Try.ntmps6
    go_wp2_with fail
    rw [← HW1.out]
    go_step3
    go_wp2_with fail
    with_reducible refine (HRA.out W1 (HA.out.below hb1)).mono ?_
    rintro e w2 ⟨rfl, hb2⟩
    have hb2' := bel_step hb1 (Nat.le_refl _) hb2
    clear hb2 hb1 HRA HA HB HS1 HC1 HC2 HW1
    go_wp2
    rw [Exit.noGoto_ret]
    go_ret2
    exact ⟨none, 0, rfl, World.ownsRow_nil _ _ _ _, hb2'⟩
instance (n : Nat) (a : Nat → Pt) : Decidable (rises n a) := by unfold rises; exact inferInstance
instance (n : Nat) (a : Nat → Pt) (m : Nat) (b : Nat → Pt) (tol : Int) : Decidable (joinOk n a m b tol) := by unfold joinOk; exact inferInstance
/-- what Join tells: its pairs, its error -/
def joinR (n : Nat) (a : Nat → Pt) (m : Nat) (b : Nat → Pt) (tol : Int) : List Pr := if joinOk n a m b tol then joinL a b m tol n else []
def joinE (n : Nat) (a : Nat → Pt) (m : Nat) (b : Nat → Pt) (tol : Int) : Int := if joinOk n a m b tol then 0 else 2
theorem join_any (A B : Option Addr) (n ca m cb : Nat) (a b : Nat → Pt) (tol : Int) (w : World) (hA : Pts w A n a) (hB : Pts w B m b) (hn : n ≤ 1000000) (hm : m ≤ 1000000) :
    Calls Try.prog 6 #[.slice A n ca, .slice B m cb, .int .i64 tol] w (JoinPost w (joinR n a m b tol) (joinE n a m b tol)) := by
  unfold joinR joinE
  by_cases h : joinOk n a m b tol
  · rw [if_pos h, if_pos h]; exact join_yes A B n ca m cb a b tol w hA hB hn hm h
  · rw [if_neg h, if_neg h]; exact join_no A B n ca m cb a b tol w hA hB hn hm h
end Go.Proofs.Ytpblabpajliagaa

/- tidemillref22.Join of lists that may not be joined; both Joins at once. -/
import Derived.Test.YtpblabpajliagaaAsofRef
namespace Go.Proofs.Ytpblabpajliagaa
open Go.RowKit
set_option linter.unusedVariables false

set_option maxHeartbeats 1000000 in
theorem rjoin_no (A B : Option Addr) (n ca m cb : Nat) (a b : Nat → Pt) (tol : Int) (w : World) (hA : Pts w A n a) (hB : Pts w B m b) (hn : n ≤ 1000000) (hm : m ≤ 1000000) (h : ¬ joinOk n a m b tol) :
    Calls Try.prog 7 #[.slice A n ca, .slice B m cb, .int .i64 tol] w (RJoinPost w [] 2) := by
  have HA := Lib.hid hA
  have HB := Lib.hid hB
  clear hA hB
  by_cases hra : rises n a
  · have HRA := Lib.hid (fun w hA => refRight_any A n ca a w hA hn true (by simpa using hra))
    by_cases hrb : rises m b
    · have HRB := Lib.hid (fun w hB => refRight_any B m cb b w hB hm true (by simpa using hrb))
      have ht : tol < 0 ∨ 1152921504606846976 < tol := by
        rcases Int.lt_or_le tol 0 with h1 | h1
        · exact .inl h1
        · rcases Int.lt_or_le 1152921504606846976 tol with h2 | h2
          · exact .inr h2
          · exact absurd ⟨hra, hrb, h1, h2⟩ h
      clear h hra hrb
      rcases ht with ht | ht
      all_goals
        go_enter Try.func7, Try.ntmps7
        go_wp2_with fail
        with_reducible refine (HRA.out w HA.out).mono ?_
        rintro e w1 ⟨rfl, hb1⟩
        go_wp2_with fail
        with_reducible refine (HRB.out w1 (HB.out.below hb1)).mono ?_
        rintro e w2 ⟨rfl, hb2⟩
        have hb := bel_step hb1 (Nat.le_refl _) hb2
        clear hb1 hb2 HRA HRB HA HB
        go_wp2
        go_ret2
        exact ⟨none, 0, rfl, World.ownsRow_nil _ _ _ _, hb⟩
    · have HRB := Lib.hid (fun w hB => refRight_any B m cb b w hB hm false (by simpa using hrb))
      clear h hra hrb
      go_enter Try.func7, Try.ntmps7
      go_wp2_with fail
      with_reducible refine (HRA.out w HA.out).mono ?_
      rintro e w1 ⟨rfl, hb1⟩
      go_wp2_with fail
      with_reducible refine (HRB.out w1 (HB.out.below hb1)).mono ?_
      rintro e w2 ⟨rfl, hb2⟩
      have hb := bel_step hb1 (Nat.le_refl _) hb2
      clear hb1 hb2 HRA HRB HA HB
      go_wp2
      go_ret2
      exact ⟨none, 0, rfl, World.ownsRow_nil _ _ _ _, hb⟩
  · have HRA := Lib.hid (fun w hA => refRight_any A n ca a w hA hn false (by simpa using hra))
    clear h hra
    go_enter Try.func7, Try.ntmps7
    go_wp2_with fail
    with_reducible refine (HRA.out w HA.out).mono ?_
    rintro e w1 ⟨rfl, hb1⟩
    clear HRA HA HB
    go_wp2
    go_ret2
    exact ⟨none, 0, rfl, World.ownsRow_nil _ _ _ _, hb1⟩
theorem rjoin_any (A B : Option Addr) (n ca m cb : Nat) (a b : Nat → Pt) (tol : Int) (w : World) (hA : Pts w A n a) (hB : Pts w B m b) (hn : n ≤ 1000000) (hm : m ≤ 1000000) :
    Calls Try.prog 7 #[.slice A n ca, .slice B m cb, .int .i64 tol] w (RJoinPost w (joinR n a m b tol) (joinE n a m b tol)) := by
  unfold joinR joinE
  by_cases h : joinOk n a m b tol
  · rw [if_pos h, if_pos h]; exact rjoin_yes A B n ca m cb a b tol w hA hB hn hm h
  · rw [if_neg h, if_neg h]; exact rjoin_no A B n ca m cb a b tol w hA hB hn hm h
end Go.Proofs.Ytpblabpajliagaa

/- tidemillref23.Fill where it tells an error; Same of a list with itself. -/
import Derived.Test.YtljepnonigjcbaaRefFillNo
import Derived.Test.YtljepnonigjcbaaRefFill0
import Derived.Test.YtljepnonigjcbaaRefFill1
import Derived.Test.YtljepnonigjcbaaRefFill2
import Derived.Test.YtljepnonigjcbaaRefFill3
namespace Go.Proofs.Ytljepnonigjcbaa
open Go Go.RowKit
set_option linter.unusedVariables false

set_option maxRecDepth 100000 in
set_option maxHeartbeats 2000000 in
theorem rfill_bad (A : Option Addr) (R : List Rw) (c : Nat) (W S O fr to_ how : Int) (L : List (Int × Int)) (k : Int) (hk : k ≠ 0) (w : World)
    (hall : ∀ w, Calls Try.prog 17 #[.int .i64 W, .int .i64 S, .int .i64 O, .agg #[.int .i64 fr, .int .i64 to_]] w (RefPairs w L k)) :
    Calls Try.prog 7 #[.slice A R.length c, .int .i64 W, .int .i64 S, .int .i64 O, .int .i64 fr, .int .i64 to_, .int .i64 how] w (FillPost w [] k) := by
  have hk' : (k == 0) = false := by simpa using hk
  have HALL := Lib.hid hall; clear hall
  go_enter Try.func7, Try.ntmps7
  go_wp2_with fail
  with_reducible refine (HALL.out _).mono ?_
  rintro e w1 ⟨A1, c1, rfl, hp, hb1⟩
  clear hp
  go_wp2_with fail
  go_ret2
  exact ⟨none, 0, rfl, Cells.zero _ _ _, fun _ => rfl, by decide, by decide, hb1⟩
set_option maxRecDepth 100000 in
set_option maxHeartbeats 2000000 in
theorem rfill_how (A : Option Addr) (R : List Rw) (c : Nat) (W S O fr to_ how : Int) (L : List (Int × Int)) (hh : ¬ (0 ≤ how ∧ how ≤ 3)) (w : World)
    (hall : ∀ w, Calls Try.prog 17 #[.int .i64 W, .int .i64 S, .int .i64 O, .agg #[.int .i64 fr, .int .i64 to_]] w (RefPairs w L 0)) :
    Calls Try.prog 7 #[.slice A R.length c, .int .i64 W, .int .i64 S, .int .i64 O, .int .i64 fr, .int .i64 to_, .int .i64 how] w (FillPost w [] 2) := by
  have HALL := Lib.hid hall; clear hall
  rcases (show how < 0 ∨ (¬ how < 0 ∧ 3 < how) by omega) with h | ⟨h, h'⟩
  all_goals
    clear hh
    go_enter Try.func7, Try.ntmps7
    go_wp2_with fail
    with_reducible refine (HALL.out _).mono ?_
    rintro e w1 ⟨A1, c1, rfl, hp, hb1⟩
    clear hp
    go_wp2_with fail
    go_ret2
    exact ⟨none, 0, rfl, Cells.zero _ _ _, fun _ => rfl, by decide, by decide, hb1⟩
def SameRel (W : World) (n : Nat) (v5 : Value) (wr : World) : Prop := ∃ k nn : Nat, k ≤ n ∧ v5 = .int .i64 k ∧ wr = W.drewN nn
set_option maxHeartbeats 1000000 in
theorem rsame_any (A B : Option Addr) (R : List Rw) (c d : Nat) (w : World) (ha : RowsAt w A R) (hb : RowsAt w B R) (hn : R.length ≤ 9223372036854775807) :
    Calls Try.prog 8 #[.slice A R.length c, .slice B R.length d] w fun e w' => e = .returned (.bool true) ∧ Below w.heap.size w w' := by
  have HA := Lib.hid ha; have HB := Lib.hid hb; clear ha hb
  have hne : ((R.length : Int) != R.length) = false := by simp
  go_enter Try.func8, Try.ntmps8
  go_wp2_with fail
  go_loopw [5] (SameRel w R.length) (fun i _ => R.length - (intOf i).toNat)
  case atStart => exact ⟨0, 0, by omega, rfl, rfl⟩
  case round =>
    obtain ⟨k, nn, hk, rfl, rfl⟩ := hrel
    by_cases hlt : k < R.length
    · obtain ⟨ba, fa, rfl, hba, hca⟩ := HA.out (by omega)
      obtain ⟨a0, a1, a2, a3, a4⟩ := RowsAt.at_ hca (i := k) hlt
      obtain ⟨bb, fb, rfl, hbb, hcb⟩ := HB.out (by omega)
      obtain ⟨b0, b1, b2, b3, b4⟩ := RowsAt.at_ hcb (i := k) hlt
      obtain ⟨P, hP⟩ : ∃ P, P = R.getD k rw0 := ⟨_, rfl⟩
      rw [← hP] at a0 a1 a2 a3 a4 b0 b1 b2 b3 b4
      clear hP hca hcb HA HB
      have i0 : (0 : Int) ≤ (k : Int) := Int.natCast_nonneg _
      have i1 : (k : Int) < (R.length : Int) := by omega
      go_wp2_with fail
      go_quiet (fail)
      go_wp2_with fail
      exact ⟨⟨k + 1, _, by omega, by go_num, by first | rfl | (simp only [World.drewN_drewN]; rfl)⟩, by simp [intOf]; omega⟩
    · obtain rfl : k = R.length := by omega
      go_wp2_with fail
      go_ret
      exact ⟨rfl, bel_drewN (Below.refl _ _) _⟩
end Go.Proofs.Ytljepnonigjcbaa

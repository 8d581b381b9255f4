/- Contracts of asof.isTime and asof.rising. -/
import Derived.Test.YtpblabpajliagaaProg
import Derived.Test.YtpblabpajliagaaPoints
import Derived.WalkKit
import Derived.WalkLawsBesides
import Derived.KernelRfl
import Derived.Deep.QuietTactic
import Derived.BigQuiet
import Derived.Deep.AppendLies
import Derived.Deep.RegionHeld3
namespace Go.Proofs.Ytpblabpajliagaa
open Go.RowKit
set_option linter.unusedVariables false

theorem asofTime_yes (t : Int) (w : World) (h : isTime t) :
    Calls Try.prog 19 #[.int .i64 t] w fun e w' => e = .returned (.bool true) ∧ w = w' := by
  obtain ⟨h1, h2⟩ := h
  go_enter Try.func19, Try.ntmps19
  go_wp2
  go_ret
  exact ⟨by first | rfl | exact ret_bool (by simp; omega), rfl⟩
theorem asofTime_no (t : Int) (w : World) (h : ¬ isTime t) :
    Calls Try.prog 19 #[.int .i64 t] w fun e w' => e = .returned (.bool false) ∧ w = w' := by
  by_cases h1 : -1152921504606846976 ≤ t
  · have h2 : ¬ t ≤ 1152921504606846976 := fun h2 => h ⟨h1, h2⟩
    clear h
    go_enter Try.func19, Try.ntmps19
    go_wp2
    go_ret
    exact ⟨by first | rfl | exact ret_bool (by simp; omega), rfl⟩
  · clear h
    go_enter Try.func19, Try.ntmps19
    go_wp2
    go_ret
    exact ⟨by first | rfl | exact ret_bool (by simp; omega), rfl⟩
theorem quiet_of {f : FuncId} {args : Array Value} {w : World} {v : Value} (h : Calls Try.prog f args w fun e w' => e = .returned v ∧ w = w') : Calls Try.prog f args w fun e w' => e = .returned v ∧ w' = w :=
  h.mono fun _ _ ⟨a, b⟩ => ⟨a, b.symm⟩
set_option maxHeartbeats 1000000 in
theorem rising_any (A : Option Addr) (n c : Nat) (a : Nat → Pt) (w : World) (h : Pts w A n a) (hn : n ≤ 1000000) (ok : Bool) (hok : ok = true ↔ rises n a) :
    Calls Try.prog 11 #[.slice A n c] w fun e w' => e = .returned (.bool ok) ∧ Below w.heap.size w w' := by
  have HO := Lib.hid hok; clear hok
  go_enter Try.func11, Try.ntmps11
  go_wp2
  go_loopw [7] (fun i wr => ∃ k : Nat, k ≤ n ∧ i = .int .i64 k ∧ rises k a ∧ Below w.heap.size w wr) (fun i _ => n - (intOf i).toNat)
  case atStart => exact ⟨0, by omega, rfl, fun i hi => by omega, Below.refl _ _⟩
  case round =>
    obtain ⟨k, hk, rfl, hall, hbel⟩ := hrel
    have HA := Lib.hid hall; clear hall
    by_cases hlt : k < n
    · obtain ⟨b, off, rfl, hb, hc⟩ := h (by omega)
      obtain ⟨q1, q2, q3⟩ := Pts.at_ hc hlt
      have hsz := hbel.size
      have hbne : b < wr.heap.size := by omega
      have c1 : wr.cell? ⟨b, off + k * 3, none⟩ = some (.int .i64 (a k).t) := (hbel.cell (p := ⟨b, off + k * 3, none⟩) hb).trans q1
      have c2 : wr.cell? ⟨b, off + k * 3 + 1, none⟩ = some (.int .i64 (a k).v) := (hbel.cell (p := ⟨b, off + k * 3 + 1, none⟩) hb).trans q2
      have c3 : wr.cell? ⟨b, off + k * 3 + 2, none⟩ = some (.int .i64 (a k).s) := (hbel.cell (p := ⟨b, off + k * 3 + 2, none⟩) hb).trans q3
      clear q1 q2 q3
      have no : ¬ rises n a → Ending.returned (.bool false) = .returned (.bool ok) := fun hno => by
        rcases Bool.eq_false_or_eq_true ok with h | h
        · exact absurd (HO.out.1 h) hno
        · rw [h]
      have NO := Lib.hid no; clear no
      by_cases ht : isTime (a k).t
      · by_cases hk0 : 0 < k
        · obtain ⟨k1, hk1⟩ : ∃ k1, k = k1 + 1 := ⟨k - 1, by omega⟩
          obtain ⟨q1, _, _⟩ := Pts.at_ hc (i := k1) (by omega)
          have c4 : wr.cell? ⟨b, off + k1 * 3, none⟩ = some (.int .i64 (a k1).t) := (hbel.cell (p := ⟨b, off + k1 * 3, none⟩) hb).trans q1
          have ek : IntKind.i64.wrap ((k : Int) - 1) = (k1 : Int) := by rw [hk1]; rw [IntWalk.i64_in _ (by omega)]; omega
          have p0 : (0 : Int) < (k : Int) := by omega
          have p1 : (0 : Int) ≤ (k1 : Int) := by omega
          have p2 : (k1 : Int) < (n : Int) := by omega
          have HK := Lib.hid hk1; clear hk1
          clear hc h q1
          by_cases hf : (a k).t ≤ (a k1).t
          · have d1 : decide ((a k).t ≤ (a k1).t) = true := by simpa using hf
            go_wp2
            go_quiet ((go_at_call 19; exact Calls.quiet_of_same (quiet_of (asofTime_yes _ _ ht))))
            go_wp2
            go_ret
            refine ⟨NO.out (fun hr => ?_), bel_drewN (hbel.alloc hsz _) _⟩
            have := (hr k hlt).2 hk0
            rw [HK.out] at this hf
            simp only [Nat.add_sub_cancel] at this
            omega
          · have d1 : decide ((a k).t ≤ (a k1).t) = false := by simpa using hf
            go_wp2
            go_quiet ((go_at_call 19; exact Calls.quiet_of_same (quiet_of (asofTime_yes _ _ ht))))
            go_wp2
            refine ⟨⟨k + 1, by omega, by go_num, fun i hi => ?_, bel_drewN (hbel.alloc hsz _) _⟩, by simp [intOf]; omega⟩
            rcases Nat.lt_or_ge i k with h | h
            · exact HA.out i h
            · obtain rfl : i = k := by omega
              exact ⟨ht, fun _ => by rw [show i - 1 = k1 by have := HK.out; omega]; omega⟩
        · have hd : decide (0 < (k : Int)) = false := by simp; omega
          clear hc h
          go_wp2
          go_quiet ((go_at_call 19; exact Calls.quiet_of_same (quiet_of (asofTime_yes _ _ ht))))
          go_wp2
          refine ⟨⟨k + 1, by omega, by go_num, fun i hi => ?_, bel_drewN (hbel.alloc hsz _) _⟩, by simp [intOf]; omega⟩
          rcases Nat.lt_or_ge i k with h | h
          · exact HA.out i h
          · obtain rfl : i = k := by omega
            exact ⟨ht, fun h => by omega⟩
      · clear hc h
        go_wp2
        go_quiet ((go_at_call 19; exact Calls.quiet_of_same (quiet_of (asofTime_no _ _ ht))))
        go_wp2
        go_ret
        exact ⟨NO.out (fun hr => ht (hr k hlt).1), bel_drewN (hbel.alloc hsz _) _⟩
    · have e : ok = true := HO.out.2 (fun i hi => HA.out i (by omega))
      have E := Lib.hid e; clear e
      go_wp2
      go_ret
      exact ⟨by rw [E.out]; rfl, hbel⟩
end Go.Proofs.Ytpblabpajliagaa

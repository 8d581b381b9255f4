/- Contracts of window.Fits. -/
import Derived.Test.YtjbdnomnjdpckaaWindowOf
namespace Go.Proofs.Ytjbdnomnjdpckaa
open Go.RowKit
set_option linter.unusedVariables false

/-- windows that are made of whole buckets -/
def fitsW (W S O d o : Int) : Prop := valid W S O ∧ 1 ≤ d ∧ d ≤ 1099511627776 ∧ 0 ≤ o ∧ o < d ∧ W.tmod d = 0 ∧ S.tmod d = 0 ∧ (O - o).tmod d = 0
theorem fitsW_yes (W S O d o : Int) (w : World) (h : fitsW W S O d o) :
    Calls Try.prog 14 #[.agg #[.int .i64 W, .int .i64 S, .int .i64 O], .int .i64 d, .int .i64 o] w fun e w' => e = .returned (.bool true) ∧ Below w.heap.size w w' := by
  obtain ⟨hv, k1, k2, k3, k4, k5, k6, k7⟩ := h
  have HV := Lib.hid (fun w => valid_yes W S O w hv)
  obtain ⟨h1, h2, h3, h4, h5, h6, h7⟩ := hv
  have hdn : ¬ d = 0 := by omega
  have eo : IntKind.i64.wrap (O - o) = O - o := IntWalk.i64_in _ (by omega)
  have k5' : W % d = 0 := by rw [← Int.tmod_eq_emod_of_nonneg (by omega)]; exact k5
  have k6' : S % d = 0 := by rw [← Int.tmod_eq_emod_of_nonneg (by omega)]; exact k6
  go_enter Try.func14, Try.ntmps14
  go_wp2_with fail
  with_reducible refine (HV.out _).mono ?_
  rintro e w1 ⟨rfl, hb1⟩
  simp only [World.size_alloc] at hb1
  have hk1 := kind_cells hb1
  go_wp2
  go_ret
  exact ⟨by first | rfl | exact ret_bool (by simp; omega), ((Below.refl w.heap.size w).alloc (Nat.le_refl _) _).trans (hb1.mono (by omega))⟩
theorem fitsW_no (W S O d o : Int) (w : World) (hd : -9223372036854775808 ≤ d ∧ d ≤ 9223372036854775807) (ho : -9223372036854775808 ≤ o ∧ o ≤ 9223372036854775807) (h : ¬ fitsW W S O d o) :
    Calls Try.prog 14 #[.agg #[.int .i64 W, .int .i64 S, .int .i64 O], .int .i64 d, .int .i64 o] w fun e w' => e = .returned (.bool false) ∧ Below w.heap.size w w' := by
  by_cases hv : valid W S O
  · have HV := Lib.hid (fun w => valid_yes W S O w hv)
    obtain ⟨h1, h2, h3, h4, h5, h6, h7⟩ := id hv
    by_cases k1 : 1 ≤ d
    · by_cases k2 : d ≤ 1099511627776
      · by_cases k3 : 0 ≤ o
        · by_cases k4 : o < d
          · have hdn : ¬ d = 0 := by omega
            have eo : IntKind.i64.wrap (O - o) = O - o := IntWalk.i64_in _ (by omega)
            by_cases k5 : W.tmod d = 0
            · have k5' : W % d = 0 := by rw [← Int.tmod_eq_emod_of_nonneg (by omega)]; exact k5
              by_cases k6 : S.tmod d = 0
              · have k6' : S % d = 0 := by rw [← Int.tmod_eq_emod_of_nonneg (by omega)]; exact k6
                by_cases k7 : (O - o).tmod d = 0
                · exact absurd ⟨hv, k1, k2, k3, k4, k5, k6, k7⟩ h
                · clear h
                  clear hv
                  go_enter Try.func14, Try.ntmps14
                  go_wp2_with fail
                  with_reducible refine (HV.out _).mono ?_
                  rintro e w1 ⟨rfl, hb1⟩
                  simp only [World.size_alloc] at hb1
                  have hk1 := kind_cells hb1
                  go_wp2
                  go_ret
                  exact ⟨by first | rfl | exact ret_bool (by simp; omega), ((Below.refl w.heap.size w).alloc (Nat.le_refl _) _).trans (hb1.mono (by omega))⟩
              · clear h
                have k6' : ¬ S % d = 0 := by rw [← Int.tmod_eq_emod_of_nonneg (by omega)]; exact k6
                clear hv
                go_enter Try.func14, Try.ntmps14
                go_wp2_with fail
                with_reducible refine (HV.out _).mono ?_
                rintro e w1 ⟨rfl, hb1⟩
                simp only [World.size_alloc] at hb1
                have hk1 := kind_cells hb1
                go_wp2
                go_ret
                exact ⟨by first | rfl | exact ret_bool (by simp; omega), ((Below.refl w.heap.size w).alloc (Nat.le_refl _) _).trans (hb1.mono (by omega))⟩
            · clear h
              have k5' : ¬ W % d = 0 := by rw [← Int.tmod_eq_emod_of_nonneg (by omega)]; exact k5
              clear hv
              go_enter Try.func14, Try.ntmps14
              go_wp2_with fail
              with_reducible refine (HV.out _).mono ?_
              rintro e w1 ⟨rfl, hb1⟩
              simp only [World.size_alloc] at hb1
              have hk1 := kind_cells hb1
              go_wp2
              go_ret
              exact ⟨by first | rfl | exact ret_bool (by simp; omega), ((Below.refl w.heap.size w).alloc (Nat.le_refl _) _).trans (hb1.mono (by omega))⟩
          · clear h
            clear hv
            go_enter Try.func14, Try.ntmps14
            go_wp2_with fail
            with_reducible refine (HV.out _).mono ?_
            rintro e w1 ⟨rfl, hb1⟩
            simp only [World.size_alloc] at hb1
            have hk1 := kind_cells hb1
            go_wp2
            go_ret
            exact ⟨by first | rfl | exact ret_bool (by simp; omega), ((Below.refl w.heap.size w).alloc (Nat.le_refl _) _).trans (hb1.mono (by omega))⟩
        · clear h
          clear hv
          go_enter Try.func14, Try.ntmps14
          go_wp2_with fail
          with_reducible refine (HV.out _).mono ?_
          rintro e w1 ⟨rfl, hb1⟩
          simp only [World.size_alloc] at hb1
          have hk1 := kind_cells hb1
          go_wp2
          go_ret
          exact ⟨by first | rfl | exact ret_bool (by simp; omega), ((Below.refl w.heap.size w).alloc (Nat.le_refl _) _).trans (hb1.mono (by omega))⟩
      · clear h
        clear hv
        go_enter Try.func14, Try.ntmps14
        go_wp2_with fail
        with_reducible refine (HV.out _).mono ?_
        rintro e w1 ⟨rfl, hb1⟩
        simp only [World.size_alloc] at hb1
        have hk1 := kind_cells hb1
        go_wp2
        go_ret
        exact ⟨by first | rfl | exact ret_bool (by simp; omega), ((Below.refl w.heap.size w).alloc (Nat.le_refl _) _).trans (hb1.mono (by omega))⟩
    · clear h
      clear hv
      go_enter Try.func14, Try.ntmps14
      go_wp2_with fail
      with_reducible refine (HV.out _).mono ?_
      rintro e w1 ⟨rfl, hb1⟩
      simp only [World.size_alloc] at hb1
      have hk1 := kind_cells hb1
      go_wp2
      go_ret
      exact ⟨by first | rfl | exact ret_bool (by simp; omega), ((Below.refl w.heap.size w).alloc (Nat.le_refl _) _).trans (hb1.mono (by omega))⟩
  · have HV := Lib.hid (fun w => valid_no W S O w hv)
    clear h hv
    go_enter Try.func14, Try.ntmps14
    go_wp2_with fail
    with_reducible refine (HV.out _).mono ?_
    rintro e w1 ⟨rfl, hb1⟩
    simp only [World.size_alloc] at hb1
    have hk1 := kind_cells hb1
    go_wp2
    go_ret
    exact ⟨by first | rfl | exact ret_bool (by simp; omega), ((Below.refl w.heap.size w).alloc (Nat.le_refl _) _).trans (hb1.mono (by omega))⟩
end Go.Proofs.Ytjbdnomnjdpckaa

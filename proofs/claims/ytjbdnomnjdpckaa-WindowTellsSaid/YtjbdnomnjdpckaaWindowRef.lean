/- Contracts of the reference's functions of layer 9 that tell windows. -/
import Derived.Test.YtjbdnomnjdpckaaWindowFits
import Derived.Test.YtjbdnomnjdpckaaWindowRefSess
import Derived.Test.YtjbdnomnjdpckaaRefMod
namespace Go.Proofs.Ytjbdnomnjdpckaa
open Go.RowKit
set_option linter.unusedVariables false

theorem refValid_yes (W S O : Int) (w : World) (h : valid W S O) :
    Calls Try.prog 18 #[.int .i64 W, .int .i64 S, .int .i64 O] w fun e w' => e = .returned (.bool true) ∧ w = w' := by
  obtain ⟨h1, h2, h3, h4, h5, h6, h7⟩ := h
  have hSn : ¬ S = 0 := by omega
  have q1 : (W + S - 1) / S ≤ 64 := by
    have : (W + S - 1) / S < 65 := Int.ediv_lt_of_lt_mul (by omega) (by omega)
    omega
  by_cases he : W = 64 * S
  · have hb : (W == 64 * S) = true := by rw [beq_iff_eq]; exact he
    have q2 : W / S = 64 := by rw [he, Int.mul_ediv_cancel _ (by omega)]
    have HE := Lib.hid he; clear he
    have Q2 := Lib.hid q2
    have q3 : 64 ≤ W / S := by omega
    clear q2
    go_enter Try.func18, Try.ntmps18
    go_wp2
    go_ret
    exact ⟨by first | rfl | exact ret_bool (by simp; have := HE.out; omega), rfl⟩
  · have q2 : W / S < 64 := Int.ediv_lt_of_lt_mul (by omega) (by omega)
    clear he
    go_enter Try.func18, Try.ntmps18
    go_wp2
    go_ret
    exact ⟨by first | rfl | exact ret_bool (by simp; omega), rfl⟩
theorem refValid_no (W S O : Int) (w : World) (h : ¬ valid W S O) (hW : -9223372036854775808 ≤ W ∧ W ≤ 9223372036854775807) (hS : -9223372036854775808 ≤ S ∧ S ≤ 9223372036854775807) (hO : -9223372036854775808 ≤ O ∧ O ≤ 9223372036854775807) :
    Calls Try.prog 18 #[.int .i64 W, .int .i64 S, .int .i64 O] w fun e w' => e = .returned (.bool false) ∧ w = w' := by
  by_cases k1 : 1 ≤ W
  · by_cases k2 : W ≤ 1099511627776
    · by_cases k3 : 1 ≤ S
      · by_cases k4 : S ≤ W
        · by_cases k5 : 0 ≤ O
          · by_cases k6 : O < S
            · have hSn : ¬ S = 0 := by omega
              by_cases k7 : W ≤ 64 * S
              · exact absurd ⟨k1, k2, k3, k4, k7, k5, k6⟩ h
              · clear h
                have q7 : 64 < (W + S - 1) / S := by
                  have : 65 ≤ (W + S - 1) / S := Int.le_ediv_of_mul_le (by omega) (by omega)
                  omega
                go_enter Try.func18, Try.ntmps18
                go_wp2
                go_ret
                exact ⟨by first | rfl | exact ret_bool (by simp; omega), rfl⟩
            · clear h
              go_enter Try.func18, Try.ntmps18
              go_wp2
              go_ret
              exact ⟨by first | rfl | exact ret_bool (by simp; omega), rfl⟩
          · clear h
            go_enter Try.func18, Try.ntmps18
            go_wp2
            go_ret
            exact ⟨by first | rfl | exact ret_bool (by simp; omega), rfl⟩
        · clear h
          go_enter Try.func18, Try.ntmps18
          go_wp2
          go_ret
          exact ⟨by first | rfl | exact ret_bool (by simp; omega), rfl⟩
      · clear h
        go_enter Try.func18, Try.ntmps18
        go_wp2
        go_ret
        exact ⟨by first | rfl | exact ret_bool (by simp; omega), rfl⟩
    · clear h
      go_enter Try.func18, Try.ntmps18
      go_wp2
      go_ret
      exact ⟨by first | rfl | exact ret_bool (by simp; omega), rfl⟩
  · clear h
    go_enter Try.func18, Try.ntmps18
    go_wp2
    go_ret
    exact ⟨by first | rfl | exact ret_bool (by simp; omega), rfl⟩

theorem refFits_yes (W S O d o : Int) (w : World) (h : fitsW W S O d o) :
    Calls Try.prog 19 #[.int .i64 W, .int .i64 S, .int .i64 O, .int .i64 d, .int .i64 o] w fun e w' => e = .returned (.bool true) ∧ w = w' := by
  obtain ⟨hv, k1, k2, k3, k4, k5, k6, k7⟩ := h
  have HV := Lib.hid (fun w => refValid_yes W S O w hv)
  obtain ⟨h1, h2, h3, h4, h5, h6, h7⟩ := hv
  have hdn : ¬ d = 0 := by omega
  have eo : IntKind.i64.wrap (O - o) = O - o := IntWalk.i64_in _ (by omega)
  have k5' : W % d = 0 := by rw [← Int.tmod_eq_emod_of_nonneg (by omega)]; exact k5
  have k6' : S % d = 0 := by rw [← Int.tmod_eq_emod_of_nonneg (by omega)]; exact k6
  go_enter Try.func19, Try.ntmps19
  go_wp2_with fail
  with_reducible refine (HV.out _).mono ?_
  rintro e w1 ⟨rfl, rfl⟩
  go_wp2
  go_ret
  exact ⟨by first | rfl | exact ret_bool (by simp; omega), rfl⟩
theorem refFits_no (W S O d o : Int) (w : World) (hW : -9223372036854775808 ≤ W ∧ W ≤ 9223372036854775807) (hS : -9223372036854775808 ≤ S ∧ S ≤ 9223372036854775807) (hO : -9223372036854775808 ≤ O ∧ O ≤ 9223372036854775807) (hd : -9223372036854775808 ≤ d ∧ d ≤ 9223372036854775807) (ho : -9223372036854775808 ≤ o ∧ o ≤ 9223372036854775807) (h : ¬ fitsW W S O d o) :
    Calls Try.prog 19 #[.int .i64 W, .int .i64 S, .int .i64 O, .int .i64 d, .int .i64 o] w fun e w' => e = .returned (.bool false) ∧ w = w' := by
  by_cases hv : valid W S O
  · have HV := Lib.hid (fun w => refValid_yes W S O w hv)
    obtain ⟨h1, h2, h3, h4, h5, h6, h7⟩ := id hv
    by_cases k1 : 1 ≤ d
    · by_cases k2 : d ≤ 1099511627776
      · by_cases k3 : 0 ≤ o
        · by_cases k4 : o < d
          · have hdn : ¬ d = 0 := by omega
            have eo : IntKind.i64.wrap (O - o) = O - o := IntWalk.i64_in _ (by omega)
            by_cases k5 : W.tmod d = 0
            · have k5' : W % d = 0 := by rw [← Int.tmod_eq_emod_of_nonneg (by omega)]; exact k5
              by_cases k6 : S.tmod d = 0
              · have k6' : S % d = 0 := by rw [← Int.tmod_eq_emod_of_nonneg (by omega)]; exact k6
                by_cases k7 : (O - o).tmod d = 0
                · exact absurd ⟨hv, k1, k2, k3, k4, k5, k6, k7⟩ h
                · clear h
                  clear hv
                  go_enter Try.func19, Try.ntmps19
                  go_wp2_with fail
                  with_reducible refine (HV.out _).mono ?_
                  rintro e w1 ⟨rfl, rfl⟩
                  go_wp2
                  go_ret
                  exact ⟨by first | rfl | exact ret_bool (by simp; omega), rfl⟩
              · clear h
                have k6' : ¬ S % d = 0 := by rw [← Int.tmod_eq_emod_of_nonneg (by omega)]; exact k6
                clear hv
                go_enter Try.func19, Try.ntmps19
                go_wp2_with fail
                with_reducible refine (HV.out _).mono ?_
                rintro e w1 ⟨rfl, rfl⟩
                go_wp2
                go_ret
                exact ⟨by first | rfl | exact ret_bool (by simp; omega), rfl⟩
            · clear h
              have k5' : ¬ W % d = 0 := by rw [← Int.tmod_eq_emod_of_nonneg (by omega)]; exact k5
              clear hv
              go_enter Try.func19, Try.ntmps19
              go_wp2_with fail
              with_reducible refine (HV.out _).mono ?_
              rintro e w1 ⟨rfl, rfl⟩
              go_wp2
              go_ret
              exact ⟨by first | rfl | exact ret_bool (by simp; omega), rfl⟩
          · clear h
            clear hv
            go_enter Try.func19, Try.ntmps19
            go_wp2_with fail
            with_reducible refine (HV.out _).mono ?_
            rintro e w1 ⟨rfl, rfl⟩
            go_wp2
            go_ret
            exact ⟨by first | rfl | exact ret_bool (by simp; omega), rfl⟩
        · clear h
          clear hv
          go_enter Try.func19, Try.ntmps19
          go_wp2_with fail
          with_reducible refine (HV.out _).mono ?_
          rintro e w1 ⟨rfl, rfl⟩
          go_wp2
          go_ret
          exact ⟨by first | rfl | exact ret_bool (by simp; omega), rfl⟩
      · clear h
        clear hv
        go_enter Try.func19, Try.ntmps19
        go_wp2_with fail
        with_reducible refine (HV.out _).mono ?_
        rintro e w1 ⟨rfl, rfl⟩
        go_wp2
        go_ret
        exact ⟨by first | rfl | exact ret_bool (by simp; omega), rfl⟩
    · clear h
      clear hv
      go_enter Try.func19, Try.ntmps19
      go_wp2_with fail
      with_reducible refine (HV.out _).mono ?_
      rintro e w1 ⟨rfl, rfl⟩
      go_wp2
      go_ret
      exact ⟨by first | rfl | exact ret_bool (by simp; omega), rfl⟩
  · have HV := Lib.hid (fun w => refValid_no W S O w hv hW hS hO)
    clear h hv
    go_enter Try.func19, Try.ntmps19
    go_wp2_with fail
    with_reducible refine (HV.out _).mono ?_
    rintro e w1 ⟨rfl, rfl⟩
    go_wp2
    go_ret
    exact ⟨by first | rfl | exact ret_bool (by simp; omega), rfl⟩
end Go.Proofs.Ytjbdnomnjdpckaa

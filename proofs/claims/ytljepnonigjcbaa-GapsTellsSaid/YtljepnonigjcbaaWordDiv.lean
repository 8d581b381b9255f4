/- Contracts of word.Div and word.Mod: what each call returns; nothing is changed. -/
import Derived.Test.YtljepnonigjcbaaProg
import Derived.Test.YtljepnonigjcbaaWordMath
import Derived.Test.YtljepnonigjcbaaMem
import Derived.WalkKit
import Derived.WalkLawsBesides
import Derived.Lib.Hide
import Derived.KernelRfl
namespace Go.Proofs.Ytljepnonigjcbaa
open Go.RowKit WordMath
set_option linter.unusedVariables false


theorem div_bad (a b : Int) (w : World) (h : b ≤ 0) :
    Calls Try.prog 55 #[.int .i64 a, .int .i64 b] w fun e w' => e = .returned (.tuple #[.int .i64 0, .bool false]) ∧ w = w' := by
  go_enter Try.func55, Try.ntmps55
  go_wp2
  go_ret2
  exact ⟨rfl, rfl⟩
theorem div_ok (a b : Int) (w : World) (ha0 : -9223372036854775808 ≤ a) (ha1 : a ≤ 9223372036854775807) (hb : 0 < b) (hb1 : b ≤ 9223372036854775807) :
    Calls Try.prog 55 #[.int .i64 a, .int .i64 b] w fun e w' => e = .returned (.tuple #[.int .i64 (a / b), .bool true]) ∧ w = w' := by
  by_cases hn : a < 0
  · have ht := tdiv_mul_in a b hn hb
    have hd := ediv_bd a b ha0 ha1 hb
    by_cases he : a.tdiv b * b = a
    · have H : Hid (a.tdiv b = a / b) := div_even a b hn hb he
      have hb1 : (wrap64 (a.tdiv b * b) != a) = false := by simp only [bne_eq_false_iff_eq]; unfold wrap64; omega
      have H2 := Lib.hid he; clear he
      have H3 := Lib.hid ht; clear ht
      go_enter Try.func55, Try.ntmps55
      go_wp2
      go_ret2
      exact ⟨ret_int_bool H.out, rfl⟩
    · have H : Hid (a.tdiv b - 1 = a / b) := div_down a b hn hb he
      have hb1 : (wrap64 (a.tdiv b * b) != a) = true := by simp only [bne_iff_ne, ne_eq]; unfold wrap64; omega
      have H2 := Lib.hid he; clear he
      have H3 := Lib.hid ht; clear ht
      go_enter Try.func55, Try.ntmps55
      go_wp2
      go_ret2
      exact ⟨ret_int_bool (by have := H.out; first | exact this | (unfold wrap64; omega)), rfl⟩
  · go_enter Try.func55, Try.ntmps55
    go_wp2
    go_ret2
    exact ⟨rfl, rfl⟩
theorem mod_bad (a b : Int) (w : World) (h : b ≤ 0) :
    Calls Try.prog 40 #[.int .i64 a, .int .i64 b] w fun e w' => e = .returned (.tuple #[.int .i64 0, .bool false]) ∧ w = w' := by
  go_enter Try.func40, Try.ntmps40
  go_wp2_with (go_at_call 55; refine (div_bad _ _ _ h).mono ?_; rintro e w' ⟨rfl, rfl⟩)
  go_ret2
  exact ⟨rfl, rfl⟩
theorem mod_ok (a b : Int) (w : World) (ha0 : -9223372036854775808 ≤ a) (ha1 : a ≤ 9223372036854775807) (hb : 0 < b) (hb1 : b ≤ 9223372036854775807) :
    Calls Try.prog 40 #[.int .i64 a, .int .i64 b] w fun e w' => e = .returned (.tuple #[.int .i64 (a % b), .bool true]) ∧ w = w' := by
  go_enter Try.func40, Try.ntmps40
  go_wp2_with (go_at_call 55; refine (div_ok _ _ _ ha0 ha1 hb hb1).mono ?_; rintro e w' ⟨rfl, rfl⟩)
  go_ret2
  exact ⟨ret_int_bool (mod_form a b hb hb1), rfl⟩

end Go.Proofs.Ytljepnonigjcbaa

/- Contracts of the reference's Mod. -/
import Derived.Test.YtljepnonigjcbaaWordDiv
namespace Go.Proofs.Ytljepnonigjcbaa
open Go.RowKit WordMath
set_option linter.unusedVariables false

theorem refMod_bad (a b : Int) (w : World) (h : b ≤ 0) :
    Calls Try.prog 52 #[.int .i64 a, .int .i64 b] w fun e w' => e = .returned (.tuple #[.int .i64 0, .bool false]) ∧ w = w' := by
  go_enter Try.func52, Try.ntmps52
  go_wp2
  go_ret2
  exact ⟨rfl, rfl⟩
theorem refMod_ok (a b : Int) (w : World) (ha0 : -9223372036854775808 ≤ a) (ha1 : a ≤ 9223372036854775807) (hb : 0 < b) (hb1 : b ≤ 9223372036854775807) :
    Calls Try.prog 52 #[.int .i64 a, .int .i64 b] w fun e w' => e = .returned (.tuple #[.int .i64 (a % b), .bool true]) ∧ w = w' := by
  have hd0 := Int.emod_nonneg a (show b ≠ 0 by omega)
  have hd1 := Int.emod_lt_of_pos a hb
  by_cases hn : a < 0
  · by_cases hm : a.tmod b < 0
    · have H := Lib.hid (ref_mod_neg a b hn hb hm)
      go_enter Try.func52, Try.ntmps52
      go_wp2
      go_ret2
      exact ⟨ret_int_bool (by have := H.out; first | omega | (unfold wrap64; omega)), rfl⟩
    · have H := Lib.hid (ref_mod_pos a b hn hb hm)
      go_enter Try.func52, Try.ntmps52
      go_wp2
      go_ret2
      exact ⟨ret_int_bool (by have := H.out; first | omega | (unfold wrap64; omega)), rfl⟩
  · go_enter Try.func52, Try.ntmps52
    go_wp2
    go_ret2
    exact ⟨rfl, rfl⟩
end Go.Proofs.Ytljepnonigjcbaa

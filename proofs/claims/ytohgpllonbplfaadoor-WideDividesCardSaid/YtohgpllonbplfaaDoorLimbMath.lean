/- Numbers modulo 2^128 as eight parts of 16 bits: plain arithmetic. No program in sight. -/
import Derived.Test.YtohgpllonbplfaaDoorWideMath
namespace Go.Proofs.YtohgpllonbplfaaDoor
open Go
set_option linter.unusedVariables false

def qt (v : Int) : Nat → Int
  | 0 => v
  | k + 1 => qt v k / 65536
/-- a part -/
def lb (v : Int) (k : Nat) : Int := qt v k % 65536
theorem lb_bd (v : Int) (k : Nat) : 0 ≤ lb v k ∧ lb v k ≤ 65535 := by unfold lb; omega
/-- what is carried into a part -/
def carry (a b : Int) : Nat → Int
  | 0 => 0
  | k + 1 => (carry a b k + lb a k + lb b k) / 65536
theorem carry_qt (a b : Int) (k : Nat) : qt (a + b) k = qt a k + qt b k + carry a b k := by
  induction k with
  | zero => simp [qt, carry]
  | succ k ih => simp only [qt, carry, ih, lb]; omega
theorem carry_bd (a b : Int) (k : Nat) : 0 ≤ carry a b k ∧ carry a b k ≤ 1 := by
  induction k with
  | zero => simp [carry]
  | succ k ih => have := lb_bd a k; have := lb_bd b k; simp only [carry]; omega
theorem plus_part (a b : Int) (k : Nat) : (carry a b k + lb a k + lb b k) % 65536 = lb (a + b) k := by
  unfold lb; rw [carry_qt]; omega
theorem qt_not (a : Int) (k : Nat) : qt (-1 - a) k = -1 - qt a k := by
  induction k with
  | zero => rfl
  | succ k ih => simp only [qt, ih]; omega
theorem not_part (a : Int) (k : Nat) : 65535 - lb a k = lb (-1 - a) k := by unfold lb; rw [qt_not]; omega
theorem lb_top (a : Int) (h : fits a) : 32768 ≤ lb a 7 ↔ a < 0 := by unfold fits at h; simp only [lb, qt]; omega
/-- the parts of the two halves -/
theorem lb_lo (v : Int) : lb v 0 = loW v % 65536 ∧ lb v 1 = loW v / 65536 % 65536 ∧ lb v 2 = loW v / 4294967296 % 65536 ∧ lb v 3 = loW v / 281474976710656 % 65536 := by
  simp only [lb, qt, loW]; omega
theorem lb_hi (v : Int) : lb v 4 = hiW v % 18446744073709551616 % 65536 ∧ lb v 5 = hiW v % 18446744073709551616 / 65536 % 65536 ∧ lb v 6 = hiW v % 18446744073709551616 / 4294967296 % 65536 ∧ lb v 7 = hiW v % 18446744073709551616 / 281474976710656 % 65536 := by
  simp only [lb, qt, hiW]; omega
theorem whole_lo (v : Int) : ((lb v 3 * 65536 + lb v 2) * 65536 + lb v 1) * 65536 + lb v 0 = loW v := by simp only [lb, qt, loW]; omega
theorem whole_hi (v : Int) : ((lb v 7 * 65536 + lb v 6) * 65536 + lb v 5) * 65536 + lb v 4 = hiW v % 18446744073709551616 := by simp only [lb, qt, hiW]; omega
/-- two numbers with the same parts -/
theorem lb_inj (a b : Int) (ha : fits a) (hb : fits b) (h : ∀ k, k < 8 → lb a k = lb b k) : a = b := by
  have h0 := whole_lo a; have h1 := whole_lo b; have h2 := whole_hi a; have h3 := whole_hi b
  rw [h 0 (by omega), h 1 (by omega), h 2 (by omega), h 3 (by omega)] at h0
  rw [h 4 (by omega), h 5 (by omega), h 6 (by omega), h 7 (by omega)] at h2
  have b1 := hiW_bd a
  have b2 := hiW_bd b
  exact parts_inj a b ha hb (by omega) (by omega)
end Go.Proofs.YtohgpllonbplfaaDoor

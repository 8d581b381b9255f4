/- The contract of math/bits.Div64. -/
import Derived.Test.YtohgpllonbplfaaDoorBitLen
import Derived.Test.YtohgpllonbplfaaDoorKnuth
import Derived.Test.YtohgpllonbplfaaDoorMem
import Derived.Test.YtohgpllonbplfaaDoorWordMath
import Derived.WalkKit
import Derived.WalkLawsBesides
import Derived.KernelRfl
import Derived.Deep.QuietTactic
import Derived.BigQuiet
import Derived.Deep.DeepCutAuto
import Derived.Deep.CutBlock
import Derived.Laws.Bits64b
import Derived.Outline
namespace Go.Proofs.YtohgpllonbplfaaDoor
open Go.RowKit
set_option linter.unusedVariables false

/-- what it tells -/
def DivPost (w : World) (hi lo y : Int) (e : Ending) (w' : World) : Prop := e = .returned (.tuple #[.int .u64 ((hi * 18446744073709551616 + lo) / y), .int .u64 ((hi * 18446744073709551616 + lo) % y)]) ∧ Below w.heap.size w w'
theorem div64_zero (lo y : Int) (w : World) (l0 : 0 ≤ lo) (l1 : lo ≤ 18446744073709551615) (y0 : 0 < y) (y1 : y ≤ 18446744073709551615) :
    Calls Tryd.prog 24 #[.int .u64 0, .int .u64 lo, .int .u64 y] w (DivPost w 0 lo y) := by
  have e0 : (y == 0) = false := by simp; omega
  have b1 : 0 ≤ lo / y := Int.ediv_nonneg l0 (by omega)
  have b2 : lo / y ≤ lo := Int.ediv_le_self _ l0
  have b3 := Int.emod_nonneg lo (show y ≠ 0 by omega)
  have b4 := Int.emod_lt_of_pos lo y0
  go_enter Tryd.func24, Tryd.ntmps24
  go_wp2_with fail
  go_quiet (fail)
  go_wp2
  go_ret2
  exact ⟨by rw [Int.zero_mul, Int.zero_add]; rfl, bel_drewN (Below.refl _ _) _⟩
theorem mask32 (a : Int) (h0 : 0 ≤ a) (h1 : a ≤ 18446744073709551615) : bits .and .u64 a 4294967295 = a % 4294967296 := by
  obtain ⟨X, rfl⟩ := Int.eq_ofNat_of_zero_le h0
  have h := bits_and_u64_nat X 4294967295 (by omega) (by omega)
  have e : X &&& 4294967295 = X % 4294967296 := Nat.and_two_pow_sub_one_eq_mod X 32
  rw [e] at h
  rw [show ((4294967295 : Nat) : Int) = 4294967295 from rfl] at h
  rw [h]; omega
/-- what the shifts come to -/
theorem div_setup (hi lo y : Int) (s : Nat) (hs : s ≤ 63) (h0 : 0 ≤ hi) (h1 : hi < y) (l0 : 0 ≤ lo) (l1 : lo ≤ 18446744073709551615) (hY : y * 2 ^ s ≤ 18446744073709551615) :
    IntKind.u64.wrap (hi * 2 ^ s) = hi * 2 ^ s ∧ bits .or .u64 (hi * 2 ^ s) (lo / 2 ^ (64 - s)) = hi * 2 ^ s + lo / 2 ^ (64 - s) ∧ 0 ≤ hi * 2 ^ s + lo / 2 ^ (64 - s) ∧ hi * 2 ^ s + lo / 2 ^ (64 - s) < y * 2 ^ s ∧
    (hi * 2 ^ s + lo / 2 ^ (64 - s)) * 18446744073709551616 + lo * 2 ^ s % 18446744073709551616 = (hi * 18446744073709551616 + lo) * 2 ^ s := by
  obtain ⟨H, rfl⟩ := Int.eq_ofNat_of_zero_le h0
  obtain ⟨L, rfl⟩ := Int.eq_ofNat_of_zero_le l0
  obtain ⟨Y, rfl⟩ := Int.eq_ofNat_of_zero_le (show 0 ≤ y by omega)
  have hp : 0 < 2 ^ s := Nat.two_pow_pos s
  have hq : 0 < 2 ^ (64 - s) := Nat.two_pow_pos _
  have e64 : 2 ^ 64 = 2 ^ (64 - s) * 2 ^ s := by rw [← Nat.pow_add]; congr 1; omega
  have c1 : ((H : Nat) : Int) * 2 ^ s = ((H * 2 ^ s : Nat) : Int) := by simp
  have c2 : ((L : Nat) : Int) / 2 ^ (64 - s) = ((L / 2 ^ (64 - s) : Nat) : Int) := by simp
  have c3 : ((Y : Nat) : Int) * 2 ^ s = ((Y * 2 ^ s : Nat) : Int) := by simp
  have c4 : ((L : Nat) : Int) * 2 ^ s = ((L * 2 ^ s : Nat) : Int) := by simp
  have hB : L / 2 ^ (64 - s) < 2 ^ s := by rw [Nat.div_lt_iff_lt_mul hq, Nat.mul_comm, ← e64]; omega
  have hHY : (H + 1) * 2 ^ s ≤ Y * 2 ^ s := Nat.mul_le_mul_right _ (by omega)
  rw [Nat.add_mul, Nat.one_mul] at hHY
  have hor : H * 2 ^ s ||| L / 2 ^ (64 - s) = H * 2 ^ s + L / 2 ^ (64 - s) := by
    rw [← Nat.shiftLeft_eq, Nat.shiftLeft_add_eq_or_of_lt hB]
  have hd : L * 2 ^ s / 2 ^ 64 = L / 2 ^ (64 - s) := by rw [e64]; exact Nat.mul_div_mul_right _ _ hp
  have hm := Nat.div_add_mod (L * 2 ^ s) (2 ^ 64)
  rw [hd] at hm
  have e5 : ((H : Int) * 18446744073709551616 + (L : Int)) * 2 ^ s = ((H * 2 ^ s : Nat) : Int) * 18446744073709551616 + ((L * 2 ^ s : Nat) : Int) := by
    rw [Int.add_mul, Int.mul_right_comm, c1, c4]
  rw [c3] at hY
  rw [e5, c1, c2, c3, c4]
  generalize H * 2 ^ s = P at *
  generalize L * 2 ^ s = T at *
  generalize Y * 2 ^ s = Z at *
  generalize L / 2 ^ (64 - s) = B at *
  have ho := bits_or_u64_nat P B (by omega) (by omega)
  rw [hor] at ho
  refine ⟨by rw [IntKind.wrap_u64]; omega, by rw [ho]; simp, by omega, by omega, by omega⟩
/-- a digit's state -/
def DigRel (y1 y0 u u1 : Int) (a b : Value) : Prop := ∃ q r, a = .int .u64 q ∧ b = .int .u64 r ∧ DigInv y1 y0 u u1 q r
theorem dig_prod {y1 y0 u u1 q r : Int} (k : DigOk y1 y0 u u1) (h : DigInv y1 y0 u u1 q r) : 0 ≤ q * y0 ∧ q * y0 ≤ 18446744073709551615 := by
  obtain ⟨a1, a2, a3, a4, a5, a6, a7, a8⟩ := k
  obtain ⟨g1, g2, g3, g4, g5, g6⟩ := h
  have := Int.mul_nonneg g1 a3
  have : q * y0 ≤ 4294967297 * 4294967295 := Int.mul_le_mul g2 (by omega) a3 (by omega)
  omega
theorem dig_first {y1 y0 u u1 : Int} (k : DigOk y1 y0 u u1) : 0 ≤ u / y1 ∧ u / y1 ≤ 4294967297 ∧ 0 ≤ u / y1 * y1 ∧ u / y1 * y1 ≤ u ∧ u - u / y1 * y1 = u % y1 := by
  have h := dig_start k
  obtain ⟨g1, g2, g3, g4, g5, g6⟩ := h
  have := Int.mul_nonneg g1 (show 0 ≤ y1 by have := k.y10; omega)
  omega
theorem div64_more (hi lo y : Int) (w : World) (l0 : 0 ≤ lo) (l1 : lo ≤ 18446744073709551615) (y0 : 0 < y) (y1 : y ≤ 18446744073709551615) (h0 : 0 < hi) (h1 : hi < y) :
    Calls Tryd.prog 24 #[.int .u64 hi, .int .u64 lo, .int .u64 y] w (DivPost w hi lo y) := by
  have e0 : (y == 0) = false := by simp; omega
  have e1 : (hi == 0) = false := by simp; omega
  obtain ⟨s0, s1, s2⟩ := leadZ_bd y y0 y1
  have HL := Lib.hid (fun w => lead64_any y w y0 y1)
  obtain ⟨s, hs⟩ : ∃ s, s = leadZ y := ⟨_, rfl⟩
  rw [← hs] at s0 s1 s2 HL
  clear hs
  obtain ⟨f1, f2, f3, f4, f5⟩ := div_setup hi lo y s s0 (by omega) h1 l0 l1 s2
  obtain ⟨Y, hY⟩ : ∃ Y, y * 2 ^ s = Y := ⟨_, rfl⟩
  obtain ⟨A, hA⟩ : ∃ A, hi * 2 ^ s = A := ⟨_, rfl⟩
  obtain ⟨B, hB⟩ : ∃ B, lo / 2 ^ (64 - s) = B := ⟨_, rfl⟩
  obtain ⟨L, hL⟩ : ∃ L, lo * 2 ^ s % 18446744073709551616 = L := ⟨_, rfl⟩
  have hL' : IntKind.u64.wrap (lo * 2 ^ s) = L := by rw [← hL, IntKind.wrap_u64]
  have hLb : 0 ≤ L ∧ L ≤ 18446744073709551615 := by rw [← hL]; omega
  rw [hY] at s1 s2 f4
  rw [hA] at f1 f2 f3 f4 f5
  rw [hB] at f2 f3 f4 f5
  rw [hL] at f5
  obtain ⟨U, hU⟩ : ∃ U, A + B = U := ⟨_, rfl⟩
  rw [hU] at f2 f3 f4 f5
  clear hL hU
  obtain ⟨Y1, hY1⟩ : ∃ Y1, Y / 4294967296 = Y1 := ⟨_, rfl⟩
  obtain ⟨Y0, hY0⟩ : ∃ Y0, Y % 4294967296 = Y0 := ⟨_, rfl⟩
  obtain ⟨L1, hL1⟩ : ∃ L1, L / 4294967296 = L1 := ⟨_, rfl⟩
  obtain ⟨L0, hL0⟩ : ∃ L0, L % 4294967296 = L0 := ⟨_, rfl⟩
  have m1 : bits BinOp.and IntKind.u64 Y 4294967295 = Y0 := by
    have := mask32 Y (by omega) (by omega)
    rw [this, hY0]
  have m2 : bits BinOp.and IntKind.u64 L 4294967295 = L0 := by
    have := mask32 L (by omega) (by omega)
    rw [this, hL0]
  have KO := Lib.hid (show DigOk Y1 Y0 U L1 from ⟨by omega, by omega, by omega, by omega, f3, by omega, by omega, by omega⟩)
  have HY := Lib.hid (show Y1 * 4294967296 + Y0 = Y by omega)
  have HLL := Lib.hid (show L1 * 4294967296 + L0 = L by omega)
  have bY1 : 2147483648 ≤ Y1 ∧ Y1 ≤ 4294967295 := by omega
  have bY0 : 0 ≤ Y0 ∧ Y0 ≤ 4294967295 := by omega
  have bL1 : 0 ≤ L1 ∧ L1 ≤ 4294967295 := by omega
  have bL0 : 0 ≤ L0 ∧ L0 ≤ 4294967295 := by omega
  obtain ⟨v1, v2, v3, v4, v5⟩ := dig_first KO.out
  have HF5 := Lib.hid f5; clear f5
  clear hY0 hL0
  obtain ⟨Q1, hQ1⟩ : ∃ Q1, Q1 = (U * 4294967296 + L1) / (Y1 * 4294967296 + Y0) := ⟨_, rfl⟩
  obtain ⟨R, hR⟩ : ∃ R, R = (U * 4294967296 + L1) % Y := ⟨_, rfl⟩
  have bQ1 := dig_bd KO.out
  rw [← hQ1] at bQ1
  have bR : 0 ≤ R ∧ R < Y := by rw [hR]; exact ⟨Int.emod_nonneg _ (by omega), Int.emod_lt_of_pos _ (by omega)⟩
  have hR1 : (U * 4294967296 + L1 - Q1 * Y) % 18446744073709551616 = R := by
    rw [hR, hQ1, HY.out]; exact dig_rest _ _ (by omega) (by omega)
  have KO2 := Lib.hid (show DigOk Y1 Y0 R L0 from ⟨by omega, by omega, by omega, by omega, bR.1, by rw [HY.out]; exact bR.2, by omega, by omega⟩)
  obtain ⟨Q0, hQ0⟩ : ∃ Q0, Q0 = (R * 4294967296 + L0) / (Y1 * 4294967296 + Y0) := ⟨_, rfl⟩
  have bQ0 := dig_bd KO2.out
  rw [← hQ0] at bQ0
  obtain ⟨x1, x2, x3, x4, x5⟩ := dig_first KO2.out
  have hR2 : (R * 4294967296 + L0 - Q0 * Y) % 18446744073709551616 = (R * 4294967296 + L0) % Y := by
    rw [hQ0, HY.out]; exact dig_rest _ _ (by omega) (by omega)
  have hp : (0 : Int) < 2 ^ s := Int.pow_pos (by decide)
  have hquo : Q1 * 4294967296 + Q0 = (hi * 18446744073709551616 + lo) / y ∧ (R * 4294967296 + L0) % Y / 2 ^ s = (hi * 18446744073709551616 + lo) % y := by
    have e := two_digs ((hi * 18446744073709551616 + lo) * 2 ^ s) (U * 4294967296 + L1) L0 Y (by omega) (by rw [← HF5.out, ← HLL.out]; omega) bL0.1 (by omega)
    rw [← hR] at e
    rw [hQ1, hQ0, HY.out, ← e.1, ← e.2, ← hY]
    exact ⟨scale_div _ _ _ hp, scale_mod _ _ _ hp⟩
  have HQ1 := Lib.hid hQ1
  have HQ2 := Lib.hid hQ0
  have HQUO := Lib.hid hquo
  have w1 : IntKind.u64.wrap (IntKind.u64.wrap (IntKind.u64.wrap (U * 4294967296) + L1) - IntKind.u64.wrap (Q1 * Y)) = R := by
    rw [IntKind.wrap_u64, IntKind.wrap_u64, IntKind.wrap_u64, IntKind.wrap_u64, ← hR1]
    generalize Q1 * Y = T
    omega
  have w2 : IntKind.u64.wrap (IntKind.u64.wrap (IntKind.u64.wrap (R * 4294967296) + L0) - IntKind.u64.wrap (Q0 * Y)) = (R * 4294967296 + L0) % Y := by
    rw [IntKind.wrap_u64, IntKind.wrap_u64, IntKind.wrap_u64, IntKind.wrap_u64, ← hR2]
    generalize Q0 * Y = T
    omega
  clear hQ1 hR hQ0 hR1 hR2 hquo hp
  have KO1 := KO
  have d0 : decide (y ≤ hi) = false := by simp; omega
  obtain ⟨bQ10, bQ11⟩ := bQ1
  obtain ⟨bQ00, bQ01⟩ := bQ0
  obtain ⟨bR0, bR1⟩ := bR
  have W1 := Lib.hid w1
  have W2 := Lib.hid w2
  clear w1 w2
  go_enter Tryd.func24, Tryd.ntmps24
  go_wp2_with fail
  with_reducible refine (HL.out _).mono ?_
  rintro e w' ⟨rfl, rfl⟩
  go_upto_block 0 with fail
  go_cut [15] (fun t wx => t = .int .u64 Q1 ∧ w = wx)
  case first =>
    go_wp2_with fail
    go_loop [15, 16] (DigRel Y1 Y0 U L1) (fun a _ => (intOf a).toNat)
    case atStart => exact ⟨_, _, rfl, rfl, dig_start KO1.out⟩
    case round =>
      obtain ⟨q, r, rfl, rfl, hI⟩ := hrel
      obtain ⟨p0, p1⟩ := dig_prod KO1.out hI
      have HI := Lib.hid hI
      obtain ⟨g1, g2, g3, g4, g5, g6⟩ := hI
      clear g5 g6
      by_cases hq : 4294967296 ≤ q
      · have d1 : decide (4294967296 ≤ q) = true := decide_eq_true hq
        have HOV := Lib.hid (show 4294967296 ≤ q ∨ 4294967296 * r + L1 < q * Y0 from .inl hq)
        by_cases hr : 4294967296 ≤ r + Y1
        · have d2 : decide (4294967296 ≤ r + Y1) = true := decide_eq_true hr
          go_wp2_with fail
          go_meet
          exact ⟨congrArg (Value.int IntKind.u64) ((dig_last KO1.out HI.out HOV.out hr).trans HQ1.out.symm), rfl⟩
        · have d2 : decide (4294967296 ≤ r + Y1) = false := decide_eq_false hr
          go_wp2_with fail
          exact ⟨⟨_, _, rfl, rfl, dig_next KO1.out HI.out HOV.out (by omega)⟩, by simp [intOf]; omega⟩
      · have d1 : decide (4294967296 ≤ q) = false := decide_eq_false hq
        by_cases hv : 4294967296 * r + L1 < q * Y0
        · have d3 : decide (4294967296 * r + L1 < q * Y0) = true := decide_eq_true hv
          have HOV := Lib.hid (show 4294967296 ≤ q ∨ 4294967296 * r + L1 < q * Y0 from .inr hv)
          have hq1 : 1 ≤ q := (dig_over KO1.out HI.out HOV.out).2
          by_cases hr : 4294967296 ≤ r + Y1
          · have d2 : decide (4294967296 ≤ r + Y1) = true := decide_eq_true hr
            go_wp2_with fail
            go_meet
            exact ⟨congrArg (Value.int IntKind.u64) ((dig_last KO1.out HI.out HOV.out hr).trans HQ1.out.symm), rfl⟩
          · have d2 : decide (4294967296 ≤ r + Y1) = false := decide_eq_false hr
            go_wp2_with fail
            exact ⟨⟨_, _, rfl, rfl, dig_next KO1.out HI.out HOV.out (by omega)⟩, by simp [intOf]; omega⟩
        · have d3 : decide (4294967296 * r + L1 < q * Y0) = false := decide_eq_false hv
          go_wp2_with fail
          go_meet
          exact ⟨congrArg (Value.int IntKind.u64) ((dig_done KO1.out HI.out (by omega) (by omega)).trans HQ1.out.symm), rfl⟩
  case rest =>
    obtain ⟨rfl, rfl⟩ := hcut
    have w1 := W1.out
    go_upto_block 2 with fail
    go_cut [18] (fun t wx => t = .int .u64 Q0 ∧ w = wx)
    case first =>
      go_wp2_with fail
      go_loop [18, 16] (DigRel Y1 Y0 R L0) (fun a _ => (intOf a).toNat)
      case atStart => exact ⟨_, _, rfl, rfl, dig_start KO2.out⟩
      case round =>
        obtain ⟨q, r, rfl, rfl, hI⟩ := hrel
        obtain ⟨p0, p1⟩ := dig_prod KO2.out hI
        have HI := Lib.hid hI
        obtain ⟨g1, g2, g3, g4, g5, g6⟩ := hI
        clear g5 g6
        by_cases hq : 4294967296 ≤ q
        · have d1 : decide (4294967296 ≤ q) = true := decide_eq_true hq
          have HOV := Lib.hid (show 4294967296 ≤ q ∨ 4294967296 * r + L0 < q * Y0 from .inl hq)
          by_cases hr : 4294967296 ≤ r + Y1
          · have d2 : decide (4294967296 ≤ r + Y1) = true := decide_eq_true hr
            go_wp2_with fail
            go_meet
            exact ⟨congrArg (Value.int IntKind.u64) ((dig_last KO2.out HI.out HOV.out hr).trans HQ2.out.symm), rfl⟩
          · have d2 : decide (4294967296 ≤ r + Y1) = false := decide_eq_false hr
            go_wp2_with fail
            exact ⟨⟨_, _, rfl, rfl, dig_next KO2.out HI.out HOV.out (by omega)⟩, by simp [intOf]; omega⟩
        · have d1 : decide (4294967296 ≤ q) = false := decide_eq_false hq
          by_cases hv : 4294967296 * r + L0 < q * Y0
          · have d3 : decide (4294967296 * r + L0 < q * Y0) = true := decide_eq_true hv
            have HOV := Lib.hid (show 4294967296 ≤ q ∨ 4294967296 * r + L0 < q * Y0 from .inr hv)
            have hq1 : 1 ≤ q := (dig_over KO2.out HI.out HOV.out).2
            by_cases hr : 4294967296 ≤ r + Y1
            · have d2 : decide (4294967296 ≤ r + Y1) = true := decide_eq_true hr
              go_wp2_with fail
              go_meet
              exact ⟨congrArg (Value.int IntKind.u64) ((dig_last KO2.out HI.out HOV.out hr).trans HQ2.out.symm), rfl⟩
            · have d2 : decide (4294967296 ≤ r + Y1) = false := decide_eq_false hr
              go_wp2_with fail
              exact ⟨⟨_, _, rfl, rfl, dig_next KO2.out HI.out HOV.out (by omega)⟩, by simp [intOf]; omega⟩
          · have d3 : decide (4294967296 * r + L0 < q * Y0) = false := decide_eq_false hv
            go_wp2_with fail
            go_meet
            exact ⟨congrArg (Value.int IntKind.u64) ((dig_done KO2.out HI.out (by omega) (by omega)).trans HQ2.out.symm), rfl⟩
    case rest =>
      obtain ⟨rfl, rfl⟩ := hcut
      clear w1
      have w2 := W2.out
      have u1 : IntKind.u64.wrap (Q1 * 4294967296) = Q1 * 4294967296 := by rw [IntKind.wrap_u64]; omega
      have u2 : IntKind.u64.wrap (Q1 * 4294967296 + Q0) = Q1 * 4294967296 + Q0 := by rw [IntKind.wrap_u64]; omega
      go_wp2_with fail
      go_ret2
      refine ⟨?_, Below.refl _ _⟩
      rw [← HQUO.out.1, ← HQUO.out.2]
      rfl
theorem div64_any (hi lo y : Int) (w : World) (l0 : 0 ≤ lo) (l1 : lo ≤ 18446744073709551615) (y0 : 0 < y) (y1 : y ≤ 18446744073709551615) (h0 : 0 ≤ hi) (h1 : hi < y) :
    Calls Tryd.prog 24 #[.int .u64 hi, .int .u64 lo, .int .u64 y] w (DivPost w hi lo y) := by
  rcases (show hi = 0 ∨ 0 < hi by omega) with h | h
  · subst h; exact div64_zero lo y w l0 l1 y0 y1
  · exact div64_more hi lo y w l0 l1 y0 y1 h h1
end Go.Proofs.YtohgpllonbplfaaDoor

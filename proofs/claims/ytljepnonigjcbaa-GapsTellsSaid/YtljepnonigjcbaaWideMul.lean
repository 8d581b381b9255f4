/- Contracts of math/bits.Mul64, wide.amount and wide.signed. -/
import Derived.Test.YtljepnonigjcbaaWideFns
import Derived.Test.YtljepnonigjcbaaWideTimesMath
import Derived.Lib.Mul64
import Derived.Laws.Bits64b
namespace Go.Proofs.Ytljepnonigjcbaa
open Go.RowKit
set_option linter.unusedVariables false

namespace Mul
theorem maskN (a : Nat) (ha : a < 18446744073709551616) : bits .and .u64 (a : Int) 4294967295 = ((a % 4294967296 : Nat) : Int) := by
  have h := bits_and_u64_nat a 4294967295 ha (by omega)
  have e : a &&& 4294967295 = a % 4294967296 := Nat.and_two_pow_sub_one_eq_mod a 32
  rw [e] at h
  exact h
theorem divN (a : Nat) : (a : Int) / 4294967296 = ((a / 4294967296 : Nat) : Int) := by omega
theorem mulN (a b : Nat) : (a : Int) * (b : Int) = ((a * b : Nat) : Int) := (Int.natCast_mul a b).symm
theorem addN (a b : Nat) : (a : Int) + (b : Int) = ((a + b : Nat) : Int) := (Int.natCast_add a b).symm
theorem wrapN (a : Nat) (ha : a < 18446744073709551616) : IntKind.u64.wrap (a : Int) = (a : Int) := by rw [IntKind.wrap_u64]; omega
theorem wrapM (a : Nat) : IntKind.u64.wrap (a : Int) = ((a % 18446744073709551616 : Nat) : Int) := by rw [IntKind.wrap_u64]; omega
end Mul
set_option maxHeartbeats 1000000 in
theorem mul64_nat (x y : Nat) (hx : x < 18446744073709551616) (hy : y < 18446744073709551616) (w : World) :
    Calls Try.prog 48 #[.int .u64 x, .int .u64 y] w fun e w' => e = .returned (.tuple #[.int .u64 ((x * y / 18446744073709551616 : Nat) : Int), .int .u64 ((x * y % 18446744073709551616 : Nat) : Int)]) ∧ w = w' := by
  obtain ⟨bd, bt, bw, hhi⟩ := Lib.mul64_hi x y hx hy
  have ba := Lib.half_mul_le (a := x / 4294967296) (b := y / 4294967296) (by omega) (by omega)
  have bb := Lib.half_mul_le (a := x / 4294967296) (b := y % 4294967296) (by omega) (by omega)
  have bc := Lib.half_mul_le (a := x % 4294967296) (b := y / 4294967296) (by omega) (by omega)
  have ba' : x / 4294967296 * (y / 4294967296) < 18446744073709551616 := by omega
  have bb' : x / 4294967296 * (y % 4294967296) < 18446744073709551616 := by omega
  have bc' : x % 4294967296 * (y / 4294967296) < 18446744073709551616 := by omega
  have bh1 : x / 4294967296 * (y / 4294967296) + (x / 4294967296 * (y % 4294967296) + x % 4294967296 * (y % 4294967296) / 4294967296) / 4294967296 < 18446744073709551616 := by omega
  have bh : x / 4294967296 * (y / 4294967296) + (x / 4294967296 * (y % 4294967296) + x % 4294967296 * (y % 4294967296) / 4294967296) / 4294967296 + ((x / 4294967296 * (y % 4294967296) + x % 4294967296 * (y % 4294967296) / 4294967296) % 4294967296 + x % 4294967296 * (y / 4294967296)) / 4294967296 < 18446744073709551616 := by omega
  go_enter Try.func48, Try.ntmps48
  go_wp2
  simp only [Mul.maskN x hx, Mul.maskN y hy, Mul.divN, Mul.mulN, Mul.addN, Mul.wrapN _ bd, Mul.wrapN _ bb', Mul.wrapN _ bt, Mul.maskN _ bt, Mul.wrapN _ bc', Mul.wrapN _ bw, Mul.wrapN _ ba', Mul.wrapN _ bh1, Mul.wrapN _ bh, Mul.wrapM (x * y)]
  rw [hhi]
  go_ret2
  exact ⟨rfl, rfl⟩
theorem mul64_any (x y : Int) (w : World) (hx0 : 0 ≤ x) (hx1 : x ≤ 18446744073709551615) (hy0 : 0 ≤ y) (hy1 : y ≤ 18446744073709551615) :
    Calls Try.prog 48 #[.int .u64 x, .int .u64 y] w fun e w' => e = .returned (.tuple #[.int .u64 (x * y / 18446744073709551616), .int .u64 (x * y % 18446744073709551616)]) ∧ w = w' := by
  obtain ⟨X, rfl⟩ := Int.eq_ofNat_of_zero_le hx0
  obtain ⟨Y, rfl⟩ := Int.eq_ofNat_of_zero_le hy0
  refine (mul64_nat X Y (by omega) (by omega) w).mono ?_
  rintro e w' ⟨rfl, hw⟩
  exact ⟨by simp only [Int.natCast_ediv, Int.natCast_emod, Int.natCast_mul]; rfl, hw⟩
theorem amount_any (v : Int) (w : World) (hv : fits v) :
    Calls Try.prog 46 #[.agg #[.int .i64 (hiW v), .int .u64 (loW v)]] w fun e w' => e = .returned (.agg #[.int .u64 (upW (absI v)), .int .u64 (loW (absI v))]) ∧ Below w.heap.size w w' := by
  have hn := hiW_neg v hv
  by_cases h : v < 0
  · rw [absI_neg v h]
    have h1 : hiW v < 0 := hn.2 h
    have e1 : IntKind.u64.wrap (hiW (-v)) = upW (-v) := by rw [IntKind.wrap_u64]; exact upW_hi _
    clear hn
    go_enter Try.func46, Try.ntmps46
    go_wp2_with fail
    with_reducible refine (below_yes _ _ _ h1).mono ?_
    rintro e w1 ⟨rfl, rfl⟩
    go_wp2_with fail
    with_reducible refine (minus_any v _).mono ?_
    rintro e w1 ⟨rfl, hb⟩
    have hz : w.heap.size + 2 < w1.heap.size := by have := hb.size; simp at this; omega
    have k0 := cell_be hb (cell_al (cell_al (cell_new0 (n := w.heap.size) rfl)))
    have k1 := cell_be hb (cell_al (cell_al (cell_new1 (n := w.heap.size) rfl)))
    have z0 := cell_be hb (cell_al (cell_new0 (n := w.heap.size + 1) (by simp)))
    have z1 := cell_be hb (cell_al (cell_new1 (n := w.heap.size + 1) (by simp)))
    have f0 := frozen_be hb (by simp; omega) (frozen_al (by simp; omega) (frozen_al (by simp) (frozen_new (n := w.heap.size) rfl 0)))
    have f1 := frozen_be hb (by simp; omega) (frozen_al (by simp; omega) (frozen_al (by simp) (frozen_new (n := w.heap.size) rfl 1)))
    have f2 := frozen_be hb (by simp) (frozen_al (by simp) (frozen_new (n := w.heap.size + 1) (by simp) 0))
    have f3 := frozen_be hb (by simp) (frozen_al (by simp) (frozen_new (n := w.heap.size + 1) (by simp) 1))
    have hB := (((Below.refl _ _).alloc (Nat.le_refl _) _).alloc (by simp) _).alloc (by simp; omega) _ |>.trans (hb.mono (by simp; omega))
    clear hb
    go_wp2
    exact bodyPost_ret (v := .agg #[.int .u64 (upW (-v)), .int .u64 (loW (-v))]) (by simp [results, Try.results46, go_sem, z0, z1]) rfl ⟨rfl, (((hB.setCell (Nat.le_refl _) _).setCell (Nat.le_refl _) _).setCell (by simp) _).setCell (by simp) _⟩
  · rw [absI_pos v h]
    have h1 : 0 ≤ hiW v := by omega
    have e1 : IntKind.u64.wrap (hiW v) = upW v := by rw [IntKind.wrap_u64]; exact upW_hi _
    clear hn
    go_enter Try.func46, Try.ntmps46
    go_wp2_with fail
    with_reducible refine (below_no _ _ _ (Int.not_lt.2 h1)).mono ?_
    rintro e w1 ⟨rfl, rfl⟩
    go_wp2
    exact bodyPost_ret (v := .agg #[.int .u64 (upW v), .int .u64 (loW v)]) (by simp [results, Try.results46, go_sem]) rfl ⟨rfl, (((Below.refl _ _).alloc (Nat.le_refl _) _).alloc (by simp) _).alloc (by simp; omega) _⟩
theorem bel3 (w : World) (a b c : Obj) : Below w.heap.size w (((w.alloc a).alloc b).alloc c) := (((Below.refl _ _).alloc (Nat.le_refl _) _).alloc (by simp) _).alloc (by simp; omega) _
theorem bel4 (w : World) (a b c d : Obj) : Below w.heap.size w ((((w.alloc a).alloc b).alloc c).alloc d) := (bel3 w a b c).alloc (by simp; omega) _
set_option maxRecDepth 100000 in
theorem signed_no (P : Int) (w : World) (h0 : 0 ≤ P) (h1 : P < 340282366920938463463374607431768211456) :
    Calls Try.prog 50 #[.agg #[.int .u64 (upW P), .int .u64 (loW P)], .bool false] w fun e w' => e = .returned (.tuple #[.agg #[.int .i64 (hiW (sumOf P)), .int .u64 (loW (sumOf P))], .bool (decide (fits P))]) ∧ Below w.heap.size w w' := by
  have hs := sign_no P h0 h1
  have e1 : wrap64 (upW P) = hiW P := by unfold wrap64; exact hiW_up P
  by_cases hf : fits P
  · rw [sumOf_yes hf, decide_eq_true hf]
    have d1 : 0 ≤ hiW P := by have := hs.1 hf; omega
    clear hs hf
    go_enter Try.func50, Try.ntmps50
    go_wp2_with (go_at_call 45; refine (below_any _ _ _).mono ?_; rintro e w1 ⟨rfl, rfl⟩)
    all_goals exact bodyPost_ret (v := .tuple #[.agg #[.int .i64 (hiW P), .int .u64 (loW P)], .bool true]) (by simp [results, Try.results50, go_sem, *]) rfl ⟨rfl, by first | exact bel3 _ _ _ _ | exact bel4 _ _ _ _ _⟩
  · rw [sumOf_no hf, decide_eq_false hf, hiW_zero, loW_zero]
    have d1 : hiW P < 0 := by
      rcases Int.lt_or_le (hiW P) 0 with h | h
      · exact h
      · exact absurd (hs.2 (by omega)) hf
    have d2 : decide (hiW P < 0) = true := decide_eq_true d1
    have d3 : (hiW P == 0) = false := by simp; omega
    clear hs hf
    go_enter Try.func50, Try.ntmps50
    go_wp2_with (go_at_call 45; refine (below_any _ _ _).mono ?_; rintro e w1 ⟨rfl, rfl⟩)
    all_goals exact bodyPost_ret (v := .tuple #[.agg #[.int .i64 0, .int .u64 0], .bool false]) (by simp [results, Try.results50, go_sem, *]) rfl ⟨rfl, by first | exact bel3 _ _ _ _ | exact bel4 _ _ _ _ _⟩
set_option maxRecDepth 100000 in
theorem signed_yes (P : Int) (w : World) (h0 : 0 < P) (h1 : P < 340282366920938463463374607431768211456) :
    Calls Try.prog 50 #[.agg #[.int .u64 (upW P), .int .u64 (loW P)], .bool true] w fun e w' => e = .returned (.tuple #[.agg #[.int .i64 (hiW (sumOf (-P))), .int .u64 (loW (sumOf (-P)))], .bool (decide (fits (-P)))]) ∧ Below w.heap.size w w' := by
  have hs := sign_yes P h0 h1
  have hz := sign_nz P h0 h1
  have e1 : wrap64 (upW P) = hiW P := by unfold wrap64; exact hiW_up P
  have HM := Lib.hid (fun w => minus_any P w)
  obtain ⟨v, hv⟩ : ∃ v, v = -P := ⟨_, rfl⟩
  rw [← hv] at hs hz HM ⊢
  clear hv
  by_cases hf : fits v
  · rw [sumOf_yes hf, decide_eq_true hf]
    have d1 : hiW v < 0 := hs.1 hf
    have d2 : decide (hiW v < 0) = true := decide_eq_true d1
    clear hs hf hz
    go_enter Try.func50, Try.ntmps50
    go_wp2_with fail
    with_reducible refine (HM.out _).mono ?_
    rintro e w1 ⟨rfl, hb⟩
    have s2 : w.heap.size + 1 + 1 < w1.heap.size := by have := hb.size; simp at this; omega
    have s1 : w.heap.size + 1 < w1.heap.size := by omega
    have k0 := cell_be hb (cell_new0 (n := w.heap.size + 1 + 1) (by simp))
    have k1 := cell_be hb (cell_new1 (n := w.heap.size + 1 + 1) (by simp))
    have z0 := cell_be hb (cell_al (cell_new0 (n := w.heap.size + 1) (by simp)))
    have z1 := cell_be hb (cell_al (cell_new1 (n := w.heap.size + 1) (by simp)))
    have f0 := frozen_be hb (by simp) (frozen_new (n := w.heap.size + 1 + 1) (by simp) 0)
    have f1 := frozen_be hb (by simp) (frozen_new (n := w.heap.size + 1 + 1) (by simp) 1)
    have f2 := frozen_be hb (by simp) (frozen_al (by simp) (frozen_new (n := w.heap.size + 1) (by simp) 0))
    have f3 := frozen_be hb (by simp) (frozen_al (by simp) (frozen_new (n := w.heap.size + 1) (by simp) 1))
    have hB := (bel3 w _ _ _).trans (hb.mono (by simp; omega))
    clear hb
    go_wp2_with (go_at_call 45; refine (below_any _ _ _).mono ?_; rintro e w1 ⟨rfl, rfl⟩)
    exact bodyPost_ret (v := .tuple #[.agg #[.int .i64 (hiW v), .int .u64 (loW v)], .bool true]) (by simp [results, Try.results50, go_sem, z0, z1, s1]) rfl ⟨rfl, ((((hB.setCell (by simp <;> omega) _).setCell (by simp <;> omega) _).setCell (by simp <;> omega) _).setCell (by simp <;> omega) _).alloc (by simp <;> omega) _⟩
  · rw [sumOf_no hf, decide_eq_false hf, hiW_zero, loW_zero]
    have d1 : 0 ≤ hiW v := by
      rcases Int.lt_or_le (hiW v) 0 with h | h
      · exact absurd (hs.2 (by omega)) hf
      · exact h
    have d2 : decide (hiW v < 0) = false := decide_eq_false (by omega)
    have HZ := Lib.hid hz
    clear hs hf hz
    go_enter Try.func50, Try.ntmps50
    go_wp2_with fail
    with_reducible refine (HM.out _).mono ?_
    rintro e w1 ⟨rfl, hb⟩
    have s2 : w.heap.size + 1 + 1 < w1.heap.size := by have := hb.size; simp at this; omega
    have s1 : w.heap.size + 1 < w1.heap.size := by omega
    have k0 := cell_be hb (cell_new0 (n := w.heap.size + 1 + 1) (by simp))
    have k1 := cell_be hb (cell_new1 (n := w.heap.size + 1 + 1) (by simp))
    have z0 := cell_be hb (cell_al (cell_new0 (n := w.heap.size + 1) (by simp)))
    have z1 := cell_be hb (cell_al (cell_new1 (n := w.heap.size + 1) (by simp)))
    have f0 := frozen_be hb (by simp) (frozen_new (n := w.heap.size + 1 + 1) (by simp) 0)
    have f1 := frozen_be hb (by simp) (frozen_new (n := w.heap.size + 1 + 1) (by simp) 1)
    have f2 := frozen_be hb (by simp) (frozen_al (by simp) (frozen_new (n := w.heap.size + 1) (by simp) 0))
    have f3 := frozen_be hb (by simp) (frozen_al (by simp) (frozen_new (n := w.heap.size + 1) (by simp) 1))
    have hB := (bel3 w _ _ _).trans (hb.mono (by simp; omega))
    clear hb
    go_wp2_with (go_at_call 45; refine (below_any _ _ _).mono ?_; rintro e w1 ⟨rfl, rfl⟩)
    all_goals first
      | exact (HZ.out ⟨by assumption, by assumption⟩).elim
      | exact bodyPost_ret (v := .tuple #[.agg #[.int .i64 0, .int .u64 0], .bool false]) (by simp [results, Try.results50, go_sem, z0, z1, s1]) rfl ⟨rfl, ((((hB.setCell (by simp <;> omega) _).setCell (by simp <;> omega) _).setCell (by simp <;> omega) _).setCell (by simp <;> omega) _).alloc (by simp <;> omega) _⟩
end Go.Proofs.Ytljepnonigjcbaa

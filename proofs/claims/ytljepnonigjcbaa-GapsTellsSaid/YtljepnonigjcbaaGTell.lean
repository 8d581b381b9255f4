/- What stands in a hole: the three ways by one contract. -/
import Derived.Test.YtljepnonigjcbaaGLin
namespace Go.Proofs.Ytljepnonigjcbaa
open Go Go.RowKit
set_option linter.unusedVariables false

def tb (x : Int) : Prop := -2305843009213693952 ≤ x ∧ x ≤ 2305843009213693952
/-- a line can be drawn -/
def LinOk (f : Int) (p n : Option Rw) : Prop := ∀ a b, p = some a → n = some b → fits a.v ∧ fits b.v ∧ tb a.f ∧ tb b.f ∧ tb f ∧ a.f < b.f
theorem fits_sumOf (v : Int) : fits (sumOf v) := by
  unfold sumOf
  split
  · assumption
  · decide
theorem fits_quo (x m : Int) (hx : fits x) (hm : 0 < m) : fits (x / m) := by
  unfold fits at *
  have h1 := Int.ediv_mul_le x (show m ≠ 0 by omega)
  have h2 := Int.lt_ediv_add_one_mul_self x hm
  constructor
  · rcases Int.lt_or_le (x / m) (-170141183460469231731687303715884105728) with h | h
    · have : (x / m + 1) * m ≤ (x / m + 1) * 1 := Int.mul_le_mul_of_nonpos_left (by omega) (by omega)
      omega
    · exact h
  · rcases Int.lt_or_le 170141183460469231731687303715884105727 (x / m) with h | h
    · have : x / m * 1 ≤ x / m * m := Int.mul_le_mul_of_nonneg_left (by omega) (by omega)
      omega
    · exact h
theorem PtrTo.one {w : World} {p : Option Rw} {v : Value} (h : PtrTo w p v) : v.oneCell' = true := by
  cases p with
  | none => rw [show v = .pointer none from h]; rfl
  | some r => obtain ⟨b, o, rfl, _⟩ := h; rfl
theorem lin_any (f t : Int) (p n : Option Rw) (vp vn : Value) (w : World) (hp : PtrTo w p vp) (hn : PtrTo w n vn) (hok : LinOk f p n) :
    Calls Try.prog 14 #[holeV f t vp vn] w (TellPost w (linRow p n f t)) := by
  cases p with
  | none => exact lin_null f t vp vn w (.inl ⟨hp, hn.one⟩)
  | some a =>
    cases n with
    | none =>
      obtain ⟨b, o, rfl, _⟩ := hp
      exact lin_null f t _ vn w (.inr ⟨⟨_, rfl⟩, hn⟩)
    | some b =>
      obtain ⟨va, vb, ta, tb', tf, hlt⟩ := hok a b rfl rfl
      obtain ⟨bp, op, rfl, p0, p3, p4⟩ := hp
      obtain ⟨bn, on, rfl, n0, n3, n4⟩ := hn
      unfold tb at ta tb' tf
      refine lin_some f t bp op bn on a b w p0 p3 p4 n0 n3 n4 va vb (IntWalk.i64_in _ (by omega)) (IntWalk.i64_in _ (by omega)) (by omega) (by omega) (by omega) (by omega) _ _ _ _ _ _ rfl rfl rfl rfl rfl rfl (fits_sumOf _) (fits_sumOf _) (fits_quo _ _ (fits_sumOf _) (by omega)) _ ?_
      show _ = lineRow a b f t
      unfold lineRow
      by_cases h1 : fits (b.v - a.v)
      · rw [sumOf_yes h1]
        by_cases h2 : fits ((b.v - a.v) * (f - a.f))
        · rw [sumOf_yes h2]
          simp [h1, h2]
        · simp [h2]
      · simp [h1]
def tellF (how : Int) : FuncId := if how = 2 then 13 else if how = 3 then 14 else 12
theorem tell_any (how : Int) (f t : Int) (p n : Option Rw) (vp vn : Value) (w : World) (hp : PtrTo w p vp) (hn : PtrTo w n vn) (hok : how = 3 → LinOk f p n) :
    Calls Try.prog (tellF how) #[holeV f t vp vn] w (TellPost w (holeRow how p n f t)) := by
  unfold tellF holeRow
  by_cases h2 : how = 2
  · rw [if_pos h2, if_pos h2]
    cases p with
    | none =>
      rw [show vp = .pointer none from hp]
      exact prev_none f t vn hn.one w
    | some r => exact prev_some f t r vp vn hn.one w hp
  · rw [if_neg h2, if_neg h2]
    by_cases h3 : how = 3
    · rw [if_pos h3, if_pos h3]
      exact lin_any f t p n vp vn w hp hn (hok h3)
    · rw [if_neg h3, if_neg h3]
      exact null_any f t vp vn hp.one hn.one w
end Go.Proofs.Ytljepnonigjcbaa

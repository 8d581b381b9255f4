/- Windows side by side from 0 on; what Fill tells of all rows, and of none. No walk. -/
import Derived.Test.YtljepnonigjcbaaGRows
import Derived.Test.YtljepnonigjcbaaGWin
namespace Go.Proofs.Ytljepnonigjcbaa
open Go Go.RowKit
set_option linter.unusedVariables false

theorem side_wins (S : Int) (n : Nat) (hS : 1 ≤ S) (hS1 : S ≤ 1000) (hn : 1 ≤ n) (hn1 : n ≤ 1000) (w : World) :
    Calls Try.prog 11 #[.agg #[.int .i64 S, .int .i64 S, .int .i64 0], .agg #[.int .i64 0, .int .i64 (S * n)]] w (PairsPost w (wins 0 S S n) 0) := by
  have hpos : S * 1 ≤ S * n := Int.mul_le_mul_of_nonneg_left (by omega) (by omega)
  have hle : S * n ≤ 1000 * n := Int.mul_le_mul_of_nonneg_right hS1 (by omega)
  have h := all_yes S S 0 0 (S * n) w ⟨⟨hS, by omega, hS, by omega, by omega, by omega, by omega⟩, ⟨by omega, by omega⟩, ⟨by omega, by omega⟩, by omega⟩ (by omega)
  have hF : firstW S S 0 0 = 0 := by
    unfold firstW
    rw [show (0 : Int) - S - 0 = -S by omega, Int.neg_emod_self]
    omega
  have hC : countW 0 S (S * n - 1) = n := by
    unfold countW
    have e : (S * n - 1 - 0) / S = (n : Int) - 1 := by
      rw [show S * (n : Int) - 1 - 0 = (S - 1) + S * ((n : Int) - 1) by rw [Int.mul_sub]; omega, Int.add_mul_ediv_left _ _ (by omega), Int.ediv_eq_zero_of_lt (by omega) (by omega)]
      omega
    rw [e]; omega
  rw [hF, hC] at h
  refine h.mono fun e w' hp => ?_
  unfold AllPost at hp
  rw [if_pos (by omega)] at hp
  exact hp.pairs
theorem side_ok (S : Int) (n : Nat) (hS : 1 ≤ S) (hS1 : S ≤ 1000) (hn1 : n ≤ 1000) : ∀ p ∈ wins 0 S S n, in64' p.1 ∧ in64' p.2 ∧ (-2305843009213693952 ≤ p.1 ∧ p.1 ≤ 2305843009213693952) := by
  intro p hp
  simp [wins] at hp
  obtain ⟨i, hi, rfl⟩ := hp
  have h0 : 0 ≤ (i : Int) * S := Int.mul_nonneg (by omega) (by omega)
  have h1 : (i : Int) * S ≤ (i : Int) * 1000 := Int.mul_le_mul_of_nonneg_left hS1 (by omega)
  unfold in64'
  dsimp only
  omega
/-- rows for all windows -/
def fullR (S : Int) (v : Nat → Int) (n : Nat) : List Rw := (List.range n).map fun (i : Nat) => ⟨(i : Int) * S, (i : Int) * S + S, false, v i⟩
def nullR (S : Int) (n : Nat) : List Rw := (List.range n).map fun (i : Nat) => nullRow ((i : Int) * S) ((i : Int) * S + S)
theorem fullR_length (S : Int) (v : Nat → Int) (n : Nat) : (fullR S v n).length = n := by simp [fullR]
theorem nullR_length (S : Int) (n : Nat) : (nullR S n).length = n := by simp [nullR]
theorem fullR_getD (S : Int) (v : Nat → Int) (n i : Nat) (h : i < n) : (fullR S v n).getD i rw0 = ⟨(i : Int) * S, (i : Int) * S + S, false, v i⟩ := by simp [fullR, List.getD_eq_getElem?_getD, List.getElem?_range h]
theorem nullR_getD (S : Int) (n i : Nat) (h : i < n) : (nullR S n).getD i rw0 = nullRow ((i : Int) * S) ((i : Int) * S + S) := by simp [nullR, List.getD_eq_getElem?_getD, List.getElem?_range h]
theorem fullR_succ (S : Int) (v : Nat → Int) (n : Nat) : fullR S v (n + 1) = fullR S v n ++ [⟨(n : Int) * S, (n : Int) * S + S, false, v n⟩] := by simp [fullR, List.range_succ]
theorem nullR_succ (S : Int) (n : Nat) : nullR S (n + 1) = nullR S n ++ [nullRow ((n : Int) * S) ((n : Int) * S + S)] := by simp [nullR, List.range_succ]
theorem full_fine (S : Int) (v : Nat → Int) (n : Nat) (hS : 1 ≤ S) : fineR (fullR S v n) (wins 0 S S n) := by
  intro i hi
  rw [fullR_length] at hi
  unfold rowOk
  rw [fullR_getD S v n i hi]
  refine ⟨rfl, ?_, fun h0 => ?_⟩
  · simp [wins]; exact ⟨i, hi, rfl⟩
  · rw [fullR_getD S v n (i - 1) (by omega)]
    show ((i - 1 : Nat) : Int) * S < (i : Int) * S
    rw [show ((i - 1 : Nat) : Int) = (i : Int) - 1 by omega, Int.sub_mul]
    omega
theorem nil_fine (L : List (Int × Int)) : fineR [] L := fun i hi => by simp at hi
theorem null_unfine (S : Int) (n : Nat) (hn : 1 ≤ n) (L : List (Int × Int)) : ¬ fineR (nullR S n) L := by
  intro h
  have := (h 0 (by rw [nullR_length]; omega)).1
  rw [nullR_getD S n 0 (by omega)] at this
  cases this
theorem fill_full (how S : Int) (v : Nat → Int) (n i : Nat) (hi : i ≤ n) : fillN how (fullR S v n) (wins 0 S S n) i = (fullR S v i, i) := by
  induction i with
  | zero => rfl
  | succ i ih =>
    have ih' := ih (by omega)
    have h := @fillN_hit how (fullR S v n) (wins 0 S S n) i
    rw [ih'] at h
    rw [h (by rw [fullR_length]; exact hi) (by rw [fullR_getD S v n i (by omega), wins_getD 0 S S n i (by omega)]; simp), fullR_getD S v n i (by omega), fullR_succ]
theorem fill_nil (how S : Int) (n i : Nat) (hi : i ≤ n) : fillN how [] (wins 0 S S n) i = (nullR S i, 0) := by
  induction i with
  | zero => rfl
  | succ i ih =>
    have ih' := ih (by omega)
    have h := @fillN_miss how [] (wins 0 S S n) i
    rw [ih'] at h
    rw [h (by simp), wins_getD 0 S S n i (by omega), nullR_succ]
    have e : holeRow how none none ((i : Int) * S) ((i : Int) * S + S) = nullRow ((i : Int) * S) ((i : Int) * S + S) := by
      unfold holeRow prevRow linRow
      split
      · rfl
      · split <;> rfl
    simp [e]
end Go.Proofs.Ytljepnonigjcbaa

/- Windows, as plain numbers: no program in sight. -/
import Derived.WalkKit
namespace Go.Proofs.Ytljepnonigjcbaa
set_option linter.unusedVariables false

/-- windows that may be -/
def valid (W S O : Int) : Prop := 1 ≤ W ∧ W ≤ 1099511627776 ∧ 1 ≤ S ∧ S ≤ W ∧ W ≤ 64 * S ∧ 0 ≤ O ∧ O < S
/-- so many windows from one on -/
def wins (a S W : Int) (n : Nat) : List (Int × Int) := (List.range n).map fun (i : Nat) => (a + (i : Int) * S, a + (i : Int) * S + W)
theorem wins_succ (a S W : Int) (n : Nat) : wins a S W (n + 1) = wins a S W n ++ [(a + n * S, a + n * S + W)] := by simp [wins, List.range_succ]
theorem wins_length (a S W : Int) (n : Nat) : (wins a S W n).length = n := by simp [wins]
/-- the From of the first window that has a time -/
def firstW (W S O t : Int) : Int := t - W - (t - W - O) % S + S
def lastW (S O t : Int) : Int := t - (t - O) % S
/-- how many there are up to a time -/
def countW (F S e : Int) : Nat := ((e - F) / S + 1).toNat
theorem emod_eq (x S : Int) : x % S = x - S * (x / S) := by have := Int.mul_ediv_add_emod x S; omega
theorem firstW_form (W S O t : Int) : firstW W S O t = O + S * ((t - W - O) / S + 1) := by
  unfold firstW; rw [emod_eq, Int.mul_add, Int.mul_one]; omega
theorem lastW_form (S O t : Int) : lastW S O t = O + S * ((t - O) / S) := by
  unfold lastW; rw [emod_eq]; omega
theorem firstW_bd {W S O t : Int} (hS : 0 < S) : t - W < firstW W S O t ∧ firstW W S O t ≤ t - W + S := by
  unfold firstW
  have h0 := Int.emod_nonneg (t - W - O) (show S ≠ 0 by omega)
  have h1 := Int.emod_lt_of_pos (t - W - O) hS
  omega
theorem lastW_bd {S O t : Int} (hS : 0 < S) : t - S < lastW S O t ∧ lastW S O t ≤ t := by
  unfold lastW
  have h0 := Int.emod_nonneg (t - O) (show S ≠ 0 by omega)
  have h1 := Int.emod_lt_of_pos (t - O) hS
  omega
/-- the count by the last window is that by the time -/
theorem last_count {S O q e : Int} (hS : 0 < S) : (lastW S O e - (O + S * q)) / S = (e - (O + S * q)) / S := by
  rw [lastW_form]
  have a : O + S * ((e - O) / S) - (O + S * q) = S * ((e - O) / S - q) := by rw [Int.mul_sub]; omega
  have b : e - (O + S * q) = (e - O) + S * (-q) := by rw [Int.mul_neg]; omega
  rw [a, b, Int.mul_ediv_cancel_left _ (show S ≠ 0 by omega), Int.add_mul_ediv_left _ _ (show S ≠ 0 by omega)]
  omega
theorem count_last (W S O t e : Int) (hS : 0 < S) : (lastW S O e - firstW W S O t) / S + 1 = (e - firstW W S O t) / S + 1 := by
  rw [firstW_form, last_count hS]
theorem ediv_bds {x S : Int} (hS : 0 < S) : S * (x / S) ≤ x ∧ x < S * (x / S) + S := by
  have h := Int.mul_ediv_add_emod x S
  have h0 := Int.emod_nonneg x (show S ≠ 0 by omega)
  have h1 := Int.emod_lt_of_pos x hS
  omega
theorem ediv_nonneg_of {x S : Int} (hS : 0 < S) (hx : 0 ≤ x) : 0 ≤ x / S ∧ x / S ≤ x := ⟨Int.ediv_nonneg hx (by omega), Int.ediv_le_self _ hx⟩
/-- how many windows a time has: from 1 to 64 -/
theorem of_count {W S O t : Int} (h : valid W S O) : 0 ≤ (t - firstW W S O t) / S ∧ (t - firstW W S O t) / S ≤ 63 := by
  obtain ⟨h1, h2, h3, h4, h5, h6, h7⟩ := h
  have hb := firstW_bd (W := W) (S := S) (O := O) (t := t) (by omega)
  refine ⟨Int.ediv_nonneg (by omega) (by omega), ?_⟩
  have : (t - firstW W S O t) / S < 64 := by
    refine Int.ediv_lt_of_lt_mul (by omega) ?_
    omega
  omega
theorem wins_getD (a S W : Int) (n i : Nat) (hi : i < n) : (wins a S W n).getD i (0, 0) = (a + i * S, a + i * S + W) := by
  simp [wins, List.getD_eq_getElem?_getD, List.getElem?_range hi]
/-- the windows of a time, as the law asks -/
theorem has_facts {W S O t : Int} (h : valid W S O) (n : Nat) (hn : n = countW (firstW W S O t) S t) :
    1 ≤ n ∧ n ≤ 64 ∧ firstW W S O t - S + W ≤ t ∧ t < firstW W S O t + (n - 1 : Nat) * S + S ∧ W / S ≤ n ∧ (n : Int) ≤ W / S + 1 ∧ (S = W → n = 1) ∧
      ∀ j : Nat, j < n → firstW W S O t + j * S ≤ t ∧ t < firstW W S O t + j * S + W ∧ (firstW W S O t + j * S - O).tmod S = 0 := by
  have hc := of_count (t := t) h
  obtain ⟨h1, h2, h3, h4, h5, h6, h7⟩ := h
  have hb := firstW_bd (W := W) (S := S) (O := O) (t := t) (by omega)
  have hf := firstW_form W S O t
  have hq := ediv_bds (x := t - firstW W S O t) (S := S) (by omega)
  have hw := ediv_bds (x := W) (S := S) (by omega)
  generalize firstW W S O t = F at *
  generalize hqq : (t - F) / S = q at *
  have hnq : (n : Int) = q + 1 := by rw [hn]; unfold countW; omega
  have e1 : ((n - 1 : Nat) : Int) = q := by omega
  refine ⟨by omega, by omega, by omega, ?_, ?_, ?_, ?_, ?_⟩
  · rw [e1, Int.mul_comm]; omega
  · rw [hnq]
    have : W / S < q + 2 := by
      refine Int.ediv_lt_of_lt_mul (by omega) ?_
      have : (q + 2) * S = S * q + S + S := by rw [Int.add_mul, Int.mul_comm q]; omega
      omega
    omega
  · rw [hnq]
    have : q < W / S + 1 := by
      rcases Int.lt_or_le q (W / S + 1) with hlt | hge
      · exact hlt
      · exfalso
        have := Int.mul_le_mul_of_nonneg_left hge (show 0 ≤ S by omega)
        rw [Int.mul_add, Int.mul_one] at this
        omega
    omega
  · intro he
    subst he
    have : q < 1 := by
      rcases Int.lt_or_le q 1 with hlt | hge
      · exact hlt
      · exfalso
        have := Int.mul_le_mul_of_nonneg_left hge (show 0 ≤ S by omega)
        omega
    omega
  · intro j hj
    have hjq : (j : Int) ≤ q := by omega
    have hm := Int.mul_le_mul_of_nonneg_left hjq (show 0 ≤ S by omega)
    have hm0 : 0 ≤ S * (j : Int) := Int.mul_nonneg (by omega) (by omega)
    have e2 : (j : Int) * S = S * j := Int.mul_comm _ _
    rw [e2]
    refine ⟨by omega, by omega, ?_⟩
    have e3 : F + S * (j : Int) - O = S * ((t - W - O) / S + 1 + j) := by rw [hf]; simp only [Int.mul_add]; omega
    rw [e3, Int.mul_comm]
    exact Int.mul_tmod_left _ _
/-- a step further, a window further -/
theorem moves_first (W S O t : Int) (hS : 0 < S) : firstW W S O (t + S) = firstW W S O t + S := by
  rw [firstW_form, firstW_form, show t + S - W - O = t - W - O + S * 1 by omega, Int.add_mul_ediv_left _ _ (by omega)]
  simp only [Int.mul_add]; omega
theorem moves_count (W S O t : Int) (hS : 0 < S) : countW (firstW W S O (t + S)) S (t + S) = countW (firstW W S O t) S t := by
  unfold countW; rw [moves_first W S O t hS, show t + S - (firstW W S O t + S) = t - firstW W S O t by omega]
/-- within a bucket of windows that are made of buckets -/
theorem div_bucket (W S O t d : Int) (hd : 0 < d) (hS : 0 < S) (hW : d ∣ W) (hSd : d ∣ S) (hO : d ∣ O) : (t - t % d - W - O) / S = (t - W - O) / S := by
  obtain ⟨ww, rfl⟩ := hW
  obtain ⟨s, rfl⟩ := hSd
  obtain ⟨oo, rfl⟩ := hO
  have hs : 0 < s := by
    rcases Int.lt_or_le 0 s with h | h
    · exact h
    · have := Int.mul_nonpos_of_nonneg_of_nonpos (show 0 ≤ d by omega) h; omega
  have key : ∀ x : Int, x / (d * s) = x / d / s := fun x => by rw [Int.ediv_ediv, if_neg (fun h => by omega), Int.sub_zero]
  rw [key, key]
  congr 1
  have e1 : t - t % d - d * ww - d * oo = 0 + d * (t / d - ww - oo) := by
    have := Int.mul_ediv_add_emod t d
    simp only [Int.mul_sub]; omega
  have e2 : t - d * ww - d * oo = t + d * (-ww - oo) := by simp only [Int.mul_sub, Int.mul_neg]; omega
  rw [e1, e2, Int.add_mul_ediv_left _ _ (by omega), Int.add_mul_ediv_left _ _ (by omega)]
  simp; omega
theorem bucket_first (W S O t d : Int) (hd : 0 < d) (hS : 0 < S) (hW : d ∣ W) (hSd : d ∣ S) (hO : d ∣ O) : firstW W S O (t - t % d) = firstW W S O t := by
  rw [firstW_form, firstW_form, div_bucket W S O t d hd hS hW hSd hO]
theorem bucket_count (W S O t d : Int) (hd : 0 < d) (hS : 0 < S) (hW : d ∣ W) (hSd : d ∣ S) (hO : d ∣ O) : countW (firstW W S O (t - t % d)) S (t - t % d) = countW (firstW W S O t) S t := by
  unfold countW
  rw [bucket_first W S O t d hd hS hW hSd hO]
  have hf := firstW_form W S O t
  have h1 : d ∣ firstW W S O t := by
    rw [hf]
    exact Int.dvd_add hO (Int.dvd_trans hSd (Int.dvd_mul_right _ _))
  have := div_bucket (firstW W S O t) S 0 t d hd hS h1 hSd (Int.dvd_zero _)
  simp only [Int.sub_zero] at this
  rw [this]
theorem go_mod (t d : Int) (hd : 0 < d) : (t.tmod d + d).tmod d = t % d := by
  have h1 := Int.tmod_lt_of_pos t hd
  have h2 := Int.lt_tmod_of_pos t hd
  rw [Int.tmod_eq_emod_of_nonneg (by omega), Int.add_emod_right]
  have h3 := Int.mul_tdiv_add_tmod t d
  have e : t.tmod d = t + d * (-(t.tdiv d)) := by rw [Int.mul_neg]; omega
  rw [e, Int.add_mul_emod_self_left]
theorem first_unique (W S O t x p : Int) (hS : 0 < S) (hx : x = O + S * p) (h1 : t - W < x) (h2 : x ≤ t - W + S) : x = firstW W S O t := by
  have hb := firstW_bd (W := W) (S := S) (O := O) (t := t) hS
  have hf := firstW_form W S O t
  generalize (t - W - O) / S + 1 = q at hf
  have e : S * p - S * q = x - firstW W S O t := by omega
  rw [← Int.mul_sub] at e
  have hpq : p - q = 0 := by
    rcases Int.lt_trichotomy (p - q) 0 with h | h | h
    · have : S * (p - q) ≤ S * (-1) := Int.mul_le_mul_of_nonneg_left (by omega) (by omega)
      omega
    · exact h
    · have : S * 1 ≤ S * (p - q) := Int.mul_le_mul_of_nonneg_left (by omega) (by omega)
      omega
  rw [hpq] at e
  omega
theorem count_lt (F S e : Int) (k : Nat) (hS : 0 < S) (hF : F ≤ e) : F + k * S ≤ e ↔ k < countW F S e := by
  have h0 := Int.ediv_nonneg (show 0 ≤ e - F by omega) (show 0 ≤ S by omega)
  have h1 : (k : Int) * S ≤ e - F ↔ (k : Int) ≤ (e - F) / S := (Int.le_ediv_iff_mul_le hS).symm
  unfold countW
  omega
end Go.Proofs.Ytljepnonigjcbaa

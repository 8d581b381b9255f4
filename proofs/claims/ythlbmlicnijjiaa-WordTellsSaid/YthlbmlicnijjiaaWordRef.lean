/- Contracts of the reference's functions of layer 1: what each call returns; nothing is changed. -/
import Derived.Test.YthlbmlicnijjiaaWordWalk
namespace Go.Proofs.Ythlbmlicnijjiaa
open Go.RowKit WordMath
set_option linter.unusedVariables false

theorem refZig_any (n : Int) (w : World) (h0 : -9223372036854775808 ≤ n) (h1 : n ≤ 9223372036854775807) :
    Calls Try.prog 21 #[.int .i64 n] w fun e w' => e = .returned (.int .u64 (zig n)) ∧ w = w' := by
  by_cases hn : 0 ≤ n
  · go_enter Try.func21, Try.ntmps21
    go_wp2
    go_ret
    exact ⟨ret_int (by unfold zig; rw [if_pos hn]; first | omega | (simp only [IntKind.wrap_u64]; omega)), rfl⟩
  · go_enter Try.func21, Try.ntmps21
    go_wp2
    go_ret
    exact ⟨ret_int (by unfold zig; rw [if_neg (by omega)]; first | omega | (simp only [IntKind.wrap_u64]; omega)), rfl⟩
theorem refZag_any (u : Int) (w : World) (h0 : 0 ≤ u) (h1 : u < 18446744073709551616) :
    Calls Try.prog 22 #[.int .u64 u] w fun e w' => e = .returned (.int .i64 (zag u)) ∧ w = w' := by
  by_cases hn : u % 2 = 0
  · have hb : (u % 2 == 0) = true := by simp [hn]
    have H := Lib.hid hn; clear hn
    go_enter Try.func22, Try.ntmps22
    go_wp2
    go_ret
    exact ⟨ret_int (by have h := H.out; unfold zag; split <;> first | omega | (unfold wrap64; omega)), rfl⟩
  · have hb : (u % 2 == 0) = false := by simp [hn]
    have H := Lib.hid hn; clear hn
    go_enter Try.func22, Try.ntmps22
    go_wp2
    go_ret
    exact ⟨ret_int (by have h := H.out; unfold zag; split <;> first | omega | (unfold wrap64; omega)), rfl⟩
theorem refDiv_bad (a b : Int) (w : World) (h : b ≤ 0) :
    Calls Try.prog 19 #[.int .i64 a, .int .i64 b] w fun e w' => e = .returned (.tuple #[.int .i64 0, .bool false]) ∧ w = w' := by
  go_enter Try.func19, Try.ntmps19
  go_wp2
  go_ret2
  exact ⟨rfl, rfl⟩
theorem refMod_bad (a b : Int) (w : World) (h : b ≤ 0) :
    Calls Try.prog 20 #[.int .i64 a, .int .i64 b] w fun e w' => e = .returned (.tuple #[.int .i64 0, .bool false]) ∧ w = w' := by
  go_enter Try.func20, Try.ntmps20
  go_wp2
  go_ret2
  exact ⟨rfl, rfl⟩
theorem refDiv_ok (a b : Int) (w : World) (ha0 : -9223372036854775808 ≤ a) (ha1 : a ≤ 9223372036854775807) (hb : 0 < b) (hb1 : b ≤ 9223372036854775807) :
    Calls Try.prog 19 #[.int .i64 a, .int .i64 b] w fun e w' => e = .returned (.tuple #[.int .i64 (a / b), .bool true]) ∧ w = w' := by
  have hd := ediv_bd a b ha0 ha1 hb
  by_cases hn : a < 0
  · by_cases hm : a.tmod b < 0
    · have H := Lib.hid (ref_mod_neg a b hn hb hm)
      go_enter Try.func19, Try.ntmps19
      go_wp2
      go_ret2
      exact ⟨ret_int_bool (by have := H.out; first | omega | (unfold wrap64; omega)), rfl⟩
    · have H := Lib.hid (ref_mod_pos a b hn hb hm)
      go_enter Try.func19, Try.ntmps19
      go_wp2
      go_ret2
      exact ⟨ret_int_bool (by have := H.out; first | omega | (unfold wrap64; omega)), rfl⟩
  · have hm := Int.emod_nonneg a (show b ≠ 0 by omega)
    go_enter Try.func19, Try.ntmps19
    go_wp2
    go_ret2
    exact ⟨rfl, rfl⟩
theorem refMod_ok (a b : Int) (w : World) (ha0 : -9223372036854775808 ≤ a) (ha1 : a ≤ 9223372036854775807) (hb : 0 < b) (hb1 : b ≤ 9223372036854775807) :
    Calls Try.prog 20 #[.int .i64 a, .int .i64 b] w fun e w' => e = .returned (.tuple #[.int .i64 (a % b), .bool true]) ∧ w = w' := by
  have hd0 := Int.emod_nonneg a (show b ≠ 0 by omega)
  have hd1 := Int.emod_lt_of_pos a hb
  by_cases hn : a < 0
  · by_cases hm : a.tmod b < 0
    · have H := Lib.hid (ref_mod_neg a b hn hb hm)
      go_enter Try.func20, Try.ntmps20
      go_wp2
      go_ret2
      exact ⟨ret_int_bool (by have := H.out; first | omega | (unfold wrap64; omega)), rfl⟩
    · have H := Lib.hid (ref_mod_pos a b hn hb hm)
      go_enter Try.func20, Try.ntmps20
      go_wp2
      go_ret2
      exact ⟨ret_int_bool (by have := H.out; first | omega | (unfold wrap64; omega)), rfl⟩
  · go_enter Try.func20, Try.ntmps20
    go_wp2
    go_ret2
    exact ⟨rfl, rfl⟩
theorem refFits_any (n many : Int) (w : World) (h0 : -9223372036854775808 ≤ n) (h1 : n ≤ 9223372036854775807) :
    Calls Try.prog 26 #[.int .i64 n, .int .i64 many] w fun e w' => e = .returned (.bool (fitsB n many)) ∧ w = w' := by
  by_cases hm : 0 ≤ many
  · by_cases hm2 : 64 ≤ many
    · go_enter Try.func26, Try.ntmps26
      go_wp2_with (go_at_call 21; refine (refZig_any _ _ h0 h1).mono ?_; rintro e w' ⟨rfl, rfl⟩)
      go_ret
      exact ⟨by simp [fitsB, hm, hm2], rfl⟩
    · have HF := Lib.hid (fits_shift n many h0 h1 hm (by omega))
      have hmin : min many.toNat 64 = many.toNat := by omega
      go_enter Try.func26, Try.ntmps26
      go_wp2_with (go_at_call 21; refine (refZig_any _ _ h0 h1).mono ?_; rintro e w' ⟨rfl, rfl⟩)
      go_ret
      exact ⟨by rw [← HF.out]; simp; omega, rfl⟩
  · go_enter Try.func26, Try.ntmps26
    go_wp2_with (go_at_call 21; refine (refZig_any _ _ h0 h1).mono ?_; rintro e w' ⟨rfl, rfl⟩)
    go_ret
    exact ⟨by simp only [fitsB]; rw [decide_eq_false (by omega : ¬ 0 ≤ many)]; simp, rfl⟩
theorem refLead_any (u : Nat) (w : World) (hu : u < 2 ^ 64) :
    Calls Try.prog 23 #[.int .u64 u] w fun e w' => e = .returned (.int .i64 (lead u)) ∧ w = w' := by
  go_enter Try.func23, Try.ntmps23
  go_wp2
  go_loop [3] (fun y => ∃ k : Nat, k ≤ 64 ∧ u < 2 ^ (64 - k) ∧ y = .int .i64 k) (fun y => 64 - (intOf y).toNat)
  case atStart => exact ⟨0, by omega, by simpa using hu, rfl⟩
  case round =>
    obtain ⟨k, hk, hlt, rfl⟩ := hrel
    by_cases hk2 : k < 64
    · have hf := bit_form u (63 - k) hu
      by_cases hb : bit u (63 - k) = 0
      · have H := Lib.hid (ref_lead_more u k hlt hk2 hb)
        have HB : bits BinOp.and IntKind.u64 ((u : Int) / 2 ^ (63 - k)) 1 = 0 := by rw [hf, hb]; rfl
        clear hf hlt hb
        go_wp2
        exact ⟨⟨k + 1, by omega, H.out, by go_num⟩, by simp [intOf]; omega⟩
      · have hb1 : bit u (63 - k) = 1 := by unfold bit at *; omega
        have H := Lib.hid (ref_lead_end u k hlt hk2 hb1)
        have HB : bits BinOp.and IntKind.u64 ((u : Int) / 2 ^ (63 - k)) 1 = 1 := by rw [hf, hb1]; rfl
        clear hf hlt hb hb1
        go_wp2
        go_ret
        exact ⟨ret_int (by rw [H.out]), rfl⟩
    · obtain rfl : k = 64 := by omega
      have H : Hid (u = 0) := by simp at hlt; exact hlt
      clear hlt
      go_wp2
      go_ret
      exact ⟨ret_int (by rw [H.out]; rfl), rfl⟩
theorem refTrail_any (u : Nat) (w : World) (hu : u < 2 ^ 64) :
    Calls Try.prog 24 #[.int .u64 u] w fun e w' => e = .returned (.int .i64 (trail u)) ∧ w = w' := by
  go_enter Try.func24, Try.ntmps24
  go_wp2
  go_loop [3] (fun y => ∃ k : Nat, k ≤ 64 ∧ u % 2 ^ k = 0 ∧ y = .int .i64 k) (fun y => 64 - (intOf y).toNat)
  case atStart => exact ⟨0, by omega, by simp [Nat.mod_one], rfl⟩
  case round =>
    obtain ⟨k, hk, hlt, rfl⟩ := hrel
    by_cases hk2 : k < 64
    · have hf := bit_form u k hu
      by_cases hb : bit u k = 0
      · have H := Lib.hid (ref_trail_more u k hlt hb)
        have HB : bits BinOp.and IntKind.u64 ((u : Int) / 2 ^ k) 1 = 0 := by rw [hf, hb]; rfl
        clear hf hlt hb
        go_wp2
        exact ⟨⟨k + 1, by omega, H.out, by go_num⟩, by simp [intOf]; omega⟩
      · have hb1 : bit u k = 1 := by unfold bit at *; omega
        have H := Lib.hid (ref_trail_end u k hu hlt hb1)
        have HB : bits BinOp.and IntKind.u64 ((u : Int) / 2 ^ k) 1 = 1 := by rw [hf, hb1]; rfl
        clear hf hlt hb hb1
        go_wp2
        go_ret
        exact ⟨ret_int (by rw [H.out]), rfl⟩
    · obtain rfl : k = 64 := by omega
      have H : Hid (u = 0) := by rw [Nat.mod_eq_of_lt hu] at hlt; exact hlt
      clear hlt
      go_wp2
      go_ret
      exact ⟨ret_int (by rw [H.out]; rfl), rfl⟩
theorem refOnes_any (u : Nat) (w : World) (hu : u < 2 ^ 64) :
    Calls Try.prog 25 #[.int .u64 u] w fun e w' => e = .returned (.int .i64 (onesTo u 64)) ∧ w = w' := by
  go_enter Try.func25, Try.ntmps25
  go_wp2
  go_loop [3, 4] (fun y i => ∃ k : Nat, k ≤ 64 ∧ i = .int .i64 k ∧ y = .int .i64 (onesTo u k)) (fun _ i => 64 - (intOf i).toNat)
  case atStart => exact ⟨0, by omega, rfl, rfl⟩
  case round =>
    obtain ⟨k, hk, rfl, rfl⟩ := hrel
    by_cases hk2 : k < 64
    · have hf := bit_form u k hu
      have hle := onesTo_le u k
      by_cases hb : bit u k = 1
      · have HB : bits BinOp.and IntKind.u64 ((u : Int) / 2 ^ k) 1 = 1 := by rw [hf, hb]; rfl
        have H := Lib.hid (show onesTo u (k + 1) = onesTo u k + 1 by rw [onesTo, hb])
        clear hf hb
        go_wp2
        exact ⟨⟨k + 1, by omega, by go_num, by rw [H.out]; go_num⟩, by simp [intOf]; omega⟩
      · have hb0 : bit u k = 0 := by unfold bit at *; omega
        have HB : bits BinOp.and IntKind.u64 ((u : Int) / 2 ^ k) 1 = 0 := by rw [hf, hb0]; rfl
        have H := Lib.hid (show onesTo u (k + 1) = onesTo u k by rw [onesTo, hb0]; rfl)
        clear hf hb hb0
        go_wp2
        exact ⟨⟨k + 1, by omega, by go_num, by rw [H.out]⟩, by simp [intOf]; omega⟩
    · go_wp2
      go_ret
      exact ⟨ret_int (by rw [show k = 64 by omega]), rfl⟩
end Go.Proofs.Ythlbmlicnijjiaa

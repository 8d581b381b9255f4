/- The walk of WordBits: it returns true for every input. -/
import Derived.Test.YthlbmlicnijjiaaWordWalk
namespace Go.Proofs.Ythlbmlicnijjiaa
open Go.RowKit Go.ChangeShapes WordMath
set_option linter.unusedVariables false

theorem wordBits_zero (a : Int) (c : Nat) (hc : bits BinOp.and IntKind.i64 a 63 = c) (hc1 : c < 64) (v : Nat) (hv : v < 2 ^ 64) (hx : bits BinOp.xor IntKind.u64 0 (IntKind.u64.wrap (2 ^ c)) = (v : Int)) (hd : onesTo v 64 = 1) (w : World) :
    Calls Try.prog 7 #[.int .u64 0, .int .i64 a] w fun e w' => e = .returned (.bool true) ∧ Below w.heap.size w w' := by
  have o0 : onesTo 0 64 = 0 := by decide
  have l0 : lead 0 = 64 := rfl
  have t0 : trail 0 = 64 := rfl
  go_enter Try.func7, Try.ntmps7
  go_wp2_with (first | (go_at_call 15; refine (lead_int _ _ (by omega) (by omega)).mono ?_; rintro e w' ⟨rfl, hb1⟩) | (go_at_call 17; refine (trail_int _ _ (by omega) (by omega)).mono ?_; rintro e w'' ⟨rfl, hb2⟩) | (go_at_call 18; refine (ones_int _ _ (by omega) (by omega)).mono ?_; rintro e w' ⟨rfl, rfl⟩))
  go_ret
  exact ⟨rfl, hb1.trans (hb2.mono hb1.size)⟩
theorem wordBits_more (u : Nat) (hu : u < 2 ^ 64) (hu0 : ((u : Int) == 0) = false) (hl : lead u ≤ 63) (ht : trail u ≤ 63) (a : Int) (c : Nat) (hc : bits BinOp.and IntKind.i64 a 63 = c) (hc1 : c < 64)
    (v : Nat) (hv : v < 2 ^ 64) (hx : bits BinOp.xor IntKind.u64 u (IntKind.u64.wrap (2 ^ c)) = (v : Int)) (ho : onesTo u 64 ≤ 64) (ho2 : onesTo v 64 ≤ 64)
    (q1 : (u : Int) / 2 ^ (63 - lead u) = 1) (q2 : bits BinOp.and IntKind.u64 ((u : Int) / 2 ^ trail u) 1 = 1) (q3 : (IntKind.u64.wrap ((u : Int) * 2 ^ (63 - trail u)) == 9223372036854775808) = true)
    (q4 : ((onesTo v 64 : Int) - onesTo u 64 = 1 ∧ bits BinOp.and IntKind.u64 ((u : Int) / 2 ^ c) 1 = 0) ∨ ((onesTo v 64 : Int) - onesTo u 64 = -1 ∧ bits BinOp.and IntKind.u64 ((u : Int) / 2 ^ c) 1 = 1)) (w : World) :
    Calls Try.prog 7 #[.int .u64 u, .int .i64 a] w fun e w' => e = .returned (.bool true) ∧ Below w.heap.size w w' := by
  rcases q4 with ⟨d1, b1⟩ | ⟨d1, b1⟩
  · go_enter Try.func7, Try.ntmps7
    go_wp2_with (first | (go_at_call 15; refine (lead_int _ _ (by omega) (by omega)).mono ?_; rintro e w' ⟨rfl, hb1⟩) | (go_at_call 17; refine (trail_int _ _ (by omega) (by omega)).mono ?_; rintro e w'' ⟨rfl, hb2⟩) | (go_at_call 18; refine (ones_int _ _ (by omega) (by omega)).mono ?_; rintro e w' ⟨rfl, rfl⟩))
    go_ret
    exact ⟨rfl, hb1.trans (hb2.mono hb1.size)⟩
  · go_enter Try.func7, Try.ntmps7
    go_wp2_with (first | (go_at_call 15; refine (lead_int _ _ (by omega) (by omega)).mono ?_; rintro e w' ⟨rfl, hb1⟩) | (go_at_call 17; refine (trail_int _ _ (by omega) (by omega)).mono ?_; rintro e w'' ⟨rfl, hb2⟩) | (go_at_call 18; refine (ones_int _ _ (by omega) (by omega)).mono ?_; rintro e w' ⟨rfl, rfl⟩))
    go_ret
    exact ⟨rfl, hb1.trans (hb2.mono hb1.size)⟩
theorem xor_bit (u c : Nat) (hu : u < 2 ^ 64) (hc : c < 64) : bits BinOp.xor IntKind.u64 (u : Int) (IntKind.u64.wrap (2 ^ c)) = ((u ^^^ 2 ^ c : Nat) : Int) := by
  have hlt : 2 ^ c < 2 ^ 64 := Nat.pow_lt_pow_right (by decide) hc
  have e : ((2 : Int) ^ c) = ((2 ^ c : Nat) : Int) := by simp
  rw [e]
  clear e
  generalize 2 ^ c = p at *
  rw [IntKind.wrap_u64, Int.emod_eq_of_lt (by omega) (by omega)]
  exact bits_xor_u64_nat u p (by omega) (by omega)
theorem wordBits_walk (u : Int) (hu : 0 ≤ u ∧ u ≤ 18446744073709551615) (a : Int) (ha : -9223372036854775808 ≤ a ∧ a ≤ 9223372036854775807) (w : World) :
    Calls Try.prog 7 #[.int .u64 u, .int .i64 a] w fun e w' => e = .returned (.bool true) ∧ Below w.heap.size w w' := by
  obtain ⟨U, rfl⟩ := Int.eq_ofNat_of_zero_le hu.1
  have hU : U < 2 ^ 64 := by omega
  have hm := and_mask_i64 a 63 6 (by decide) rfl
  obtain ⟨c, hc⟩ := Int.eq_ofNat_of_zero_le (show 0 ≤ a % (63 + 1) by omega)
  rw [hc] at hm
  have hc1 : c < 64 := by omega
  have hlt : 2 ^ c < 2 ^ 64 := Nat.pow_lt_pow_right (by decide) hc1
  have hv : U ^^^ 2 ^ c < 2 ^ 64 := Nat.xor_lt_two_pow hU hlt
  have hfl := ones_flip U c 64
  rw [if_pos hc1] at hfl
  by_cases h0 : U = 0
  · subst h0
    refine wordBits_zero a c hm hc1 (0 ^^^ 2 ^ c) hv (xor_bit 0 c hU hc1) ?_ w
    have b0 : bit 0 c = 0 := by simp [bit]
    have o0 : onesTo 0 64 = 0 := by decide
    rw [b0, o0] at hfl
    omega
  · have ht := trail_bits U h0 hU
    refine wordBits_more U hU (by simp [h0]) (lead_spec U h0 hU).1 ht.1 a c hm hc1 (U ^^^ 2 ^ c) hv (xor_bit U c hU hc1) (onesTo_le _ _) (onesTo_le _ _) ?_ ?_ ?_ ?_ w
    · have := lead_top U h0 hU
      rw [show ((2 : Int) ^ (63 - lead U)) = ((2 ^ (63 - lead U) : Nat) : Int) by simp, ← Int.natCast_ediv, this]; rfl
    · rw [bit_form U _ hU]; unfold bit; rw [ht.2.1]; rfl
    · rw [show ((2 : Int) ^ (63 - trail U)) = ((2 ^ (63 - trail U) : Nat) : Int) by simp, ← Int.natCast_mul, IntKind.wrap_u64, beq_iff_eq]
      have := ht.2.2
      omega
    · rw [bit_form U c hU]
      have hb : bit U c ≤ 1 := by unfold bit; omega
      omega
end Go.Proofs.Ythlbmlicnijjiaa

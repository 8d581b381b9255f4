/- Contracts of the other functions of the package word: what each call returns; nothing that was there is changed. -/
import Derived.Test.YthlbmlicnijjiaaProg
import Derived.Test.YthlbmlicnijjiaaWordDiv
import Derived.WalkKit
import Derived.WalkLawsBesides
import Derived.Lib.Hide
import Derived.KernelRfl
namespace Go.Proofs.Ythlbmlicnijjiaa
open Go.RowKit WordMath
set_option linter.unusedVariables false

theorem zig_form (n : Int) (h0 : -9223372036854775808 ≤ n) (h1 : n ≤ 9223372036854775807) : bits BinOp.xor IntKind.u64 (IntKind.u64.wrap (IntKind.u64.wrap n * 2)) (IntKind.u64.wrap (n / 9223372036854775808)) = zig n := by
  unfold zig
  simp only [IntKind.wrap_u64]
  split
  · rw [show n / 9223372036854775808 % 18446744073709551616 = 0 by omega, xor_zero_u64 _ (by omega) (by omega)]; omega
  · rw [show n / 9223372036854775808 % 18446744073709551616 = 18446744073709551615 by omega, xor_ones_u64 _ (by omega) (by omega)]; omega
theorem zig_any (n : Int) (w : World) (h0 : -9223372036854775808 ≤ n) (h1 : n ≤ 9223372036854775807) :
    Calls Try.prog 10 #[.int .i64 n] w fun e w' => e = .returned (.int .u64 (zig n)) ∧ w = w' := by
  go_enter Try.func10, Try.ntmps10
  go_wp2
  go_ret
  exact ⟨ret_int (zig_form n h0 h1), rfl⟩

theorem and_one_form (u : Int) (h0 : 0 ≤ u) (h1 : u < 18446744073709551616) : bits BinOp.and IntKind.u64 u 1 = u % 2 := by
  rw [u64_and u 1 h0 h1 (by decide) (by decide)]
  have := and_mask_nat u.toNat 1
  simp only [Nat.reducePow, Nat.add_one_sub_one] at this
  rw [show Int.toNat 1 = 1 from rfl, this]; omega
theorem bit_form (u c : Nat) (hu : u < 2 ^ 64) : bits BinOp.and IntKind.u64 ((u : Int) / 2 ^ c) 1 = (bit u c : Nat) := by
  have e : (u : Int) / 2 ^ c = ((u / 2 ^ c : Nat) : Int) := by simp
  have hle : u / 2 ^ c ≤ u := Nat.div_le_self _ _
  unfold bit
  rw [e]
  generalize u / 2 ^ c = q at *
  rw [and_one_form _ (by omega) (by omega)]; omega
theorem zag_form (u : Int) (h0 : 0 ≤ u) (h1 : u < 18446744073709551616) : bits BinOp.xor IntKind.i64 (wrap64 (u / 2)) (wrap64 (-wrap64 (bits BinOp.and IntKind.u64 u 1))) = zag u := by
  rw [and_one_form u h0 h1]
  unfold zag wrap64
  split
  · rw [show (-((u % 2 + 9223372036854775808) % 18446744073709551616 - 9223372036854775808) + 9223372036854775808) % 18446744073709551616 - 9223372036854775808 = 0 by omega, xor_zero_i64 _ (by omega) (by omega)]; omega
  · rw [show (-((u % 2 + 9223372036854775808) % 18446744073709551616 - 9223372036854775808) + 9223372036854775808) % 18446744073709551616 - 9223372036854775808 = -1 by omega, xor_neg_i64 _ (by omega) (by omega)]; omega
theorem zag_any (u : Int) (w : World) (h0 : 0 ≤ u) (h1 : u < 18446744073709551616) :
    Calls Try.prog 9 #[.int .u64 u] w fun e w' => e = .returned (.int .i64 (zag u)) ∧ w = w' := by
  have H := Lib.hid h1; clear h1
  go_enter Try.func9, Try.ntmps9
  go_wp2
  go_ret
  exact ⟨ret_int (zag_form u h0 H.out), rfl⟩

theorem steps_any (w : World) :
    Calls Try.prog 27 #[] w fun e w' => e = .returned (.agg #[.int .i64 32, .int .i64 16, .int .i64 8, .int .i64 4, .int .i64 2, .int .i64 1]) ∧ Below w.heap.size w w' := by
  go_enter Try.func27, Try.ntmps27
  go_wp2
  exact bodyPost_ret (v := .agg #[.int .i64 32, .int .i64 16, .int .i64 8, .int .i64 4, .int .i64 2, .int .i64 1]) (by simp [results, Try.results27, go_sem]) rfl ⟨rfl, (Below.refl _ _).alloc (Nat.le_refl _) _⟩

theorem lead_any (u : Nat) (w : World) (hu : u < 2 ^ 64) :
    Calls Try.prog 15 #[.int .u64 u] w fun e w' => e = .returned (.int .i64 (lead u)) ∧ Below w.heap.size w w' := by
  by_cases h0 : u = 0
  · subst h0
    go_enter Try.func15, Try.ntmps15
    go_wp2
    go_ret
    exact ⟨rfl, Below.refl _ _⟩
  · have hb : ((u : Int) == 0) = false := by simp [h0]
    have H0 := Lib.hid h0; clear h0
    have HU := Lib.hid hu; clear hu
    have i0 : ∀ w : World, (Instr.index 33 (.agg #[.int .i64 32, .int .i64 16, .int .i64 8, .int .i64 4, .int .i64 2, .int .i64 1]) (.int .i64 0)).run Try.prog w = .ok (.int .i64 32) w := fun _ => by kernel_rfl
    have i1 : ∀ w : World, (Instr.index 33 (.agg #[.int .i64 32, .int .i64 16, .int .i64 8, .int .i64 4, .int .i64 2, .int .i64 1]) (.int .i64 1)).run Try.prog w = .ok (.int .i64 16) w := fun _ => by kernel_rfl
    have i2 : ∀ w : World, (Instr.index 33 (.agg #[.int .i64 32, .int .i64 16, .int .i64 8, .int .i64 4, .int .i64 2, .int .i64 1]) (.int .i64 2)).run Try.prog w = .ok (.int .i64 8) w := fun _ => by kernel_rfl
    have i3 : ∀ w : World, (Instr.index 33 (.agg #[.int .i64 32, .int .i64 16, .int .i64 8, .int .i64 4, .int .i64 2, .int .i64 1]) (.int .i64 3)).run Try.prog w = .ok (.int .i64 4) w := fun _ => by kernel_rfl
    have i4 : ∀ w : World, (Instr.index 33 (.agg #[.int .i64 32, .int .i64 16, .int .i64 8, .int .i64 4, .int .i64 2, .int .i64 1]) (.int .i64 4)).run Try.prog w = .ok (.int .i64 2) w := fun _ => by kernel_rfl
    have i5 : ∀ w : World, (Instr.index 33 (.agg #[.int .i64 32, .int .i64 16, .int .i64 8, .int .i64 4, .int .i64 2, .int .i64 1]) (.int .i64 5)).run Try.prog w = .ok (.int .i64 1) w := fun _ => by kernel_rfl
    go_enter Try.func15, Try.ntmps15
    go_wp2_with (go_at_call 27; refine (steps_any _).mono ?_; rintro e w' ⟨rfl, hbel⟩)
    go_loop [0, 3, 9] (fun x y i => ∃ k U n : Nat, k ≤ 6 ∧ i = .int .i64 k ∧ x = .int .u64 U ∧ y = .int .i64 n ∧ LeadRel u k U n) (fun _ _ i => 6 - (intOf i).toNat)
    case atStart => exact ⟨0, u, 0, by omega, rfl, rfl, rfl, by simp, HU.out, by have := H0.out; simp; omega, by simp⟩
    case round =>
      obtain ⟨k, U, n, hk, rfl, rfl, rfl, hrel⟩ := hrel
      have HR := Lib.hid hrel; clear hrel
      have hk5 : k = 0 ∨ k = 1 ∨ k = 2 ∨ k = 3 ∨ k = 4 ∨ k = 5 ∨ k = 6 := by omega
      rcases hk5 with rfl | rfl | rfl | rfl | rfl | rfl | rfl
      · go_wp2
        · obtain ⟨e1, e2, r⟩ := leadRel_yes 32 rfl (by decide) HR.out 4294967296 4294967296 rfl rfl ‹_›
          exact ⟨⟨1, _, _, by decide, rfl, congrArg _ e1, congrArg _ e2, r⟩, by decide⟩
        · exact ⟨⟨1, _, _, by decide, rfl, rfl, rfl, leadRel_no 32 rfl (by decide) HR.out 4294967296 rfl ‹_›⟩, by decide⟩
      · go_wp2
        · obtain ⟨e1, e2, r⟩ := leadRel_yes 16 rfl (by decide) HR.out 281474976710656 65536 rfl rfl ‹_›
          exact ⟨⟨2, _, _, by decide, rfl, congrArg _ e1, congrArg _ e2, r⟩, by decide⟩
        · exact ⟨⟨2, _, _, by decide, rfl, rfl, rfl, leadRel_no 16 rfl (by decide) HR.out 281474976710656 rfl ‹_›⟩, by decide⟩
      · go_wp2
        · obtain ⟨e1, e2, r⟩ := leadRel_yes 8 rfl (by decide) HR.out 72057594037927936 256 rfl rfl ‹_›
          exact ⟨⟨3, _, _, by decide, rfl, congrArg _ e1, congrArg _ e2, r⟩, by decide⟩
        · exact ⟨⟨3, _, _, by decide, rfl, rfl, rfl, leadRel_no 8 rfl (by decide) HR.out 72057594037927936 rfl ‹_›⟩, by decide⟩
      · go_wp2
        · obtain ⟨e1, e2, r⟩ := leadRel_yes 4 rfl (by decide) HR.out 1152921504606846976 16 rfl rfl ‹_›
          exact ⟨⟨4, _, _, by decide, rfl, congrArg _ e1, congrArg _ e2, r⟩, by decide⟩
        · exact ⟨⟨4, _, _, by decide, rfl, rfl, rfl, leadRel_no 4 rfl (by decide) HR.out 1152921504606846976 rfl ‹_›⟩, by decide⟩
      · go_wp2
        · obtain ⟨e1, e2, r⟩ := leadRel_yes 2 rfl (by decide) HR.out 4611686018427387904 4 rfl rfl ‹_›
          exact ⟨⟨5, _, _, by decide, rfl, congrArg _ e1, congrArg _ e2, r⟩, by decide⟩
        · exact ⟨⟨5, _, _, by decide, rfl, rfl, rfl, leadRel_no 2 rfl (by decide) HR.out 4611686018427387904 rfl ‹_›⟩, by decide⟩
      · go_wp2
        · obtain ⟨e1, e2, r⟩ := leadRel_yes 1 rfl (by decide) HR.out 9223372036854775808 2 rfl rfl ‹_›
          exact ⟨⟨6, _, _, by decide, rfl, congrArg _ e1, congrArg _ e2, r⟩, by decide⟩
        · exact ⟨⟨6, _, _, by decide, rfl, rfl, rfl, leadRel_no 1 rfl (by decide) HR.out 9223372036854775808 rfl ‹_›⟩, by decide⟩
      · go_wp2
        go_ret
        exact ⟨ret_int (leadRel_end HR.out), hbel⟩

theorem low_form (u : Nat) (h : u < 2 ^ 64) (h0 : u ≠ 0) : bits BinOp.and IntKind.u64 (u : Int) (IntKind.u64.wrap (-(u : Int))) = (low u : Int) := by
  rw [IntKind.wrap_u64, u64_and _ _ (by omega) (by omega) (by omega) (by omega), Int.toNat_natCast]
  have e : (-(u : Int) % 18446744073709551616).toNat = 2 ^ 64 - u := by omega
  rw [e]; rfl
theorem trail_any (u : Nat) (w : World) (hu : u < 2 ^ 64) :
    Calls Try.prog 17 #[.int .u64 u] w fun e w' => e = .returned (.int .i64 (trail u)) ∧ Below w.heap.size w w' := by
  by_cases h0 : u = 0
  · subst h0
    go_enter Try.func17, Try.ntmps17
    go_wp2
    go_ret
    exact ⟨rfl, Below.refl _ _⟩
  · have hb : ((u : Int) == 0) = false := by simp [h0]
    have hl := lead_any (low u) w (low_bd u hu)
    have HF := Lib.hid (low_form u hu h0)
    have HT : Hid (trail u = 63 - lead (low u) ∧ lead (low u) ≤ 63) := ⟨by unfold trail; rw [if_neg h0], (lead_spec _ (low_ne u h0 hu) (low_bd u hu)).1⟩
    have H0 := Lib.hid h0; clear h0
    have HU := Lib.hid hu; clear hu
    have HL := Lib.hid hl; clear hl
    go_enter Try.func17, Try.ntmps17
    go_wp2_with (fail)
    rw [HF.out]
    refine HL.out.mono ?_
    rintro e w' ⟨rfl, hbel⟩
    go_wp2
    go_ret
    exact ⟨ret_int (by have := HT.out; unfold wrap64; omega), hbel⟩

theorem ones_form (u k : Nat) (hu : u < 2 ^ 64) (hk : k < 64) : wrap64 ((onesTo u k : Int) + wrap64 (bits BinOp.and IntKind.u64 ((u : Int) / 2 ^ k) 1)) = (onesTo u (k + 1) : Nat) := by
  have e : (u : Int) / 2 ^ k = ((u / 2 ^ k : Nat) : Int) := by simp
  have hle : u / 2 ^ k ≤ u := Nat.div_le_self _ _
  simp only [onesTo, bit]
  rw [e]
  generalize u / 2 ^ k = q at *
  rw [and_one_form _ (by omega) (by omega)]
  have := onesTo_le u k
  unfold wrap64
  omega
theorem ones_any (u : Nat) (w : World) (hu : u < 2 ^ 64) :
    Calls Try.prog 18 #[.int .u64 u] w fun e w' => e = .returned (.int .i64 (onesTo u 64)) ∧ w = w' := by
  go_enter Try.func18, Try.ntmps18
  go_wp2
  go_loop [3, 5] (fun y i => ∃ k : Nat, k ≤ 64 ∧ i = .int .i64 k ∧ y = .int .i64 (onesTo u k)) (fun _ i => 64 - (intOf i).toNat)
  case atStart => exact ⟨0, by omega, rfl, rfl⟩
  case round =>
    obtain ⟨k, hk, rfl, rfl⟩ := hrel
    by_cases hlt : k < 64
    · go_wp2
      exact ⟨⟨k + 1, by omega, by go_num, congrArg _ (ones_form u k hu hlt)⟩, by simp [intOf]; omega⟩
    · go_wp2
      go_ret
      exact ⟨ret_int (by rw [show k = 64 by omega]), rfl⟩

/-! Fits: as a Bool of its own -/
def fitsB (n many : Int) : Bool := decide (0 ≤ many) && (decide (64 ≤ many) || decide (zig n < 2 ^ many.toNat))
theorem fits_shift (n many : Int) (h0 : -9223372036854775808 ≤ n) (h1 : n ≤ 9223372036854775807) (m0 : 0 ≤ many) (m1 : many < 64) : (zig n / 2 ^ many.toNat == 0) = fitsB n many := by
  have hz := zig_bd n h0 h1
  have hp : (0 : Int) < 2 ^ many.toNat := Int.pow_pos (by decide)
  unfold fitsB
  rw [decide_eq_true m0, decide_eq_false (by omega : ¬ 64 ≤ many), Bool.true_and, Bool.false_or, Bool.eq_iff_iff, decide_eq_true_eq, beq_iff_eq]
  exact ⟨fun h => by
    rcases Int.lt_or_le (zig n) (2 ^ many.toNat) with h2 | h2
    · exact h2
    · have := (Int.le_ediv_iff_mul_le hp (a := 1) (b := zig n)).2 (by omega)
      omega, fun h => Int.ediv_eq_zero_of_lt hz.1 h⟩
theorem fits_any (n many : Int) (w : World) (h0 : -9223372036854775808 ≤ n) (h1 : n ≤ 9223372036854775807) :
    Calls Try.prog 16 #[.int .i64 n, .int .i64 many] w fun e w' => e = .returned (.bool (fitsB n many)) ∧ w = w' := by
  by_cases hm : 0 ≤ many
  · by_cases hm2 : 64 ≤ many
    · go_enter Try.func16, Try.ntmps16
      go_wp2_with (go_at_call 10; refine (zig_any _ _ h0 h1).mono ?_; rintro e w' ⟨rfl, rfl⟩)
      go_ret
      exact ⟨by simp [fitsB, hm, hm2], rfl⟩
    · have HF := Lib.hid (fits_shift n many h0 h1 hm (by omega))
      have hmin : min many.toNat 64 = many.toNat := by omega
      go_enter Try.func16, Try.ntmps16
      go_wp2_with (go_at_call 10; refine (zig_any _ _ h0 h1).mono ?_; rintro e w' ⟨rfl, rfl⟩)
      go_ret
      exact ⟨by rw [← HF.out]; simp, rfl⟩
  · go_enter Try.func16, Try.ntmps16
    go_wp2_with (go_at_call 10; refine (zig_any _ _ h0 h1).mono ?_; rintro e w' ⟨rfl, rfl⟩)
    go_ret
    exact ⟨by simp only [fitsB]; rw [decide_eq_false (by omega : ¬ 0 ≤ many)]; simp, rfl⟩
theorem fits_lead (n c : Int) (h0 : -9223372036854775808 ≤ n) (h1 : n ≤ 9223372036854775807) (c0 : 0 ≤ c) : fitsB n c = decide ((64 : Int) - (lead (zig n).toNat : Nat) ≤ c) := by
  have hz := zig_bd n h0 h1
  unfold fitsB
  rw [decide_eq_true c0, Bool.true_and, Bool.eq_iff_iff, Bool.or_eq_true, decide_eq_true_eq, decide_eq_true_eq, decide_eq_true_eq]
  have hle := lead_le (zig n).toNat
  by_cases hc : 64 ≤ c
  · constructor
    · intro _; omega
    · intro _; exact Or.inl hc
  · have hl := lead_lt (zig n).toNat c.toNat (by omega) (by omega)
    have e : (zig n < 2 ^ c.toNat) ↔ (zig n).toNat < 2 ^ c.toNat := by
      have : ((2 ^ c.toNat : Nat) : Int) = 2 ^ c.toNat := by simp
      omega
    rw [e, hl]
    omega
theorem fits_up (n c : Int) (c0 : 0 ≤ c) (h0 : -9223372036854775808 ≤ n) (h1 : n ≤ 9223372036854775807) (h : fitsB n c = true) : fitsB n (c + 1) = true := by
  rw [fits_lead n _ h0 h1 (by omega), decide_eq_true_eq] at *
  omega
theorem lead_int (u : Int) (w : World) (h0 : 0 ≤ u) (hu : u < 18446744073709551616) :
    Calls Try.prog 15 #[.int .u64 u] w fun e w' => e = .returned (.int .i64 (lead u.toNat)) ∧ Below w.heap.size w w' := by
  have h := lead_any u.toNat w (by omega)
  rwa [Int.toNat_of_nonneg h0] at h
theorem trail_int (u : Int) (w : World) (h0 : 0 ≤ u) (hu : u < 18446744073709551616) :
    Calls Try.prog 17 #[.int .u64 u] w fun e w' => e = .returned (.int .i64 (trail u.toNat)) ∧ Below w.heap.size w w' := by
  have h := trail_any u.toNat w (by omega)
  rwa [Int.toNat_of_nonneg h0] at h
theorem ones_int (u : Int) (w : World) (h0 : 0 ≤ u) (hu : u < 18446744073709551616) :
    Calls Try.prog 18 #[.int .u64 u] w fun e w' => e = .returned (.int .i64 (onesTo u.toNat 64)) ∧ w = w' := by
  have h := ones_any u.toNat w (by omega)
  rwa [Int.toNat_of_nonneg h0] at h
theorem sub_form (a b : Int) : wrap64 (IntKind.u64.wrap (IntKind.u64.wrap a - IntKind.u64.wrap b)) = wrap64 (a - b) := by
  simp only [IntKind.wrap_u64]; unfold wrap64; omega
theorem add_form (a b : Int) : wrap64 (IntKind.u64.wrap (IntKind.u64.wrap a + IntKind.u64.wrap b)) = wrap64 (a + b) := by
  simp only [IntKind.wrap_u64]; unfold wrap64; omega
theorem sub_any (a b : Int) (w : World) :
    Calls Try.prog 12 #[.int .i64 a, .int .i64 b] w fun e w' => e = .returned (.int .i64 (wrap64 (a - b))) ∧ w = w' := by
  go_enter Try.func12, Try.ntmps12
  go_wp2
  go_ret
  exact ⟨ret_int (sub_form a b), rfl⟩
theorem add_any (a b : Int) (w : World) :
    Calls Try.prog 11 #[.int .i64 a, .int .i64 b] w fun e w' => e = .returned (.int .i64 (wrap64 (a + b))) ∧ w = w' := by
  go_enter Try.func11, Try.ntmps11
  go_wp2
  go_ret
  exact ⟨ret_int (add_form a b), rfl⟩
end Go.Proofs.Ythlbmlicnijjiaa

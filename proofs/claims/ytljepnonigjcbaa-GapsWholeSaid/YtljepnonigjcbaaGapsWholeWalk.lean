/- The walk of GapsWhole . -/
import Derived.Test.YtljepnonigjcbaaGFillAll
import Derived.Test.YtljepnonigjcbaaGSide
import Derived.Test.YtljepnonigjcbaaWordMath
namespace Go.Proofs.Ytljepnonigjcbaa
open Go Go.RowKit
set_option linter.unusedVariables false

def wholeV (v : Int) (i : Nat) : Int := (v + i) % 18446744073709551616
theorem wholeV_hi (v : Int) (i : Nat) : hiW (wholeV v i) = 0 := by unfold hiW wholeV; omega
theorem wholeV_lo (v : Int) (i : Nat) : loW (wholeV v i) = wholeV v i := by unfold loW wholeV; omega
theorem wholeV_fits (v : Int) (i : Nat) : fits (wholeV v i) := by unfold fits wholeV; omega
theorem full_ok (S v : Int) (n : Nat) (hS : 1 ≤ S) (hS1 : S ≤ 1000) (hn1 : n ≤ 1000) : ∀ r ∈ fullR S (wholeV v) n, rwOk r := by
  intro r hr
  simp [fullR] at hr
  obtain ⟨i, hi, rfl⟩ := hr
  have h0 : 0 ≤ (i : Int) * S := Int.mul_nonneg (by omega) (by omega)
  have h1 : (i : Int) * S ≤ (i : Int) * 1000 := Int.mul_le_mul_of_nonneg_left hS1 (by omega)
  exact ⟨⟨by dsimp only; omega, by dsimp only; omega⟩, ⟨by dsimp only; omega, by dsimp only; omega⟩, wholeV_fits v i⟩
theorem nullR_ok (S : Int) (n : Nat) (hS : 1 ≤ S) (hS1 : S ≤ 1000) (hn1 : n ≤ 1000) : ∀ r ∈ nullR S n, rwOk r := by
  intro r hr
  simp [nullR] at hr
  obtain ⟨i, hi, rfl⟩ := hr
  have h0 : 0 ≤ (i : Int) * S := Int.mul_nonneg (by omega) (by omega)
  have h1 : (i : Int) * S ≤ (i : Int) * 1000 := Int.mul_le_mul_of_nonneg_left hS1 (by omega)
  exact ⟨⟨by dsimp only [nullRow]; omega, by dsimp only [nullRow]; omega⟩, ⟨by dsimp only [nullRow]; omega, by dsimp only [nullRow]; omega⟩, show fits 0 by decide⟩
theorem fillO_full (how S : Int) (v : Nat → Int) (n : Nat) : fillO how (fullR S v n) (wins 0 S S n) = fullR S v n := by
  unfold fillO
  split
  · rfl
  · rw [wins_length, fill_full how S v n n (Nat.le_refl _)]
def noneR (how S : Int) (n : Nat) : List Rw := if how = 0 then [] else nullR S n
theorem fillO_nil (how S : Int) (n : Nat) : fillO how [] (wins 0 S S n) = noneR how S n := by
  unfold fillO noneR
  split
  · rfl
  · rw [wins_length, fill_nil how S n n (Nat.le_refl _)]
def WholeAt (w2 : World) (k : Nat) (i : Value) (wr : World) : Prop := ∃ (j nn : Nat), j ≤ k ∧ i = .int .i64 j ∧ wr = w2.drewN nn
def WholeRel (W : World) (v : Int) (N : Nat) (v9 v10 : Value) (wr : World) : Prop :=
  ∃ (k : Nat) (A : Option Addr) (c : Nat), k ≤ N ∧ v10 = .int .i64 k ∧ v9 = .slice A k c ∧ wr.ownsRow W.heap.size 39 5 (.slice A k c) k (cells5 (fullR 7 (wholeV v) k)) ∧ Below W.heap.size W wr
set_option maxRecDepth 100000 in
set_option maxHeartbeats 4000000 in
theorem whole_at (w : World) (n how value : Int) (N : Nat) (H : Int) (hn : bits .and .i64 n 63 = (N : Int) - 1) (hN : 1 ≤ N) (hN1 : N ≤ 64) (hh : bits .and .i64 how 3 = H) (hH0 : 0 ≤ H) (hH1 : H ≤ 3) (hv : -9223372036854775808 ≤ value ∧ value ≤ 9223372036854775807) :
    Calls Try.prog 5 #[.int .i64 n, .int .i64 how, .int .i64 value] w fun e w' => e = .returned (.bool true) ∧ Below w.heap.size w w' := by
  have en : IntKind.i64.wrap (1 + ((N : Int) - 1)) = (N : Int) := by rw [IntWalk.i64_in _ (by omega)]; omega
  have e7 : IntKind.i64.wrap (7 * (N : Int)) = 7 * (N : Int) := IntWalk.i64_in _ (by omega)
  go_enter Try.func5, Try.ntmps5
  go_wp2_with fail
  obtain ⟨W0, hW0⟩ : ∃ W, W = (w.alloc (.cells #[.int .i64 7, .int .i64 7, .int .i64 0] 24)).alloc (.cells #[.int .i64 0, .int .i64 (7 * (N : Int))] 26) := ⟨_, rfl⟩
  rw [← hW0]
  go_loopw [9, 10] (WholeRel W0 value N) (fun _ i _ => N - (intOf i).toNat)
  case atStart => exact ⟨0, none, 0, by omega, rfl, rfl, World.ownsRow_nil _ _ _ _, Below.refl _ _⟩
  case round =>
    obtain ⟨k, A', c', hk, rfl, rfl, hown, hbl⟩ := hrel
    have hsz := hbl.size
    by_cases hlt : k < N
    · have h63 : k + 1 ≤ maxLen := Nat.le_trans (show k + 1 ≤ 65536 by omega) (by decide)
      have hby : (k + 1) * 40 ≤ 140737488355328 := by omega
      have ev : IntKind.u64.wrap (IntKind.u64.wrap value + (k : Int)) = wholeV value k := by simp only [IntKind.wrap_u64]; unfold wholeV; omega
      have EV := Lib.hid ev
      clear ev
      go_wp2_with (at_builtin; refine wpList_append_g rowElem hown hbl (Nat.le_refl _) hsz wr.heap.size rfl rfl _ _ rfl [.int .i64 (7 * (k : Int)), .int .i64 (7 * (k : Int) + 7), .bool false, .int .i64 0, .int .u64 (IntKind.u64.wrap (IntKind.u64.wrap value + (k : Int)))] rfl rfl rfl (by simp [Value.oneCell']) h63 hby ?_; intro A1 c1 w3 ho1 hb3 hg1)
      refine ⟨⟨k + 1, A1, c1, by omega, by go_num, rfl, ?_, hb3⟩, by simp [intOf]; omega⟩
      rw [fullR_succ, cells5_append, cells5_one]
      unfold rwCells
      rw [wholeV_hi, wholeV_lo, ← EV.out, Int.mul_comm]
      exact ho1
    · obtain rfl : k = N := by omega
      have hal := fun w => side_wins 7 k (by decide) (by decide) hN (by omega) w
      have hsok := side_ok 7 k (by decide) (by decide) (by omega)
      have hra : RowsAt wr A' (fullR 7 (wholeV value) k) := RowsAt.of_own (base := W0.heap.size) (e := 39) (c := c') (by rw [fullR_length]; exact hown)
      have HFA := Lib.hid (fun (w : World) A c (hr : RowsAt w A (fullR 7 (wholeV value) k)) (hA : A = none → c = 0) => fill_fine A (fullR 7 (wholeV value) k) c 7 7 0 0 (7 * k) H (wins 0 7 7 k) w ⟨hH0, hH1⟩ hr (full_ok 7 value k (by decide) (by decide) (by omega)) (by rw [fullR_length]; omega) (by rw [wins_length]; omega) hsok (full_fine 7 _ k (by decide)) hA hal)
      have HFN := Lib.hid (fun (w : World) => fill_fine none [] 0 7 7 0 0 (7 * k) H (wins 0 7 7 k) w ⟨hH0, hH1⟩ (Cells.zero _ _ _) (by simp) (by simp) (by rw [wins_length]; omega) hsok (nil_fine _) (fun _ => rfl) hal)
      simp only [fillO_nil, List.length_nil] at HFN
      simp only [fullR_length, fillO_full] at HFA
      have d0 : wr.cell? ⟨w.heap.size, 0, none⟩ = some (.int .i64 7) := cell_be hbl (by rw [hW0]; simp)
      have d1 : wr.cell? ⟨w.heap.size, 1, none⟩ = some (.int .i64 7) := cell_be hbl (by rw [hW0]; simp)
      have d2 : wr.cell? ⟨w.heap.size, 2, none⟩ = some (.int .i64 0) := cell_be hbl (by rw [hW0]; simp)
      have d3 : wr.cell? ⟨w.heap.size + 1, 0, none⟩ = some (.int .i64 0) := cell_be hbl (by rw [hW0]; simp)
      have d4 : wr.cell? ⟨w.heap.size + 1, 1, none⟩ = some (.int .i64 (7 * (k : Int))) := cell_be hbl (by rw [hW0]; simp)
      have hB : Below w.heap.size w wr := bel_step (by rw [hW0]; exact ((Below.refl _ _).alloc (Nat.le_refl _) _).alloc (by simp) _) (Nat.le_refl _) hbl
      have hcap := own_cap hown
      clear hown hbl hW0
      go_wp2_with fail
      with_reducible refine (HFA.out _ _ _ hra hcap.1).mono ?_
      rintro e w1 ⟨A1, c1, rfl, hr1, hn1, hl1, hm1, hb1⟩
      rw [fullR_length] at hl1 ⊢
      replace d0 := cell_be hb1 d0
      replace d1 := cell_be hb1 d1
      replace d2 := cell_be hb1 d2
      replace d3 := cell_be hb1 d3
      replace d4 := cell_be hb1 d4
      replace hra := hra.below hb1
      replace hB := bel_step hB (Nat.le_refl _) hb1
      clear hb1
      go_wp2_with fail
      with_reducible refine (HFN.out _).mono ?_
      rintro e w2 ⟨A2, c2, rfl, hr2, hn2, hl2, hm2, hb2⟩
      replace d0 := cell_be hb2 d0
      replace d1 := cell_be hb2 d1
      replace d2 := cell_be hb2 d2
      replace d3 := cell_be hb2 d3
      replace d4 := cell_be hb2 d4
      replace hra := hra.below hb2
      replace hr1 := hr1.below hb2
      replace hB := bel_step hB (Nat.le_refl _) hb2
      clear hb2
      by_cases hz : H = 0
      · subst hz
        have e0 : (noneR 0 7 k).length = 0 := rfl
        rw [e0] at hl2 ⊢
        have HF3 := Lib.hid (fun (w : World) => fill_fine A2 [] c2 7 7 0 0 (7 * k) 0 (wins 0 7 7 k) w (by decide) (Cells.zero _ _ _) (by simp) (by simp) (by rw [wins_length]; omega) hsok (nil_fine _) hn2 hal)
        simp only [List.length_nil] at HF3
        clear hal hsok
        have HA := Lib.hid hra; have H1 := Lib.hid hr1; have H2 := Lib.hid hr2
        clear hra hr1 hr2
        go_wp2_with fail
        go_loopw [15] (WholeAt w2 k) (fun i _ => k - (intOf i).toNat)
        case atStart => exact ⟨0, 0, by omega, rfl, rfl⟩
        case round =>
          obtain ⟨j, nn, hj, rfl, rfl⟩ := hrel
          by_cases hjk : j < k
          · have i1 : (j : Int) < (k : Int) := by omega
            have i0 : (0 : Int) ≤ (j : Int) := Int.natCast_nonneg _
            obtain ⟨ba, offa, rfl, hba, hca⟩ := HA.out (by rw [fullR_length]; omega)
            have ca := RowsAt.at_ hca (i := j) (by rw [fullR_length]; exact hjk)
            obtain ⟨bb, offb, rfl, hbb, hcb⟩ := H1.out (by rw [fullR_length]; omega)
            have cb := RowsAt.at_ hcb (i := j) (by rw [fullR_length]; exact hjk)
            rw [fullR_getD 7 _ k j hjk] at ca cb
            obtain ⟨a0, a1, a2, a3, a4⟩ := ca
            obtain ⟨b0, b1, b2, b3, b4⟩ := cb
            clear hca hcb HA H1
            clear HF3 HFA HFN
            go_wp2_with fail
            go_quiet (fail)
            go_wp2_with fail
            exact ⟨⟨j + 1, _, by omega, by go_num, by first | rfl | (simp only [World.drewN_drewN]; rfl)⟩, by simp [intOf]; omega⟩
          · obtain rfl : j = k := by omega
            obtain ⟨w3, hw3⟩ : ∃ w3, w3 = w2.drewN nn := ⟨_, rfl⟩
            rw [← hw3]
            have hb3 : Below w2.heap.size w2 w3 := by rw [hw3]; exact bel_drewN (Below.refl _ _) _
            replace d0 := cell_be hb3 d0
            replace d1 := cell_be hb3 d1
            replace d2 := cell_be hb3 d2
            replace d3 := cell_be hb3 d3
            replace d4 := cell_be hb3 d4
            replace hB : Below w.heap.size w w3 := by rw [hw3]; exact bel_drewN hB _
            have hr1 := H1.out.below hb3
            have hr2 := H2.out.below hb3
            clear hw3 hb3 HA H1 H2
            go_wp2_with fail
            with_reducible refine (HF3.out _).mono ?_
            rintro e w4 ⟨A4, c4, rfl, hr4, hn4, hl4, hm4, hb4⟩
            replace d0 := cell_be hb4 d0
            replace d1 := cell_be hb4 d1
            replace d2 := cell_be hb4 d2
            replace d3 := cell_be hb4 d3
            replace d4 := cell_be hb4 d4
            replace hr1 := hr1.below hb4
            replace hB := bel_step hB (Nat.le_refl _) hb4
            clear hb4
            go_wp2_with fail
            with_reducible refine (HFA.out _ _ _ hr1 hn1).mono ?_
            rintro e w5 ⟨A5, c5, rfl, hr5, hn5, hl5, hm5, hb5⟩
            replace hB := bel_step hB (Nat.le_refl _) hb5
            clear hb5
            go_wp2_with fail
            go_ret
            exact ⟨rfl, hB⟩
      · have e0 : noneR H 7 k = nullR 7 k := if_neg hz
        rw [e0] at hr2 hl2 ⊢
        rw [nullR_length] at hl2 ⊢
        have HF3 := Lib.hid (fun (w : World) (hr : RowsAt w A2 (nullR 7 k)) => fill_not A2 (nullR 7 k) c2 7 7 0 0 (7 * k) H (wins 0 7 7 k) w ⟨hH0, hH1⟩ hr (nullR_ok 7 k (by decide) (by decide) (by omega)) (by rw [nullR_length]; omega) (by rw [wins_length]; omega) hsok (null_unfine 7 k hN _) hal)
        simp only [nullR_length] at HF3
        have hzb : (H == 0) = false := by simpa using hz
        clear hal hsok
        have HA := Lib.hid hra; have H1 := Lib.hid hr1; have H2 := Lib.hid hr2
        clear hra hr1 hr2
        go_wp2_with fail
        go_loopw [15] (WholeAt w2 k) (fun i _ => k - (intOf i).toNat)
        case atStart => exact ⟨0, 0, by omega, rfl, rfl⟩
        case round =>
          obtain ⟨j, nn, hj, rfl, rfl⟩ := hrel
          by_cases hjk : j < k
          · have i1 : (j : Int) < (k : Int) := by omega
            have i0 : (0 : Int) ≤ (j : Int) := Int.natCast_nonneg _
            obtain ⟨ba, offa, rfl, hba, hca⟩ := HA.out (by rw [fullR_length]; omega)
            have ca := RowsAt.at_ hca (i := j) (by rw [fullR_length]; exact hjk)
            obtain ⟨bb, offb, rfl, hbb, hcb⟩ := H1.out (by rw [fullR_length]; omega)
            have cb := RowsAt.at_ hcb (i := j) (by rw [fullR_length]; exact hjk)
            rw [fullR_getD 7 _ k j hjk] at ca cb
            obtain ⟨a0, a1, a2, a3, a4⟩ := ca
            obtain ⟨b0, b1, b2, b3, b4⟩ := cb
            clear hca hcb HA H1
            obtain ⟨bc, offc, rfl, hbc, hcc⟩ := H2.out (by rw [nullR_length]; omega)
            have cc := RowsAt.at_ hcc (i := j) (by rw [nullR_length]; exact hjk)
            rw [nullR_getD 7 k j hjk] at cc
            obtain ⟨c0, c1', c2', c3, c4⟩ := cc
            unfold nullRow at c0 c1' c2' c3 c4
            have eh : hiW 0 = 0 := by decide
            have el : loW 0 = 0 := by decide
            simp only [eh, el] at c0 c1' c2' c3 c4
            rw [Int.mul_comm] at c0 c1'
            have f1 : IntKind.i64.wrap (7 * (j : Int)) = 7 * (j : Int) := IntWalk.i64_in _ (by omega)
            have f2 : IntKind.i64.wrap (7 * (j : Int) + 7) = 7 * (j : Int) + 7 := IntWalk.i64_in _ (by omega)
            clear hcc H2 eh el
            clear HF3 HFA HFN
            go_wp2_with fail
            go_quiet (fail)
            go_wp2_with fail
            exact ⟨⟨j + 1, _, by omega, by go_num, by first | rfl | (simp only [World.drewN_drewN]; rfl)⟩, by simp [intOf]; omega⟩
          · obtain rfl : j = k := by omega
            obtain ⟨w3, hw3⟩ : ∃ w3, w3 = w2.drewN nn := ⟨_, rfl⟩
            rw [← hw3]
            have hb3 : Below w2.heap.size w2 w3 := by rw [hw3]; exact bel_drewN (Below.refl _ _) _
            replace d0 := cell_be hb3 d0
            replace d1 := cell_be hb3 d1
            replace d2 := cell_be hb3 d2
            replace d3 := cell_be hb3 d3
            replace d4 := cell_be hb3 d4
            replace hB : Below w.heap.size w w3 := by rw [hw3]; exact bel_drewN hB _
            have hr1 := H1.out.below hb3
            have hr2 := H2.out.below hb3
            clear hw3 hb3 HA H1 H2
            go_wp2_with fail
            with_reducible refine (HF3.out _ hr2).mono ?_
            rintro e w4 ⟨A4, c4, rfl, hr4, hn4, hl4, hm4, hb4⟩
            replace d0 := cell_be hb4 d0
            replace d1 := cell_be hb4 d1
            replace d2 := cell_be hb4 d2
            replace d3 := cell_be hb4 d3
            replace d4 := cell_be hb4 d4
            replace hr1 := hr1.below hb4
            replace hB := bel_step hB (Nat.le_refl _) hb4
            clear hb4
            go_wp2_with fail
            with_reducible refine (HFA.out _ _ _ hr1 hn1).mono ?_
            rintro e w5 ⟨A5, c5, rfl, hr5, hn5, hl5, hm5, hb5⟩
            replace hB := bel_step hB (Nat.le_refl _) hb5
            clear hb5
            go_wp2_with fail
            go_ret
            exact ⟨congrArg (fun b => Ending.returned (.bool b)) (show (H != 0) = true by simpa using hz), hB⟩
theorem gapsWhole_walk (w : World) (n : Int) (hn : -9223372036854775808 ≤ n ∧ n ≤ 9223372036854775807) (how : Int) (hh : -9223372036854775808 ≤ how ∧ how ≤ 9223372036854775807) (value : Int) (hv : -9223372036854775808 ≤ value ∧ value ≤ 9223372036854775807) :
    Calls Try.prog 5 #[.int .i64 n, .int .i64 how, .int .i64 value] w fun e w' => e = .returned (.bool true) ∧ Below w.heap.size w w' :=
  whole_at w n how value ((n % 64).toNat + 1) (how % 4) (by rw [WordMath.and_mask_i64 n 63 6 (by decide) rfl]; omega) (by omega) (by omega) (WordMath.and_mask_i64 how 3 2 (by decide) rfl) (by omega) (by omega) hv
end Go.Proofs.Ytljepnonigjcbaa

/- The walk of WindowGaps: it returns true for every list of steps and every gap. -/
import Derived.Test.YtjbdnomnjdpckaaWindowSess
import Derived.Test.YtjbdnomnjdpckaaWindowSpans
import Derived.Test.YtjbdnomnjdpckaaWordMath
namespace Go.Proofs.Ytjbdnomnjdpckaa
open Go.RowKit
set_option linter.unusedVariables false

/-! plain -/
def cnt (y : Nat → Int) (gap : Int) : Nat → Nat
  | 0 => 0
  | i + 1 => cnt y gap i + if gap ≤ y (i + 1) - y i then 1 else 0
theorem sess_inv (y : Nat → Int) (gap : Int) (hg : 1 ≤ gap) (hs : ∀ j, y j ≤ y (j + 1)) (m : Nat) :
    (sessTo y gap (m + 1)).length = cnt y gap m + 1 ∧ (∃ M f, sessTo y gap (m + 1) = M ++ [(f, y m + gap)] ∧ f ≤ y m) ∧
      ∀ i, i ≤ m → ∃ p, (sessTo y gap (m + 1))[cnt y gap i]? = some p ∧ p.1 ≤ y i ∧ y i < p.2 := by
  induction m with
  | zero =>
    refine ⟨rfl, ⟨[], y 0, rfl, Int.le_refl _⟩, fun i hi => ?_⟩
    obtain rfl : i = 0 := by omega
    exact ⟨(y 0, y 0 + gap), rfl, Int.le_refl _, by show y 0 < y 0 + gap; omega⟩
  | succ m ih =>
    obtain ⟨h1, ⟨M, f, h2, h3⟩, h4⟩ := ih
    have e : sessTo y gap (m + 1 + 1) = sessStep gap (M ++ [(f, y m + gap)]) (y (m + 1)) := by rw [← h2]; rfl
    rw [e, sessStep_last]
    rw [h2] at h1 h4
    have hl : M.length = cnt y gap m := by simp at h1; omega
    have hm := hs m
    by_cases hc : gap ≤ y (m + 1) - y m
    · rw [if_neg (by show ¬ y (m + 1) < y m + gap; omega)]
      have ec : cnt y gap (m + 1) = cnt y gap m + 1 := by simp only [cnt]; rw [if_pos hc]
      refine ⟨by simp; omega, ⟨M ++ [(f, y m + gap)], y (m + 1), rfl, Int.le_refl _⟩, fun i hi => ?_⟩
      rcases Nat.lt_or_ge i (m + 1) with h | h
      · obtain ⟨p, hp, hp1⟩ := h4 i (by omega)
        refine ⟨p, ?_, hp1⟩
        have := (List.getElem?_eq_some_iff.1 hp).1
        rw [List.getElem?_append_left this]; exact hp
      · obtain rfl : i = m + 1 := by omega
        refine ⟨(y (m + 1), y (m + 1) + gap), ?_, Int.le_refl _, by show y (m + 1) < y (m + 1) + gap; omega⟩
        rw [ec, ← hl]; simp
    · rw [if_pos (by show y (m + 1) < y m + gap; omega)]
      have ec : cnt y gap (m + 1) = cnt y gap m := by simp only [cnt]; rw [if_neg hc]; rfl
      refine ⟨by simp; omega, ⟨M, f, rfl, by omega⟩, fun i hi => ?_⟩
      have last : (M ++ [(f, y (m + 1) + gap)])[cnt y gap m]? = some (f, y (m + 1) + gap) := by rw [← hl]; simp
      rcases Nat.lt_or_ge i (m + 1) with h | h
      · obtain ⟨p, hp, hp1, hp2⟩ := h4 i (by omega)
        rcases Nat.lt_or_ge (cnt y gap i) M.length with h5 | h5
        · refine ⟨p, ?_, hp1, hp2⟩
          rw [List.getElem?_append_left h5] at hp ⊢; exact hp
        · have h6 := (List.getElem?_eq_some_iff.1 hp).1
          simp at h6
          have h7 : cnt y gap i = cnt y gap m := by omega
          rw [h7, ← hl] at hp
          simp at hp
          rw [h7]
          refine ⟨_, last, ?_, ?_⟩
          · rw [← hp] at hp1; exact hp1
          · rw [← hp] at hp2
            have : y i < y m + gap := hp2
            show y i < y (m + 1) + gap
            omega
      · obtain rfl : i = m + 1 := by omega
        rw [ec]
        exact ⟨_, last, by show f ≤ y (m + 1); omega, by show y (m + 1) < y (m + 1) + gap; omega⟩
/-- the sums of the steps -/
def sumTo (x : Nat → Int) : Nat → Int
  | 0 => 0
  | k + 1 => sumTo x k + x k % 512
theorem sumTo_bd (x : Nat → Int) (k : Nat) : 0 ≤ sumTo x k ∧ sumTo x k ≤ 512 * k := by
  induction k with
  | zero => simp [sumTo]
  | succ k ih => simp only [sumTo]; omega
theorem sumTo_up (x : Nat → Int) (k : Nat) : sumTo x k ≤ sumTo x (k + 1) := by simp only [sumTo]; omega
def cells1 (y : Nat → Int) (k : Nat) : List Value := (List.range k).map fun j => .int .i64 (y j)
theorem cells1_succ (y : Nat → Int) (k : Nat) : cells1 y (k + 1) = cells1 y k ++ [.int .i64 (y k)] := by simp [cells1, List.range_succ]
theorem Ints.of_own {w : World} {base : Nat} {e : TypeId} {A : Option Addr} {n c : Nat} {y : Nat → Int} (h : w.ownsRow base e 1 (.slice A n c) n (cells1 y n)) : Ints w A n y := by
  have := own_cells h (fun j => .int .i64 (y j)) (fun j hj => by rw [Nat.mul_one] at hj; simp [cells1, List.getElem?_range hj])
  rwa [Nat.mul_one] at this
theorem intElem : Elem Try.prog 22 3 (.int .i64 0) 1 8 := Elem.mk' Try.underlying22 (by kernel_rfl) rfl (by decide)

def GapsRel (w : World) (n : Nat) (x : Nat → Int) (t v i : Value) (wr : World) : Prop :=
  ∃ (k : Nat) (A : Option Addr) (c : Nat), k ≤ n ∧ k ≤ 100 ∧ i = .int .i64 k ∧ t = .int .i64 (sumTo x k) ∧ v = .slice A k c ∧
    wr.ownsRow w.heap.size 3 1 (.slice A k c) k (cells1 (fun j => sumTo x (j + 1)) k) ∧ Below w.heap.size w wr

/-- the second loop's state -/
def Gaps2 (w1 : World) (y : Nat → Int) (gap : Int) (k : Nat) (q i : Value) (wr : World) : Prop :=
  ∃ (j nn q0 : Nat), j ≤ k ∧ i = .int .i64 j ∧ q = .int .i64 q0 ∧ (0 < j → q0 = cnt y gap (j - 1)) ∧ (j = 0 → q0 = 0) ∧ wr = w1.drewN nn
theorem cnt_next (y : Nat → Int) (gap : Int) (j : Nat) (hj : 0 < j) : cnt y gap j = cnt y gap (j - 1) + if gap ≤ y j - y (j - 1) then 1 else 0 := by
  obtain ⟨m, rfl⟩ : ∃ m, j = m + 1 := ⟨j - 1, by omega⟩
  rfl
theorem sess_at (y : Nat → Int) (gap : Int) (hg : 1 ≤ gap) (hs : ∀ j, y j ≤ y (j + 1)) (k : Nat) (hk : 0 < k) :
    (sessTo y gap k).length = cnt y gap (k - 1) + 1 ∧ ((sessTo y gap k).getD (cnt y gap (k - 1)) (0, 0)).2 = y (k - 1) + gap ∧
      ∀ i, i < k → cnt y gap i < (sessTo y gap k).length ∧ ((sessTo y gap k).getD (cnt y gap i) (0, 0)).1 ≤ y i ∧ y i < ((sessTo y gap k).getD (cnt y gap i) (0, 0)).2 := by
  obtain ⟨m, rfl⟩ : ∃ m, k = m + 1 := ⟨k - 1, by omega⟩
  obtain ⟨h1, ⟨M, f, h2, h3⟩, h4⟩ := sess_inv y gap hg hs m
  refine ⟨h1, ?_, fun i hi => ?_⟩
  · simp only [Nat.add_sub_cancel]
    have hl : M.length = cnt y gap m := by rw [h2] at h1; simp at h1; omega
    rw [h2, ← hl]
    simp
  · obtain ⟨p, hp, hp1, hp2⟩ := h4 i (by omega)
    refine ⟨(List.getElem?_eq_some_iff.1 hp).1, ?_, ?_⟩ <;> rw [List.getD_eq_getElem?_getD, hp] <;> simpa

set_option maxRecDepth 100000 in
set_option maxHeartbeats 4000000 in
theorem windowGaps_at (w : World) (A : Option Addr) (n c : Nat) (x : Nat → Int) (h : IntArg w A n c x) (g g0 : Int) (hg : bits BinOp.and IntKind.i64 g 255 = g0) (hg1 : 0 ≤ g0) (hg2 : g0 ≤ 255) :
    Calls Try.prog 4 #[.slice A n c, .int .i64 g] w fun e w' => e = .returned (.bool true) ∧ Below w.heap.size w w' := by
  obtain ⟨hi, hle, hmax, hbd⟩ := h
  clear hbd
  go_enter Try.func4, Try.ntmps4
  go_wp2
  go_loopw [5, 6, 7] (GapsRel w n x) (fun _ _ i _ => 100 - (intOf i).toNat)
  case atStart => exact ⟨0, none, 0, by omega, by omega, rfl, rfl, rfl, World.ownsRow_nil _ _ _ _, Below.refl _ _⟩
  case round =>
    obtain ⟨k, A', c', hk, hk1, rfl, rfl, rfl, hown, hbel⟩ := hrel
    have hsz := hbel.size
    have hsb := sumTo_bd x k
    rcases (show (k < n ∧ k < 100) ∨ (k < n ∧ ¬ k < 100) ∨ ¬ k < n by omega) with ⟨hlt, hlt2⟩ | ⟨hlt, hlt2⟩ | hlt
    · obtain ⟨b, off, rfl, hb, hc⟩ := hi (by omega)
      have hck : wr.cell? ⟨b, off + k, none⟩ = some (.int .i64 (x k)) := (hbel.cell (p := ⟨b, off + k, none⟩) hb).trans (hc k hlt)
      clear hc hi
      have hm : bits BinOp.and IntKind.i64 (x k) 511 = x k % 512 := WordMath.and_mask_i64 (x k) 511 9 (by decide) rfl
      go_wp2_with (at_builtin; refine wpList_append_new intElem hown hbel (Nat.le_refl _) (by omega) rfl _ _ rfl [.int .i64 (sumTo x k + x k % 512)] rfl rfl rfl (by simp [Value.oneCell']) (by unfold maxLen; omega) (by omega) ?_; intro A1 c1 w1 ho1 hb1 _)
      refine ⟨⟨k + 1, A1, c1, by omega, by omega, by go_num, rfl, rfl, ?_, hb1⟩, by simp [intOf]; omega⟩
      rw [cells1_succ]; exact ho1
    all_goals
      have hint := Ints.of_own hown
      obtain ⟨y, hy⟩ : ∃ y : Nat → Int, y = fun j => sumTo x (j + 1) := ⟨_, rfl⟩
      rw [← hy] at hint
      have hup : ∀ j, y j ≤ y (j + 1) := fun j => by rw [hy]; exact sumTo_up x (j + 1)
      have hyb : ∀ j, j < k → 0 ≤ y j ∧ y j ≤ 51200 := fun j hj => by
        rw [hy]; have := sumTo_bd x (j + 1); show 0 ≤ sumTo x (j + 1) ∧ sumTo x (j + 1) ≤ 51200; omega
      have hok : sessOk k y (1 + g0) := ⟨by omega, by omega, fun i hi => by have := hyb i hi; unfold isTime; omega, fun i h0 hi => by
        obtain ⟨j, rfl⟩ : ∃ j, i = j + 1 := ⟨i - 1, by omega⟩
        exact hup j⟩
      have HS : Hid (0 < k → _) := fun hk => sess_at y (1 + g0) (by omega) hup k hk
      have HY := Lib.hid hyb
      have HOK := Lib.hid hok
      have HL := Lib.hid (sessTo_length y (1 + g0) k)
      have HC := Lib.hid (sessions_any A' k c' y (1 + g0) wr hint (by omega))
      clear hy hup hyb hok hown hi hsb
      go_wp2_with fail
      with_reducible refine HC.out.mono ?_
      rintro e w1 hpost
      rcases hpost with ⟨_, A1, c1, he, ho1, hb1⟩ | ⟨hno, _⟩
      case inr => exact absurd HOK.out hno
      obtain ⟨L, hL⟩ : ∃ L, L = sessTo y (1 + g0) k := ⟨_, rfl⟩
      rw [← hL] at he ho1
      subst he
      have hp := Pairs.of_own ho1
      have hint1 := Cells.below hint hb1
      have hbw := hbel.trans (hb1.mono hbel.size)
      have hLl : L.length ≤ k := by rw [hL]; exact HL.out
      have HLL := Lib.hid hL; clear hL
      clear ho1 hint hb1 hbel hsz HC
      rcases Nat.eq_zero_or_pos k with hk0 | hk0
      · subst hk0
        have hLz : L.length = 0 := by omega
        rw [hLz]
        clear hLl
        go_wp2
        go_loopw [10, 11] (fun q i wr => q = .int .i64 0 ∧ i = .int .i64 0 ∧ ∃ nn, wr = w1.drewN nn) (fun _ _ _ => 0)
        case atStart => exact ⟨rfl, rfl, 0, rfl⟩
        case round =>
          obtain ⟨rfl, rfl, nn, rfl⟩ := hrel
          go_wp2
          go_quiet (fail)
          go_wp2
          go_ret
          exact ⟨rfl, bel_drewN (bel_drewN hbw _) _⟩
      · have hS := HS.out hk0
        rw [← HLL.out] at hS
        obtain ⟨hS1, hS2, hS3⟩ := hS
        have HS3 := Lib.hid hS3; clear hS3
        have HS2 := Lib.hid hS2; clear hS2
        have HS1 := Lib.hid hS1
        have hpos : 0 < L.length := by omega
        clear hS1
        have z1 : ((L.length : Int) == 0) = false := by rw [beq_eq_false_iff_ne]; omega
        have dk : decide (k < L.length) = false := by simp; omega
        obtain ⟨b1, off1, rfl, hbb1, hcc1⟩ := hint1 hk0
        obtain ⟨b2, off2, rfl, hbb2, hcc2⟩ := hp (by omega)
        go_wp2
        go_loopw [10, 11] (Gaps2 w1 y (1 + g0) k) (fun _ i _ => k - (intOf i).toNat)
        case atStart => exact ⟨0, 0, 0, by omega, rfl, rfl, fun h => by omega, fun _ => rfl, rfl⟩
        case round =>
          obtain ⟨j, nn, q0, hj, rfl, rfl, hq1, hq2, rfl⟩ := hrel
          have HQ1 := Lib.hid hq1; clear hq1
          have HQ2 := Lib.hid hq2; clear hq2
          by_cases hjk : j < k
          · have hyj := HY.out j hjk
            have hcj : w1.cell? ⟨b1, off1 + j, none⟩ = some (.int .i64 (y j)) := hcc1 j hjk
            have hL3 := HS3.out j hjk
            have i1 : (j : Int) < (k : Int) := by omega
            have i0 : (0 : Int) ≤ (j : Int) := Int.natCast_nonneg _
            by_cases hj0 : 0 < j
            · have hyj1 := HY.out (j - 1) (by omega)
              have hcj1 : w1.cell? ⟨b1, off1 + (j - 1), none⟩ = some (.int .i64 (y (j - 1))) := hcc1 (j - 1) (by omega)
              have hcn := cnt_next y (1 + g0) j hj0
              rw [← HQ1.out hj0] at hcn
              have hj0i : (0 : Int) < (j : Int) := by omega
              have es : IntKind.i64.wrap (y j - y (j - 1)) = y j - y (j - 1) := IntWalk.i64_in _ (by omega)
              have ej : IntKind.i64.wrap ((j : Int) - 1) = (j : Int) - 1 := IntWalk.i64_in _ (by omega)
              by_cases hgp : 1 + g0 ≤ y j - y (j - 1)
              · rw [if_pos hgp] at hcn
                rw [hcn] at hL3
                obtain ⟨hq, hf, ht⟩ := hL3
                obtain ⟨hc3, hc4⟩ := Pairs.at_ hcc2 hq
                have HCN := Lib.hid hcn; clear hcn
                have HQ := Lib.hid hq
                generalize (L.getD (q0 + 1) (0, 0)).1 = F at *
                generalize (L.getD (q0 + 1) (0, 0)).2 = T at *
                clear hcc1 hcc2
                have d1 : decide (L.length ≤ (q0 + 1)) = false := by simp; omega
                have d2 : decide (y j < F) = false := by simp; omega
                have d3 : decide (T ≤ y j) = false := by simp; omega
                have q1 : (q0 : Int) < (L.length : Int) := by omega
                have q2 : (0 : Int) ≤ (q0 : Int) := Int.natCast_nonneg _
                have hd : decide (1 + g0 ≤ y j - y (j - 1)) = true := by simpa using hgp
                have d1' : decide ((L.length : Int) ≤ (q0 : Int) + 1) = false := by simp; omega
                have q3 : (q0 : Int) + 1 < (L.length : Int) := by omega
                have q4 : (0 : Int) ≤ (q0 : Int) + 1 := by omega
                have q5 : ((q0 : Int) + 1).toNat = q0 + 1 := by omega
                go_wp2
                go_quiet (fail)
                go_wp2
                go_quiet (fail)
                go_wp2
                refine ⟨⟨j + 1, _, _, by omega, by go_num, by go_num, fun _ => by first | exact HCN.out | exact HCN.out.symm, fun h => by omega, by first | rfl | (simp only [World.drewN_drewN]; rfl)⟩, by simp [intOf]; omega⟩
              · rw [if_neg hgp, Nat.add_zero] at hcn
                rw [hcn] at hL3
                obtain ⟨hq, hf, ht⟩ := hL3
                obtain ⟨hc3, hc4⟩ := Pairs.at_ hcc2 hq
                have HCN := Lib.hid hcn; clear hcn
                have HQ := Lib.hid hq
                generalize (L.getD q0 (0, 0)).1 = F at *
                generalize (L.getD q0 (0, 0)).2 = T at *
                clear hcc1 hcc2
                have d1 : decide (L.length ≤ q0) = false := by simp; omega
                have d2 : decide (y j < F) = false := by simp; omega
                have d3 : decide (T ≤ y j) = false := by simp; omega
                have q1 : (q0 : Int) < (L.length : Int) := by omega
                have q2 : (0 : Int) ≤ (q0 : Int) := Int.natCast_nonneg _
                have hd : decide (1 + g0 ≤ y j - y (j - 1)) = false := by simpa using hgp
                go_wp2
                go_quiet (fail)
                go_wp2
                go_quiet (fail)
                go_wp2
                refine ⟨⟨j + 1, _, _, by omega, by go_num, rfl, fun _ => by first | exact HCN.out | exact HCN.out.symm, fun h => by omega, by first | rfl | (simp only [World.drewN_drewN]; rfl)⟩, by simp [intOf]; omega⟩
            · have hcn : cnt y (1 + g0) j = q0 := by
                rw [HQ2.out (by omega), show j = 0 by omega]; rfl
              rw [hcn] at hL3
              obtain ⟨hq, hf, ht⟩ := hL3
              obtain ⟨hc3, hc4⟩ := Pairs.at_ hcc2 hq
              have HCN := Lib.hid hcn; clear hcn
              have HQ := Lib.hid hq
              generalize (L.getD q0 (0, 0)).1 = F at *
              generalize (L.getD q0 (0, 0)).2 = T at *
              clear hcc1 hcc2
              have d1 : decide (L.length ≤ q0) = false := by simp; omega
              have d2 : decide (y j < F) = false := by simp; omega
              have d3 : decide (T ≤ y j) = false := by simp; omega
              have q1 : (q0 : Int) < (L.length : Int) := by omega
              have q2 : (0 : Int) ≤ (q0 : Int) := Int.natCast_nonneg _
              have hd : decide (0 < (j : Int)) = false := by simp; omega
              go_wp2
              go_quiet (fail)
              go_wp2
              go_quiet (fail)
              go_wp2
              refine ⟨⟨j + 1, _, _, by omega, by go_num, rfl, fun _ => by first | exact HCN.out | exact HCN.out.symm, fun h => by omega, by first | rfl | (simp only [World.drewN_drewN]; rfl)⟩, by simp [intOf]; omega⟩
          · obtain rfl : j = k := by omega
            have hq := HQ1.out hk0
            have hS1 := HS1.out
            have hS2 := HS2.out
            rw [← hq] at hS1 hS2
            obtain ⟨hc3, hc4⟩ := Pairs.at_ hcc2 (i := q0) (by omega)
            rw [hS2] at hc4
            have hcl : w1.cell? ⟨b1, off1 + (j - 1), none⟩ = some (.int .i64 (y (j - 1))) := hcc1 (j - 1) (by omega)
            have hyl := HY.out (j - 1) (by omega)
            have ej : IntKind.i64.wrap ((j : Int) - 1) = (j : Int) - 1 := IntWalk.i64_in _ (by omega)
            have eL : IntKind.i64.wrap ((L.length : Int) - 1) = (L.length : Int) - 1 := IntWalk.i64_in _ (by omega)
            have eg : IntKind.i64.wrap (y (j - 1) + (1 + g0)) = y (j - 1) + (1 + g0) := IntWalk.i64_in _ (by omega)
            have b1 : ((q0 : Int) == (L.length : Int) - 1) = true := by rw [beq_iff_eq]; omega
            have q1 : (q0 : Int) < (L.length : Int) := by omega
            have q2 : (0 : Int) ≤ (q0 : Int) := Int.natCast_nonneg _
            have q3 : (0 : Int) ≤ (j : Int) - 1 := by omega
            have q4 : (j : Int) - 1 < (j : Int) := by omega
            have q5 : ((j : Int) - 1).toNat = j - 1 := by omega
            clear hcc1 hcc2 hS1 hS2 hq hc3
            go_wp2
            go_quiet (fail)
            go_wp2
            go_ret
            exact ⟨by simp, bel_drewN (bel_drewN hbw _) _⟩
theorem windowGaps_walk (w : World) (A : Option Addr) (n c : Nat) (x : Nat → Int) (h : IntArg w A n c x) (g : Int) (hg : -9223372036854775808 ≤ g ∧ g ≤ 9223372036854775807) :
    Calls Try.prog 4 #[.slice A n c, .int .i64 g] w fun e w' => e = .returned (.bool true) ∧ Below w.heap.size w w' :=
  windowGaps_at w A n c x h g (g % 256) (WordMath.and_mask_i64 g 255 8 (by decide) rfl) (by omega) (by omega)
end Go.Proofs.Ytjbdnomnjdpckaa

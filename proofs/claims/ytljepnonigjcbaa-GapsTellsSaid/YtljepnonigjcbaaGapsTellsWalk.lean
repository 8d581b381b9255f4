/- The walk of GapsTells: it returns true for any rows, windows, span and way. -/
import Derived.Test.YtljepnonigjcbaaRefFillB
import Derived.Test.YtljepnonigjcbaaGapsTellsCore
namespace Go.Proofs.Ytljepnonigjcbaa
open Go Go.RowKit
set_option linter.unusedVariables false

theorem wins_ok (W S O f t : Int) (h : allOk W S O f t) (hft : f < t) : ∀ p ∈ wins (firstW W S O f) S W (countW (firstW W S O f) S (t - 1)), in64' p.1 ∧ in64' p.2 ∧ tb p.1 := by
  obtain ⟨⟨h1, h2, h3, h4, h5, h6, h7⟩, ⟨f1, f2⟩, ⟨t1, t2⟩, hle⟩ := h
  have hF := firstW_bd (W := W) (S := S) (O := O) (t := f) (by omega)
  intro p hp
  simp [wins] at hp
  obtain ⟨i, hi, rfl⟩ := hp
  have := (count_lt (firstW W S O f) S (t - 1) i (by omega) (by omega)).2 hi
  have h0 : 0 ≤ (i : Int) * S := Int.mul_nonneg (by omega) (by omega)
  unfold in64' tb
  dsimp only
  omega
theorem risesL_nil : risesL [] := fun i j _ hj => by simp at hj
theorem all_gaps (W S O f t : Int) (hW : -9223372036854775808 ≤ W ∧ W ≤ 9223372036854775807) (hS : -9223372036854775808 ≤ S ∧ S ≤ 9223372036854775807) (hO : -9223372036854775808 ≤ O ∧ O ≤ 9223372036854775807)
    (hf : -9223372036854775808 ≤ f ∧ f ≤ 9223372036854775807) (ht : -9223372036854775808 ≤ t ∧ t ≤ 9223372036854775807) :
    ∃ (L : List (Int × Int)) (k : Int), L.length ≤ 65536 ∧ risesL L ∧ (∀ p ∈ L, in64' p.1 ∧ in64' p.2 ∧ tb p.1) ∧ (∀ w : World, Calls Try.prog 11 #[.agg #[.int .i64 W, .int .i64 S, .int .i64 O], .agg #[.int .i64 f, .int .i64 t]] w (PairsPost w L k)) ∧
      ∀ w : World, Calls Try.prog 17 #[.int .i64 W, .int .i64 S, .int .i64 O, .agg #[.int .i64 f, .int .i64 t]] w (RefPairs w L k) := by
  by_cases h : allOk W S O f t
  · by_cases he : f = t
    · exact ⟨[], 0, by simp, risesL_nil, by simp, fun w => (all_none W S O f t w 0 (.inl ⟨h, he, rfl⟩) hf ht).mono fun _ _ h => h.pairs, fun w => (refAll_none W S O f t w 0 (.inl ⟨h, he, rfl⟩) hW hS hO).mono fun _ _ h => h.pairs⟩
    · have hlt : f < t := by have := h.2.2.2; omega
      by_cases hbig : countW (firstW W S O f) S (t - 1) ≤ 65536
      · refine ⟨wins (firstW W S O f) S W (countW (firstW W S O f) S (t - 1)), 0, ?_, wins_rises _ _ _ _ h.1.2.2.1, wins_ok W S O f t h hlt, fun w => (all_yes W S O f t w h hlt).mono fun _ _ h => ?_, fun w => (refAll_yes W S O f t w h hlt).mono fun _ _ h => ?_⟩
        · rw [wins_length]; omega
        · unfold AllPost at h; rw [if_pos hbig] at h; exact h.pairs
        · unfold RefAllPost at h; rw [if_pos hbig] at h; exact h.pairs
      · refine ⟨[], 3, by simp, risesL_nil, by simp, fun w => (all_yes W S O f t w h hlt).mono fun _ _ h => ?_, fun w => (refAll_yes W S O f t w h hlt).mono fun _ _ h => ?_⟩
        · unfold AllPost at h; rw [if_neg hbig] at h; exact h.pairs
        · unfold RefAllPost at h; rw [if_neg hbig] at h; exact h.pairs
  · exact ⟨[], 2, by simp, risesL_nil, by simp, fun w => (all_none W S O f t w 2 (.inr ⟨h, rfl⟩) hf ht).mono fun _ _ h => h.pairs, fun w => (refAll_none W S O f t w 2 (.inr ⟨h, rfl⟩) hW hS hO).mono fun _ _ h => h.pairs⟩
theorem FillPost.tell {w w' : World} {O : List Rw} {k : Int} {e : Ending} (h : FillPost w O k e w') : TellOut w O k e w' := by
  obtain ⟨A, c, he, hr, _, _, _, hb⟩ := h
  exact ⟨A, c, he, hr, hb⟩
theorem FillNo.tell {w w' : World} {k : Int} {e : Ending} (h : FillNo w k e w') : TellOut w [] k e w' := ⟨none, 0, h.1, Cells.zero _ _ _, h.2⟩
theorem fillO_len (how : Int) (R : List Rw) (L : List (Int × Int)) (hR : R.length ≤ 300) (hL : L.length ≤ 65536) : (fillO how R L).length ≤ 65536 := by
  unfold fillO
  split
  · omega
  · rw [fillN_length]; exact hL
theorem both_fill (W S O f t how : Int) (hW : -9223372036854775808 ≤ W ∧ W ≤ 9223372036854775807) (hS : -9223372036854775808 ≤ S ∧ S ≤ 9223372036854775807) (hO : -9223372036854775808 ≤ O ∧ O ≤ 9223372036854775807)
    (hf : -9223372036854775808 ≤ f ∧ f ≤ 9223372036854775807) (ht : -9223372036854775808 ≤ t ∧ t ≤ 9223372036854775807) (w : World) (A : Option Addr) (R : List Rw) (c : Nat) (hc : Cut w A R c) :
    ∃ X k, X.length ≤ 65536 ∧ (∀ w1, RowsAt w1 A R → Calls Try.prog 6 #[.slice A R.length c, .agg #[.int .i64 W, .int .i64 S, .int .i64 O], .agg #[.int .i64 f, .int .i64 t], .int .i64 how] w1 (TellOut w1 X k)) ∧
      (∀ w1, RowsAt w1 A R → Calls Try.prog 7 #[.slice A R.length c, .int .i64 W, .int .i64 S, .int .i64 O, .int .i64 f, .int .i64 t, .int .i64 how] w1 (TellOut w1 X k)) := by
  obtain ⟨L, k, hLn, hup, hL, a1, a2⟩ := all_gaps W S O f t hW hS hO hf ht
  have hn := hc.n
  by_cases hk : k = 0
  · subst hk
    by_cases hh : 0 ≤ how ∧ how ≤ 3
    · by_cases hfn : fineR R L
      · refine ⟨fillO how R L, 0, fillO_len how R L hn hLn, fun w1 hr => (fill_fine A R c W S O f t how L w1 hh hr hc.ok (by omega) hLn hL hfn hc.nil a1).mono fun _ _ h => h.tell, fun w1 hr => ?_⟩
        rcases (show how = 0 ∨ how = 1 ∨ how = 2 ∨ how = 3 by omega) with hw | hw | hw | hw
        · exact (rfill_0 A R c W S O f t how L w1 hh hw hr hc.ok (by omega) hLn hL hc.nil hc.le hc.max hup hfn a2).mono fun _ _ h => h.tell
        · exact (rfill_1 A R c W S O f t how L w1 hh hw hr hc.ok (by omega) hLn hL hc.nil hc.le hc.max hup hfn a2).mono fun _ _ h => h.tell
        · exact (rfill_2 A R c W S O f t how L w1 hh hw hr hc.ok (by omega) hLn hL hc.nil hc.le hc.max hup hfn a2).mono fun _ _ h => h.tell
        · exact (rfill_3 A R c W S O f t how L w1 hh hw hr hc.ok (by omega) hLn hL hc.nil hc.le hc.max hup hfn a2).mono fun _ _ h => h.tell
      · exact ⟨[], 2, by simp, fun w1 hr => (fill_not A R c W S O f t how L w1 hh hr hc.ok (by omega) hLn hL hfn a1).mono fun _ _ h => h.tell,
          fun w1 hr => (rfill_no A R c W S O f t how L w1 hh hr hc.ok (by omega) hLn hL hc.nil hc.le hc.max hup hfn a2).mono fun _ _ h => h.tell⟩
    · exact ⟨[], 2, by simp, fun w1 hr => (fill_how A R c W S O f t how L hh w1 a1).mono fun _ _ h => h.tell, fun w1 hr => (rfill_how A R c W S O f t how L hh w1 a2).mono fun _ _ h => h.tell⟩
  · exact ⟨[], k, by simp, fun w1 hr => (fill_bad A R c W S O f t how L k hk w1 a1).mono fun _ _ h => h.tell, fun w1 hr => (rfill_bad A R c W S O f t how L k hk w1 a2).mono fun _ _ h => h.tell⟩
theorem one_fill (w1 : World) : Calls Try.prog 6 #[.slice none 0 0, .agg #[.int .i64 5, .int .i64 5, .int .i64 0], .agg #[.int .i64 0, .int .i64 10], .int .i64 1] w1 (TellOut w1 [nullRow 0 5, nullRow 5 10] 0) := by
  have h := fill_fine none [] 0 5 5 0 0 10 1 (wins 0 5 5 2) w1 (by decide) (Cells.zero _ _ _) (by simp) (by simp) (by rw [wins_length]; omega) (side_ok 5 2 (by decide) (by decide) (by decide)) (nil_fine _) (fun _ => rfl) (fun w => side_wins 5 2 (by decide) (by decide) (by decide) (by decide) w)
  have e : fillO 1 [] (wins 0 5 5 2) = [nullRow 0 5, nullRow 5 10] := by decide
  rw [e] at h
  exact h.mono fun _ _ h => h.tell
theorem gapsTells_walk (w : World) (A : Option Addr) (n0 c0 : Nat) (R0 : List Rw) (hA : RowsArg w A n0 c0 R0) (W : Int) (hW : -9223372036854775808 ≤ W ∧ W ≤ 9223372036854775807) (S : Int) (hS : -9223372036854775808 ≤ S ∧ S ≤ 9223372036854775807) (O : Int) (hO : -9223372036854775808 ≤ O ∧ O ≤ 9223372036854775807)
    (f : Int) (hf : -9223372036854775808 ≤ f ∧ f ≤ 9223372036854775807) (t : Int) (ht : -9223372036854775808 ≤ t ∧ t ≤ 9223372036854775807) (how : Int) :
    Calls Try.prog 3 #[.slice A n0 c0, .agg #[.int .i64 W, .int .i64 S, .int .i64 O], .agg #[.int .i64 f, .int .i64 t, .int .i64 how]] w fun e w' => e = .returned (.bool true) ∧ Below w.heap.size w w' :=
  gapsTells_core w A n0 c0 R0 hA W S O f t how (fun R c hc => both_fill W S O f t how hW hS hO hf ht w A R c hc) one_fill (fun A B X c d w1 ha hb hn => rsame_any A B X c d w1 ha hb (by omega))
end Go.Proofs.Ytljepnonigjcbaa

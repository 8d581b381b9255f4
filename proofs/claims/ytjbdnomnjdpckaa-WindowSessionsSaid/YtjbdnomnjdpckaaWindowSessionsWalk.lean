/- The walk of WindowSessions: it returns true for every list of times and every gap. -/
import Derived.Test.YtjbdnomnjdpckaaWindowSess
import Derived.Test.YtjbdnomnjdpckaaWindowRefSess
import Derived.Test.YtjbdnomnjdpckaaWindowSpans
namespace Go.Proofs.Ytjbdnomnjdpckaa
open Go.RowKit
set_option linter.unusedVariables false

def x139 (j : Nat) : Int := if j = 0 then 1 else if j = 1 then 3 else 9
theorem sess_139 : sessTo x139 4 3 = [(1, 7), (9, 13)] := by decide
theorem ok_139 : sessOk 3 x139 4 := by
  refine ⟨by decide, by decide, ?_, ?_⟩
  · intro i hi
    unfold isTime x139; split
    · omega
    · split <;> omega
  · intro i h0 hi
    have : i = 1 ∨ i = 2 := by omega
    rcases this with rfl | rfl <;> decide
theorem sessions_139 (w : World) : Calls Try.prog 9 #[.slice (some ⟨w.heap.size, 0, none⟩) 3 3, .int .i64 4] (w.alloc (.cells #[.int .i64 1, .int .i64 3, .int .i64 9] 3))
    fun e w' => (∃ A c, e = .returned (.tuple #[.slice A 2 c, .int .i64 0])) ∧ Below w.heap.size w w' := by
  have hi : Ints (w.alloc (.cells #[.int .i64 1, .int .i64 3, .int .i64 9] 3)) (some ⟨w.heap.size, 0, none⟩) 3 x139 := by
    intro _
    refine ⟨w.heap.size, 0, rfl, by simp, fun j hj => ?_⟩
    have : j = 0 ∨ j = 1 ∨ j = 2 := by omega
    rcases this with rfl | rfl | rfl <;> simp [x139]
  refine (sessions_any _ 3 3 x139 4 _ hi (by decide)).mono fun e w' h => ?_
  rcases h with ⟨_, A, c, he, _, hb⟩ | ⟨hno, _⟩
  · rw [sess_139] at he
    exact ⟨⟨A, c, he⟩, ((Below.refl _ _).alloc (Nat.le_refl _) _).trans (hb.mono (by simp))⟩
  · exact absurd ok_139 hno

/-- what the two answers are -/
def BothPost (w : World) (e : Ending) (w' : World) (t : TypeId) (L : List (Int × Int)) (k : Int) : Prop :=
  ∃ A c, e = .returned (.tuple #[.slice A L.length c, .int .i64 k]) ∧ Pairs w' A L ∧ Below w.heap.size w w'
theorem sessions_both (A : Option Addr) (n c : Nat) (x : Nat → Int) (gap : Int) (hn : n ≤ 1000000) :
    ∃ (L : List (Int × Int)) (k : Int), L.length ≤ 1000000 ∧ (∀ w, Ints w A n x → Calls Try.prog 9 #[.slice A n c, .int .i64 gap] w fun e w' => BothPost w e w' 33 L k) ∧
      ∀ w, Ints w A n x → Calls Try.prog 10 #[.slice A n c, .int .i64 gap] w fun e w' => BothPost w e w' 44 L k := by
  by_cases hok : sessOk n x gap
  · refine ⟨sessTo x gap n, 0, Nat.le_trans (sessTo_length x gap n) hn, fun w h => ?_, fun w h => ?_⟩
    · refine (sessions_any A n c x gap w h hn).mono fun e w' hp => ?_
      rcases hp with ⟨_, A, c, he, ho, hb⟩ | ⟨hno, _⟩
      · exact ⟨A, c, he, Pairs.of_own ho, hb⟩
      · exact absurd hok hno
    · refine (refSessions_any A n c x gap w h hn).mono fun e w' hp => ?_
      rcases hp with ⟨_, A, c, he, ho, hb⟩ | ⟨hno, _⟩
      · exact ⟨A, c, he, Pairs.of_own ho, hb⟩
      · exact absurd hok hno
  · refine ⟨[], 2, by simp, fun w h => ?_, fun w h => ?_⟩
    · refine (sessions_any A n c x gap w h hn).mono fun e w' hp => ?_
      rcases hp with ⟨hyes, _⟩ | ⟨_, he, hb⟩
      · exact absurd hyes hok
      · exact ⟨none, 0, he, Cells.zero _ _ _, hb⟩
    · refine (refSessions_any A n c x gap w h hn).mono fun e w' hp => ?_
      rcases hp with ⟨hyes, _⟩ | ⟨_, he, hb⟩
      · exact absurd hyes hok
      · exact ⟨none, 0, he, Cells.zero _ _ _, hb⟩
set_option maxHeartbeats 1000000 in
theorem windowSessions_few (A : Option Addr) (n c : Nat) (x : Nat → Int) (gap : Int) (w : World) (h : Ints w A n x) (hn : n ≤ 500) :
    Calls Try.prog 3 #[.slice A n c, .int .i64 gap] w fun e w' => e = .returned (.bool true) ∧ Below w.heap.size w w' := by
  obtain ⟨L, k, hL, c1, c2⟩ := sessions_both A n c x gap (by omega)
  have C1 := Lib.hid (c1 w h); clear c1
  have C2 := Lib.hid c2; clear c2
  go_enter Try.func3, Try.ntmps3
  go_wp2_with fail
  refine C1.out.mono ?_
  rintro e w1 ⟨A1, k1, rfl, hp1, hb1⟩
  go_wp2_with fail
  refine (C2.out w1 (h.below hb1)).mono ?_
  rintro e w2 ⟨A2, k2, rfl, hp2, hb2⟩
  have hp12 := hp1.below hb2
  have hb12 := hb1.trans (hb2.mono hb1.size)
  go_wp2_with fail
  refine (sessions_139 w2).mono ?_
  rintro e w3 ⟨⟨A3, k3, rfl⟩, hb3⟩
  go_wp2_with fail
  refine (spans_own A1 k1 A2 k2 L w3 (hp12.below hb3) (hp2.below hb3) hL).mono ?_
  rintro e w4 ⟨rfl, hb4⟩
  have hb := (hb12.trans (hb3.mono hb12.size))
  have hbb := hb.trans (hb4.mono hb.size)
  go_wp2
  go_ret
  exact ⟨rfl, hbb⟩
set_option maxHeartbeats 1000000 in
theorem windowSessions_many (b off : Nat) (n c : Nat) (x : Nat → Int) (gap : Int) (w : World) (h : Ints w (some ⟨b, off, none⟩) 500 x) (hn : 500 < n) (hnc : n ≤ c) (hc : c ≤ 9223372036854775807) :
    Calls Try.prog 3 #[.slice (some ⟨b, off, none⟩) n c, .int .i64 gap] w fun e w' => e = .returned (.bool true) ∧ Below w.heap.size w w' := by
  obtain ⟨L, k, hL, c1, c2⟩ := sessions_both (some ⟨b, off, none⟩) 500 c x gap (by omega)
  have C1 := Lib.hid (c1 w h); clear c1
  have C2 := Lib.hid c2; clear c2
  go_enter Try.func3, Try.ntmps3
  go_wp2_with fail
  refine C1.out.mono ?_
  rintro e w1 ⟨A1, k1, rfl, hp1, hb1⟩
  go_wp2_with fail
  refine (C2.out w1 (h.below hb1)).mono ?_
  rintro e w2 ⟨A2, k2, rfl, hp2, hb2⟩
  have hp12 := hp1.below hb2
  have hb12 := hb1.trans (hb2.mono hb1.size)
  go_wp2_with fail
  refine (sessions_139 w2).mono ?_
  rintro e w3 ⟨⟨A3, k3, rfl⟩, hb3⟩
  go_wp2_with fail
  refine (spans_own A1 k1 A2 k2 L w3 (hp12.below hb3) (hp2.below hb3) hL).mono ?_
  rintro e w4 ⟨rfl, hb4⟩
  have hb := (hb12.trans (hb3.mono hb12.size))
  have hbb := hb.trans (hb4.mono hb.size)
  go_wp2
  go_ret
  exact ⟨rfl, hbb⟩
theorem windowSessions_walk (w : World) (A : Option Addr) (n c : Nat) (x : Nat → Int) (h : IntArg w A n c x) (gap : Int) (hg : -9223372036854775808 ≤ gap ∧ gap ≤ 9223372036854775807) :
    Calls Try.prog 3 #[.slice A n c, .int .i64 gap] w fun e w' => e = .returned (.bool true) ∧ Below w.heap.size w w' := by
  by_cases hn : n ≤ 500
  · exact windowSessions_few A n c x gap w h.ints hn
  · have h5 : Ints w A 500 x := Cells.take h.ints (by omega)
    obtain ⟨b, off, rfl, _⟩ := h5 (by decide)
    exact windowSessions_many b off n c x gap w h5 (by omega) h.le h.max
end Go.Proofs.Ytjbdnomnjdpckaa

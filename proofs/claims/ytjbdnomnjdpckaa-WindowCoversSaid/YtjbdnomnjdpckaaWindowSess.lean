/- Contracts of window.times, window.Sessions. -/
import Derived.Test.YtjbdnomnjdpckaaProg
import Derived.Test.YtjbdnomnjdpckaaSessMath
import Derived.Test.YtjbdnomnjdpckaaMem
import Derived.WalkKit
import Derived.WalkLawsBesides
import Derived.KernelRfl
import Derived.Deep.AppendLies
namespace Go.Proofs.Ytjbdnomnjdpckaa
open Go.RowKit
set_option linter.unusedVariables false

theorem times_any (A : Option Addr) (n c : Nat) (x : Nat → Int) (w : World) (h : Ints w A n x) (hn : n ≤ 9223372036854775807) (ok : Bool) (hok : ok = true ↔ ∀ i, i < n → isTime (x i)) :
    Calls Try.prog 20 #[.slice A n c] w fun e w' => e = .returned (.bool ok) ∧ w = w' := by
  have HO := Lib.hid hok; clear hok
  go_enter Try.func20, Try.ntmps20
  go_wp2
  go_loop [7] (fun i => ∃ k : Nat, k ≤ n ∧ i = .int .i64 k ∧ ∀ j, j < k → isTime (x j)) (fun i => n - (intOf i).toNat)
  case atStart => exact ⟨0, by omega, rfl, fun j hj => by omega⟩
  case round =>
    obtain ⟨k, hk, rfl, hall⟩ := hrel
    have HA := Lib.hid hall; clear hall
    by_cases hlt : k < n
    · obtain ⟨b, off, rfl, hb, hc⟩ := h (by omega)
      have hck := hc k hlt
      clear hc h
      have no : ¬ isTime (x k) → Ending.returned (.bool false) = .returned (.bool ok) := fun hno => by
        rcases Bool.eq_false_or_eq_true ok with h | h
        · exact absurd (HO.out.1 h k hlt) hno
        · rw [h]
      have NO := Lib.hid no; clear no
      by_cases h1 : x k < -1152921504606846976
      · go_wp2
        go_ret
        exact ⟨NO.out (fun h => by unfold isTime at h; omega), rfl⟩
      · by_cases h2 : 1152921504606846976 < x k
        · go_wp2
          go_ret
          exact ⟨NO.out (fun h => by unfold isTime at h; omega), rfl⟩
        · go_wp2
          exact ⟨⟨k + 1, by omega, by go_num, fun j hj => by
            rcases Nat.lt_or_ge j k with h | h
            · exact HA.out j h
            · obtain rfl : j = k := by omega
              unfold isTime; omega⟩, by simp [intOf]; omega⟩
    · have e : ok = true := HO.out.2 (fun i hi => HA.out i (by omega))
      have E := Lib.hid e; clear e
      go_wp2
      go_ret
      exact ⟨by rw [E.out]; rfl, rfl⟩

theorem spanElem : Elem Try.prog 23 33 (.agg #[.int .i64 0, .int .i64 0]) 2 16 := Elem.mk' Try.underlying23 (by kernel_rfl) rfl (by decide)

/-- the round's state -/
def SessRel (w : World) (n : Nat) (x : Nat → Int) (gap : Int) (v i : Value) (wr : World) : Prop :=
  ∃ (k : Nat) (A : Option Addr) (c m : Nat), m = (sessTo x gap k).length ∧ k ≤ n ∧ i = .int .i64 k ∧ v = .slice A m c ∧
    wr.ownsRow w.heap.size 33 2 (.slice A m c) m (cells2 (sessTo x gap k)) ∧ Below w.heap.size w wr ∧ ∀ j, 0 < j → j < k → x (j - 1) ≤ x j
theorem SessRel.mk_ {w wr : World} {n k : Nat} {x : Nat → Int} {gap : Int} {A : Option Addr} {c m : Nat} {L : List (Int × Int)} (hL : L = sessTo x gap (k + 1)) (hm : m = L.length) (hk : k + 1 ≤ n)
    (ho : wr.ownsRow w.heap.size 33 2 (.slice A m c) m (cells2 L)) (hb : Below w.heap.size w wr) (hs : ∀ j, 0 < j → j < k → x (j - 1) ≤ x j) (hu : 0 < k → x (k - 1) ≤ x k) :
    SessRel w n x gap (.slice A m c) (.int .i64 (k + 1)) wr := by
  subst hL
  exact ⟨k + 1, A, c, m, hm, hk, by go_num, rfl, ho, hb, fun j h0 h1 => by
    rcases Nat.lt_or_ge j k with h | h
    · exact hs j h0 h
    · obtain rfl : j = k := by omega
      exact hu h0⟩
def SessPost (w : World) (n : Nat) (x : Nat → Int) (gap : Int) (e : Ending) (w' : World) : Prop :=
  (sessOk n x gap ∧ ∃ A c, e = .returned (.tuple #[.slice A (sessTo x gap n).length c, .int .i64 0]) ∧ w'.ownsRow w.heap.size 33 2 (.slice A (sessTo x gap n).length c) (sessTo x gap n).length (cells2 (sessTo x gap n)) ∧ Below w.heap.size w w') ∨
  (¬ sessOk n x gap ∧ e = .returned (.tuple #[.slice none 0 0, .int .i64 2]) ∧ Below w.heap.size w w')

set_option maxHeartbeats 1000000 in
theorem sessions_in (A : Option Addr) (n c : Nat) (x : Nat → Int) (gap : Int) (w : World) (h : Ints w A n x) (hn : n ≤ 1000000) (hg1 : 1 ≤ gap) (hg2 : gap ≤ 1152921504606846976) (ht : ∀ i, i < n → isTime (x i)) :
    Calls Try.prog 9 #[.slice A n c, .int .i64 gap] w (SessPost w n x gap) := by
  have htimes := times_any A n c x w h (by omega) true (by simp; exact ht)
  have HT := Lib.hid htimes; clear htimes
  have HTT := Lib.hid ht; clear ht
  go_enter Try.func9, Try.ntmps9
  go_wp2_with (go_at_call 20; refine HT.out.mono ?_; rintro e w' ⟨rfl, rfl⟩)
  go_loopw [6, 23] (SessRel w n x gap) (fun _ i _ => n - (intOf i).toNat)
  case atStart => exact ⟨0, none, 0, 0, rfl, by omega, rfl, rfl, World.ownsRow_nil _ _ _ _, Below.refl _ _, fun j _ h => by omega⟩
  case round =>
    obtain ⟨k, A', c', m, hm, hk, rfl, rfl, hown, hbel, hso⟩ := hrel
    have hlen : m ≤ k := by rw [hm]; exact sessTo_length x gap k
    have HM := Lib.hid hm; clear hm
    have HS := Lib.hid hso; clear hso
    by_cases hlt : k < n
    · obtain ⟨b, off, rfl, hb, hc⟩ := h (by omega)
      have hck : wr.cell? ⟨b, off + k, none⟩ = some (.int .i64 (x k)) := (hbel.cell (p := ⟨b, off + k, none⟩) hb).trans (hc k hlt)
      have htk : isTime (x k) := HTT.out k hlt
      unfold isTime at htk
      have hsz := hbel.size
      by_cases hfall : 0 < k ∧ x k < x (k - 1)
      · obtain ⟨hk0, hf⟩ := hfall
        have hck1 : wr.cell? ⟨b, off + (k - 1), none⟩ = some (.int .i64 (x (k - 1))) := (hbel.cell (p := ⟨b, off + (k - 1), none⟩) hb).trans (hc (k - 1) (by omega))
        clear hc h
        go_wp2
        go_ret2
        refine .inr ⟨fun hs => ?_, rfl, hbel⟩
        have := hs.2.2.2 k hk0 hlt
        omega
      · cases m with
        | zero =>
          have hk0 : k ≤ 0 := by
            rcases Nat.eq_zero_or_pos k with h0 | h0
            · omega
            · exact absurd (List.eq_nil_of_length_eq_zero HM.out.symm) (sessTo_ne x gap k h0)
          have HL : Hid ([] = sessTo x gap k) := (List.eq_nil_of_length_eq_zero HM.out.symm).symm
          clear hc h hfall
          go_wp2_with (at_builtin; refine wpList_append_new spanElem hown hbel (Nat.le_refl _) (by omega) rfl _ _ rfl [.int .i64 (x k), .int .i64 (x k + gap)] rfl rfl rfl (by simp [Value.oneCell']) (by decide) (by decide) ?_; intro A1 c1 w1 ho1 hb1 _)
          refine ⟨SessRel.mk_ (L := [(x k, x k + gap)]) ?_ rfl (by omega) ?_ hb1 HS.out (fun h => by omega), by simp [intOf]; omega⟩
          · show _ = sessStep gap (sessTo x gap k) (x k)
            rw [← HL.out]; rfl
          · have := ho1; rw [← HL.out] at this; simpa [cells2] using this
        | succ m =>
          have hk0 : 0 < k := by omega
          have hup : x (k - 1) ≤ x k := by omega
          have hck1 : wr.cell? ⟨b, off + (k - 1), none⟩ = some (.int .i64 (x (k - 1))) := (hbel.cell (p := ⟨b, off + (k - 1), none⟩) hb).trans (hc (k - 1) (by omega))
          clear hc h hfall
          obtain ⟨M, p, hL⟩ : ∃ M p, sessTo x gap k = M ++ [p] := by
            rcases snoc_cases (sessTo x gap k) with h | h
            · have := HM.out; rw [h] at this; simp at this
            · exact h
          have hml : M.length = m := by have := HM.out; rw [hL] at this; simp at this; omega
          rw [hL] at hown
          obtain ⟨g, cap, hv, hgb, hgs⟩ := hown.form (by omega)
          injection hv with hA _ hc'
          subst hA hc'
          have hto : wr.cell? ⟨g, m * 2 + 1, none⟩ = some (.int .i64 p.2) := by
            rw [hown.cellAt _ (by omega), ← hml, (cells2_even (M ++ [p]) M.length p (by simp)).2]
          have hfz : wr.frozen? ⟨g, m * 2 + 1, none⟩ = false := hown.frozenAt _
          have HL := Lib.hid hL; clear hL
          have HML := Lib.hid hml; clear hml
          by_cases hin : x k < p.2
          · go_wp2
            have hst := (hown.stored (m * 2 + 1) (.int .i64 (x k + gap))).1
            have hml := HML.out
            refine ⟨SessRel.mk_ (L := M ++ [(p.1, x k + gap)]) ?_ (by simp; omega) (by omega) ?_ (hbel.setCell (p := ⟨g, m * 2 + 1, none⟩) hgb _) HS.out (fun _ => hup), by simp [intOf]; omega⟩
            · show _ = sessStep gap (sessTo x gap k) (x k)
              rw [HL.out, sessStep_last, if_pos hin]
            · rw [← hml, cells2_set_last, hml] at hst; exact hst
          · go_wp2_with (at_builtin; refine wpList_append_new spanElem hown hbel (Nat.le_refl _) (by omega) rfl _ _ rfl [.int .i64 (x k), .int .i64 (x k + gap)] rfl rfl rfl (by simp [Value.oneCell']) (by unfold maxLen; omega) (by omega) ?_; intro A1 c1 w1 ho1 hb1 _)
            have hml := HML.out
            refine ⟨SessRel.mk_ (L := M ++ [p] ++ [(x k, x k + gap)]) ?_ (by simp; omega) (by omega) ?_ hb1 HS.out (fun _ => hup), by simp [intOf]; omega⟩
            · show _ = sessStep gap (sessTo x gap k) (x k)
              rw [HL.out, sessStep_last, if_neg hin]
            · rw [cells2_append]; exact ho1
    · obtain rfl : k = n := by omega
      have hok : sessOk k x gap := ⟨hg1, hg2, HTT.out, HS.out⟩
      have HOK := Lib.hid hok; clear hok
      go_wp2
      go_ret2
      refine .inl ⟨HOK.out, A', c', ?_, ?_, hbel⟩
      · rw [← HM.out]; rfl
      · rw [← HM.out]; exact hown
theorem sessions_any (A : Option Addr) (n c : Nat) (x : Nat → Int) (gap : Int) (w : World) (h : Ints w A n x) (hn : n ≤ 1000000) :
    Calls Try.prog 9 #[.slice A n c, .int .i64 gap] w (SessPost w n x gap) := by
  by_cases hg1 : 1 ≤ gap
  · by_cases hg2 : gap ≤ 1152921504606846976
    · by_cases ht : ∀ i, i < n → isTime (x i)
      · exact sessions_in A n c x gap w h hn hg1 hg2 ht
      · have HT := Lib.hid (times_any A n c x w h (by omega) false (by simpa using ht))
        have HX : Hid (¬ sessOk n x gap) := fun hs => ht hs.2.2.1
        clear ht
        go_enter Try.func9, Try.ntmps9
        go_wp2_with (go_at_call 20; refine HT.out.mono ?_; rintro e w' ⟨rfl, rfl⟩)
        go_ret2
        exact .inr ⟨HX.out, rfl, Below.refl _ _⟩
    · have HX : Hid (¬ sessOk n x gap) := fun hs => hg2 hs.2.1
      go_enter Try.func9, Try.ntmps9
      go_wp2
      go_ret2
      exact .inr ⟨HX.out, rfl, Below.refl _ _⟩
  · have HX : Hid (¬ sessOk n x gap) := fun hs => hg1 hs.1
    go_enter Try.func9, Try.ntmps9
    go_wp2
    go_ret2
    exact .inr ⟨HX.out, rfl, Below.refl _ _⟩
end Go.Proofs.Ytjbdnomnjdpckaa

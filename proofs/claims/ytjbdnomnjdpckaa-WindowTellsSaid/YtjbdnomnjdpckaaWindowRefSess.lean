/- Contracts of the reference's Sessions. -/
import Derived.Test.YtjbdnomnjdpckaaProg
import Derived.Test.YtjbdnomnjdpckaaSessMath
import Derived.Test.YtjbdnomnjdpckaaMem
import Derived.WalkKit
import Derived.WalkLawsBesides
import Derived.KernelRfl
import Derived.Deep.AppendLies
import Derived.Deep.RegionHeld3
import Derived.Deep.QuietTactic
import Derived.BigQuiet
namespace Go.Proofs.Ytjbdnomnjdpckaa
open Go.RowKit
set_option linter.unusedVariables false

theorem reftime_yes (t : Int) (w : World) (h : isTime t) :
    Calls Try.prog 21 #[.int .i64 t] w fun e w' => e = .returned (.bool true) ∧ w = w' := by
  obtain ⟨h1, h2⟩ := h
  go_enter Try.func21, Try.ntmps21
  go_wp2
  go_ret
  exact ⟨by first | rfl | exact ret_bool (by simp; omega), rfl⟩
theorem reftime_no (t : Int) (w : World) (h : ¬ isTime t) :
    Calls Try.prog 21 #[.int .i64 t] w fun e w' => e = .returned (.bool false) ∧ w = w' := by
  by_cases h1 : -1152921504606846976 ≤ t
  · have h2 : ¬ t ≤ 1152921504606846976 := fun h2 => h ⟨h1, h2⟩
    clear h
    go_enter Try.func21, Try.ntmps21
    go_wp2
    go_ret
    exact ⟨by first | rfl | exact ret_bool (by simp; omega), rfl⟩
  · clear h
    go_enter Try.func21, Try.ntmps21
    go_wp2
    go_ret
    exact ⟨rfl, rfl⟩
theorem quiet_of {f : FuncId} {args : Array Value} {w : World} {v : Value} (h : Calls Try.prog f args w fun e w' => e = .returned v ∧ w = w') : Calls Try.prog f args w fun e w' => e = .returned v ∧ w' = w :=
  h.mono fun _ _ ⟨a, b⟩ => ⟨a, b.symm⟩
theorem refSpanElem : Elem Try.prog 27 44 (.agg #[.int .i64 0, .int .i64 0]) 2 16 := Elem.mk' Try.underlying27 (by kernel_rfl) rfl (by decide)

def RefSessRel (w : World) (n : Nat) (x : Nat → Int) (gap : Int) (v i : Value) (wr : World) : Prop :=
  ∃ (k : Nat) (A : Option Addr) (c m : Nat), m = (sessTo x gap k).length ∧ k ≤ n ∧ i = .int .i64 k ∧ v = .slice A m c ∧
    wr.ownsRow w.heap.size 44 2 (.slice A m c) m (cells2 (sessTo x gap k)) ∧ Below w.heap.size w wr
theorem RefSessRel.mk_ {w wr : World} {n k : Nat} {x : Nat → Int} {gap : Int} {A : Option Addr} {c m : Nat} {L : List (Int × Int)} (hL : L = sessTo x gap (k + 1)) (hm : m = L.length) (hk : k + 1 ≤ n)
    (ho : wr.ownsRow w.heap.size 44 2 (.slice A m c) m (cells2 L)) (hb : Below w.heap.size w wr) :
    RefSessRel w n x gap (.slice A m c) (.int .i64 (k + 1)) wr := by
  subst hL
  exact ⟨k + 1, A, c, m, hm, hk, by go_num, rfl, ho, hb⟩
def RefSessPost (w : World) (n : Nat) (x : Nat → Int) (gap : Int) (e : Ending) (w' : World) : Prop :=
  (sessOk n x gap ∧ ∃ A c, e = .returned (.tuple #[.slice A (sessTo x gap n).length c, .int .i64 0]) ∧ w'.ownsRow w.heap.size 44 2 (.slice A (sessTo x gap n).length c) (sessTo x gap n).length (cells2 (sessTo x gap n)) ∧ Below w.heap.size w w') ∨
  (¬ sessOk n x gap ∧ e = .returned (.tuple #[.slice none 0 0, .int .i64 2]) ∧ Below w.heap.size w w')

set_option maxHeartbeats 1000000 in
theorem refSessions_in (A : Option Addr) (n c : Nat) (x : Nat → Int) (gap : Int) (w : World) (h : Ints w A n x) (hn : n ≤ 1000000) (hg1 : 1 ≤ gap) (hg2 : gap ≤ 1152921504606846976) :
    Calls Try.prog 10 #[.slice A n c, .int .i64 gap] w (RefSessPost w n x gap) := by
  go_enter Try.func10, Try.ntmps10
  go_wp2
  go_loopw [6] (fun i wr => ∃ k : Nat, k ≤ n ∧ i = .int .i64 k ∧ (∀ j, j < k → isTime (x j)) ∧ (∀ j, 0 < j → j < k → x (j - 1) ≤ x j) ∧ Below w.heap.size w wr) (fun i _ => n - (intOf i).toNat)
  case atStart => exact ⟨0, by omega, rfl, fun j h => by omega, fun j _ h => by omega, Below.refl _ _⟩
  case round =>
    obtain ⟨k, hk, rfl, ht, hso, hbel⟩ := hrel
    have HT := Lib.hid ht; clear ht
    have HS := Lib.hid hso; clear hso
    by_cases hlt : k < n
    · obtain ⟨b, off, rfl, hb, hc⟩ := h (by omega)
      have hck : wr.cell? ⟨b, off + k, none⟩ = some (.int .i64 (x k)) := (hbel.cell (p := ⟨b, off + k, none⟩) hb).trans (hc k hlt)
      have i1 : (k : Int) < (n : Int) := by omega
      by_cases htk : isTime (x k)
      · by_cases hk0 : 0 < k
        · have hck1 : wr.cell? ⟨b, off + (k - 1), none⟩ = some (.int .i64 (x (k - 1))) := (hbel.cell (p := ⟨b, off + (k - 1), none⟩) hb).trans (hc (k - 1) (by omega))
          by_cases hf : x k < x (k - 1)
          · go_wp2
            go_quiet ((go_at_call 21; exact Calls.quiet_of_same (quiet_of (reftime_yes _ _ htk))))
            go_wp2
            go_ret2
            refine .inr ⟨fun hs => ?_, rfl, bel_drewN hbel _⟩
            have := hs.2.2.2 k hk0 hlt
            omega
          · go_wp2
            go_quiet ((go_at_call 21; exact Calls.quiet_of_same (quiet_of (reftime_yes _ _ htk))))
            go_wp2
            exact ⟨⟨k + 1, by omega, by go_num, fun j hj => by
              rcases Nat.lt_or_ge j k with h | h
              · exact HT.out j h
              · obtain rfl : j = k := by omega
                exact htk, fun j h0 hj => by
              rcases Nat.lt_or_ge j k with h | h
              · exact HS.out j h0 h
              · obtain rfl : j = k := by omega
                omega, bel_drewN hbel _⟩, by simp [intOf]; omega⟩
        · have hd : decide (0 < (k : Int)) = false := by simp; omega
          go_wp2
          go_quiet ((go_at_call 21; exact Calls.quiet_of_same (quiet_of (reftime_yes _ _ htk))))
          go_wp2
          exact ⟨⟨k + 1, by omega, by go_num, fun j hj => by
            rcases Nat.lt_or_ge j k with h | h
            · exact HT.out j h
            · obtain rfl : j = k := by omega
              exact htk, fun j h0 hj => by omega, bel_drewN hbel _⟩, by simp [intOf]; omega⟩
      · go_wp2
        go_quiet ((go_at_call 21; exact Calls.quiet_of_same (quiet_of (reftime_no _ _ htk))))
        go_wp2
        go_ret2
        exact .inr ⟨fun hs => htk (hs.2.2.1 k hlt), rfl, bel_drewN hbel _⟩
    · obtain ⟨wo, rfl⟩ : ∃ wo : World, wo = wr := ⟨_, rfl⟩
      have HOK : Hid (sessOk n x gap) := ⟨hg1, hg2, fun i hi => HT.out i (by omega), fun i h0 hi => HS.out i h0 (by omega)⟩
      clear HT HS
      go_wp2
      go_loopw [7, 8] (RefSessRel w n x gap) (fun _ i _ => n - (intOf i).toNat)
      case atStart => exact ⟨0, none, 0, 0, rfl, by omega, rfl, rfl, World.ownsRow_nil _ _ _ _, hbel⟩
      case round =>
        clear hbel
        obtain ⟨k2, A', c', m, hm, hk2, rfl, rfl, hown, hbel⟩ := hrel
        have hlen : m ≤ k2 := by rw [hm]; exact sessTo_length x gap k2
        have HM := Lib.hid hm; clear hm
        by_cases hlt2 : k2 < n
        · obtain ⟨b, off, rfl, hb, hc⟩ := h (by omega)
          have hck : wr.cell? ⟨b, off + k2, none⟩ = some (.int .i64 (x k2)) := (hbel.cell (p := ⟨b, off + k2, none⟩) hb).trans (hc k2 hlt2)
          have htk : isTime (x k2) := HOK.out.2.2.1 k2 hlt2
          unfold isTime at htk
          have hsz := hbel.size
          have i1 : (k2 : Int) < (n : Int) := by omega
          cases m with
          | zero =>
            have hk0 : ¬ 0 < k2 := by
              rcases Nat.eq_zero_or_pos k2 with h0 | h0
              · omega
              · exact absurd (List.eq_nil_of_length_eq_zero HM.out.symm) (sessTo_ne x gap k2 h0)
            have HL : Hid ([] = sessTo x gap k2) := (List.eq_nil_of_length_eq_zero HM.out.symm).symm
            have hd : decide (0 < (k2 : Int)) = false := by simp; omega
            have hc0 := hc k2 hlt2
            clear hc h
            have hi0 : (0 : Int) ≤ (k2 : Int) := Int.natCast_nonneg _
            have es : IntKind.i64.wrap (x k2 + gap) = x k2 + gap := IntWalk.i64_in _ (by omega)
            go_wp2
            go_quiet (fail)
            go_wp2_with fail
            obtain ⟨wn, hwn⟩ : ∃ wn : World, wn = wr.drewN nq := ⟨_, rfl⟩
            have hown2 := own_drewN hown nq
            have hbel2 := bel_drewN hbel nq
            have hck2 : (wr.drewN nq).cell? ⟨b, off + k2, none⟩ = some (.int .i64 (x k2)) := hck
            rw [← hwn] at hown2 hbel2 hck2 ⊢
            clear hwn hown hbel hck hsz
            have hsz := hbel2.size
            go_region_held3 (fun w' => w'.cell? ⟨b, off + k2, none⟩ = some (.int .i64 (x k2)))
              (first
                | go_keep
                | exact (hb1.cell (p := ⟨b, off + k2, none⟩) hb).trans hc0)
              ((refine step_append_at refSpanElem (own_drew (hown2.alloc _)) ((hbel2.alloc hsz _).drew) (Nat.le_refl _) (by simp; omega) rfl _ _ rfl wn.heap.size [.int .i64 (x k2), .int .i64 (x k2 + gap)] (heap_alloc_new wn _) rfl rfl rfl (by simp [Value.oneCell']) (by decide) (by decide) ?_; intro A1 c1 w1 ho1 hb1 _))
            go_wp2
            refine ⟨RefSessRel.mk_ (L := [(x k2, x k2 + gap)]) ?_ rfl (by omega) ?_ hb1, by simp [intOf]; omega⟩
            · show _ = sessStep gap (sessTo x gap k2) (x k2)
              rw [← HL.out]; rfl
            · have := ho1; rw [← HL.out] at this; simpa [cells2] using this
          | succ m =>
            have hk0 : 0 < k2 := by omega
            have hk0i : (0 : Int) < (k2 : Int) := by omega
            have hc0 := hc k2 hlt2
            clear hc h
            have hi0 : (0 : Int) ≤ (k2 : Int) := Int.natCast_nonneg _
            obtain ⟨M, p, hL⟩ : ∃ M p, sessTo x gap k2 = M ++ [p] := by
              rcases snoc_cases (sessTo x gap k2) with h | h
              · have := HM.out; rw [h] at this; simp at this
              · exact h
            have hml : M.length = m := by have := HM.out; rw [hL] at this; simp at this; omega
            rw [hL] at hown
            obtain ⟨g, cap, hv, hgb, hgs⟩ := hown.form (by omega)
            injection hv with hA _ hc'
            subst hA hc'
            have hto : wr.cell? ⟨g, m * 2 + 1, none⟩ = some (.int .i64 p.2) := by
              rw [hown.cellAt _ (by omega), ← hml, (cells2_even (M ++ [p]) M.length p (by simp)).2]
            have hfz : wr.frozen? ⟨g, m * 2 + 1, none⟩ = false := hown.frozenAt _
            have HL := Lib.hid hL; clear hL
            have HML := Lib.hid hml; clear hml
            have es : IntKind.i64.wrap (x k2 + gap) = x k2 + gap := IntWalk.i64_in _ (by omega)
            by_cases hin : x k2 < p.2
            · go_wp2
              go_quiet (fail)
              go_wp2
              have hst := ((own_drewN hown nq).stored (m * 2 + 1) (.int .i64 (x k2 + gap))).1
              have hml := HML.out
              refine ⟨RefSessRel.mk_ (L := M ++ [(p.1, x k2 + gap)]) ?_ (by simp; omega) (by omega) ?_ ((bel_drewN hbel nq).setCell (p := ⟨g, m * 2 + 1, none⟩) hgb _), by simp [intOf]; omega⟩
              · show _ = sessStep gap (sessTo x gap k2) (x k2)
                rw [HL.out, sessStep_last, if_pos hin]
              · rw [← hml, cells2_set_last, hml] at hst; exact hst
            · go_wp2
              go_quiet (fail)
              go_wp2_with fail
              obtain ⟨wn, hwn⟩ : ∃ wn : World, wn = wr.drewN nq := ⟨_, rfl⟩
              have hown2 := own_drewN hown nq
              have hbel2 := bel_drewN hbel nq
              have hck2 : (wr.drewN nq).cell? ⟨b, off + k2, none⟩ = some (.int .i64 (x k2)) := hck
              rw [← hwn] at hown2 hbel2 hck2 ⊢
              clear hwn hown hbel hck hsz hto hfz
              have hsz := hbel2.size
              go_region_held3 (fun w' => w'.cell? ⟨b, off + k2, none⟩ = some (.int .i64 (x k2)))
                (first
                  | go_keep
                  | exact (hb1.cell (p := ⟨b, off + k2, none⟩) hb).trans hc0)
                ((refine step_append_at refSpanElem (own_drew (hown2.alloc _)) ((hbel2.alloc hsz _).drew) (Nat.le_refl _) (by simp; omega) rfl _ _ rfl wn.heap.size [.int .i64 (x k2), .int .i64 (x k2 + gap)] (heap_alloc_new wn _) rfl rfl rfl (by simp [Value.oneCell']) (by unfold maxLen; omega) (by omega) ?_; intro A1 c1 w1 ho1 hb1 _))
              go_wp2
              have hml := HML.out
              refine ⟨RefSessRel.mk_ (L := M ++ [p] ++ [(x k2, x k2 + gap)]) ?_ (by simp; omega) (by omega) ?_ hb1, by simp [intOf]; omega⟩
              · show _ = sessStep gap (sessTo x gap k2) (x k2)
                rw [HL.out, sessStep_last, if_neg (by omega)]
              · rw [cells2_append]; exact ho1
        · go_wp2
          go_ret2
          obtain rfl : k2 = n := by omega
          refine .inl ⟨HOK.out, A', c', ?_, ?_, hbel⟩
          · rw [← HM.out]; rfl
          · rw [← HM.out]; exact hown
theorem refSessions_any (A : Option Addr) (n c : Nat) (x : Nat → Int) (gap : Int) (w : World) (h : Ints w A n x) (hn : n ≤ 1000000) :
    Calls Try.prog 10 #[.slice A n c, .int .i64 gap] w (RefSessPost w n x gap) := by
  by_cases hg1 : 1 ≤ gap
  · by_cases hg2 : gap ≤ 1152921504606846976
    · exact refSessions_in A n c x gap w h hn hg1 hg2
    · have HX : Hid (¬ sessOk n x gap) := fun hs => hg2 hs.2.1
      go_enter Try.func10, Try.ntmps10
      go_wp2
      go_ret2
      exact .inr ⟨HX.out, rfl, Below.refl _ _⟩
  · have HX : Hid (¬ sessOk n x gap) := fun hs => hg1 hs.1
    go_enter Try.func10, Try.ntmps10
    go_wp2
    go_ret2
    exact .inr ⟨HX.out, rfl, Below.refl _ _⟩
end Go.Proofs.Ytjbdnomnjdpckaa

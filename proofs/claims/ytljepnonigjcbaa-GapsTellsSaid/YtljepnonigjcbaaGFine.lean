/- Contract of gaps.fine: a map whose keys are spans. -/
import Derived.Test.YtljepnonigjcbaaProg
import Derived.Test.YtljepnonigjcbaaGRows
import Derived.Test.YtljepnonigjcbaaGWin
import Derived.WalkKit
import Derived.WalkLawsBesides
import Derived.KernelRfl
import Derived.Deep.QuietTactic
import Derived.BigQuiet
import Derived.Maps.Own
import Derived.Maps.OwnSet
import Derived.Maps.Views
import Derived.DeepKeys4
namespace Go.Proofs.Ytljepnonigjcbaa
open Go Go.RowKit Go.Maps
set_option linter.unusedVariables false

theorem gLaidOut : laidOutB Try.prog = true := by kernel_rfl
theorem spanRow : (52 : TypeId) < (Try.prog).types.size := of_decide_eq_true (by kernel_rfl)
theorem spanWide : (match (Try.prog).underlying 52 with | some (.array _ _) | some (.struct _) => true | _ => false) = true := by rw [Try.underlying52]
set_option maxRecDepth 100000 in
theorem spanLaw : Keyed Try.prog 52 := Keyed.of_law (deep_law_laid gLaidOut (m := 2) (by omega) spanRow (by kernel_rfl) spanWide)
theorem boolZero (w : World) : (zeroValue 4).run Try.prog w = .ok (.bool false) w := by kernel_rfl
theorem typesPos : ∃ m, (Try.prog).types.size = m + 1 := Nat.exists_eq_succ_of_ne_zero (Nat.ne_of_gt (Nat.lt_of_le_of_lt (Nat.zero_le _) spanRow))
theorem spanType : (Try.prog).keyType 52 = true := by kernel_rfl
theorem spanCells : (Try.prog).cellsOf 52 = 2 := by kernel_rfl
theorem intCells : (Try.prog).cellsOf 3 = 1 := by kernel_rfl
theorem span_key (a b : Int) (ha : in64' a) (hb : in64' b) : ∃ kl, keyOf Try.prog 52 (.agg #[.int .i64 a, .int .i64 b]) = some kl := by
  obtain ⟨m, hm⟩ := typesPos
  have wa : (Lit.int .i64 a).wf = true := WalkArith.wf_i64 ha
  have wb : (Lit.int .i64 b).wf = true := WalkArith.wf_i64 hb
  have h : (keyOf Try.prog 52 (.agg #[.int .i64 a, .int .i64 b])).isSome = true := by
    unfold keyOf
    rw [Try.underlying52]
    simp only [spanType]
    rw [hm]
    simp [Value.formed, Program.keyLits, Try.underlying52, Try.underlying3, spanCells, intCells, wa, wb, Value.cells]
  exact Option.isSome_iff_exists.1 h
theorem plainElem_bool_inv {H : Type} {P : Program} {e : TypeId} (he : P.underlying e = some .bool) {v : Value} {z : DataW H × List MemPlace} (h : plainElem P e v = some z) : ∃ x, v = .bool x ∧ z = (.lit (.bool x), []) := by
  unfold plainElem at h
  rw [he] at h
  cases v <;> simp at h
  subst h
  exact ⟨_, rfl, rfl⟩
/-- a map that has the spans of a list, and no others -/
def HasSpans (D : DataW Unit) (L : List (Int × Int)) : Prop :=
  ∀ a b kl, keyOf Try.prog 52 (.agg #[.int .i64 a, .int .i64 b]) = some kl → D.atKey kl (.lit (.bool false)) = .lit (.bool (decide ((a, b) ∈ L)))
theorem HasSpans.nil : HasSpans (.map []) [] := by
  intro a b kl h
  rw [WideAt.atKey_none _ (by simp)]
  simp
theorem HasSpans.put {D : DataW Unit} {L : List (Int × Int)} (h : HasSpans D L) (hD : IsMap D) {a b : Int} {kl : Lit} (hk : keyOf Try.prog 52 (.agg #[.int .i64 a, .int .i64 b]) = some kl) :
    HasSpans (D.put kl (.lit (.bool true))) (L ++ [(a, b)]) := by
  intro a' b' kl' h'
  by_cases e : kl' = kl
  · subst e
    rw [atKey_put_same hD (spanLaw.key hk)]
    have e2 := spanLaw.inj hk h'
    simp at e2
    obtain ⟨rfl, rfl⟩ := e2
    simp
  · rw [atKey_put_other e, h a' b' kl' h']
    have hne : ¬ (a' = a ∧ b' = b) := by
      rintro ⟨rfl, rfl⟩
      rw [hk] at h'
      injection h' with h'
      exact e h'.symm
    exact congrArg (fun x => DataW.lit (Lit.bool x)) (decide_eq_decide.2 (by simp only [List.mem_append, List.mem_singleton, Prod.mk.injEq, hne, or_false]))
def SpanMap (w : World) (b n : Nat) (L : List (Int × Int)) : Prop := ∃ D : DataW Unit, w.ownsMap Try.prog 52 (plainElem Try.prog 4) b n D ∧ HasSpans D L
theorem SpanMap.made (w : World) : SpanMap (w.alloc (.map #[] 0)) w.heap.size 0 [] := ⟨_, World.ownsMap_made _ _ _ _, HasSpans.nil⟩
theorem SpanMap.look {w : World} {b n : Nat} {L : List (Int × Int)} (h : SpanMap w b n L) (x y : Int) (hx : in64' x) (hy : in64' y) :
    (Instr.lookup 79 (.map (some b)) (.agg #[.int .i64 x, .int .i64 y]) false).run Try.prog w = .ok (.bool (decide ((x, y) ∈ L))) w := by
  obtain ⟨D, ho, hD⟩ := h
  obtain ⟨kl, hk⟩ := span_key x y hx hy
  obtain ⟨v, ps, hrun, hv⟩ := ho.lookup spanLaw Try.underlying79 (boolZero w) (plainElem_bool Try.underlying4 false) hk
  obtain ⟨u, rfl, hz⟩ := plainElem_bool_inv Try.underlying4 hv
  rw [hrun]
  rw [hD x y kl hk] at hz
  simp at hz
  rw [hz.1]
theorem SpanMap.kept {w w' : World} {b n : Nat} {L : List (Int × Int)} (h : SpanMap w b n L) (hb : Below w.heap.size w w') : SpanMap w' b n L := by
  obtain ⟨D, ho, hD⟩ := h
  exact ⟨D, ho.kept (row := none) ⟨hb.os, hb.tape, hb.output, hb.size, fun k hk _ => hb.block k hk⟩ (by simp), hD⟩
theorem SpanMap.drN {w : World} {b n : Nat} {L : List (Int × Int)} (h : SpanMap w b n L) (m : Nat) : SpanMap (w.drewN m) b n L := h.kept (bel_drewN (Below.refl _ _) m)
theorem grown_below {B : Nat} {a w w' : World} {g : Nat} (h : Below B a w) (hg : w.grownBy w' (some g)) (hB : B ≤ w.heap.size) (hr : B ≤ g) : Below B a w' := h.grown hg hB (fun k hk => by injection hk with hk; omega)
theorem getD_mem {α : Type} (L : List α) (i : Nat) (d : α) (h : i < L.length) : L.getD i d ∈ L := by
  rw [List.getD_eq_getElem?_getD, List.getElem?_eq_getElem h]
  exact List.getElem_mem h
theorem take_getD {α : Type} (L : List α) (i : Nat) (d : α) (h : i < L.length) : L.take (i + 1) = L.take i ++ [L.getD i d] := by
  rw [List.take_add_one, List.getD_eq_getElem?_getD, List.getElem?_eq_getElem h]
  rfl
set_option maxRecDepth 100000 in
set_option maxHeartbeats 2000000 in
theorem fine_any (A B : Option Addr) (R : List Rw) (L : List (Int × Int)) (c c' : Nat) (w : World) (hr : RowsAt w A R) (hl : Pairs w B L) (hR : ∀ r ∈ R, rwOk r) (hL : ∀ p ∈ L, in64' p.1 ∧ in64' p.2)
    (hRn : R.length ≤ 9223372036854775807) (hLn : L.length ≤ 65536) (ok : Bool) (hok : ok = true ↔ fineR R L) :
    Calls Try.prog 15 #[.slice A R.length c, .slice B L.length c'] w fun e w' => e = .returned (.bool ok) ∧ Below w.heap.size w w' := by
  have HO := Lib.hid hok; clear hok
  have HR := Lib.hid hR; clear hR
  have HL := Lib.hid hL; clear hL
  have hmm := @run_makeMap Try.prog
  go_enter Try.func15, Try.ntmps15
  go_wp2
  go_loopw [13] (fun i wr => ∃ k : Nat, k ≤ L.length ∧ i = .int .i64 k ∧ SpanMap wr w.heap.size k (L.take k) ∧ Below w.heap.size w wr) (fun i _ => L.length - (intOf i).toNat)
  case atStart => exact ⟨0, by omega, rfl, SpanMap.made w, (Below.refl _ _).alloc (Nat.le_refl _) _⟩
  case round =>
    obtain ⟨k, hk, rfl, hm, hbel⟩ := hrel
    have hsz := hbel.size
    by_cases hlt : k < L.length
    · obtain ⟨b, off, rfl, hb, hc⟩ := hl (by omega)
      obtain ⟨q1, q2⟩ := Pairs.at_ hc hlt
      have c1 := (hbel.cell (p := ⟨b, off + k * 2, none⟩) hb).trans q1
      have c2 := (hbel.cell (p := ⟨b, off + k * 2 + 1, none⟩) hb).trans q2
      clear q1 q2 hc hl hr
      obtain ⟨D, hown, hD⟩ := hm
      obtain ⟨i1, i2⟩ := HL.out _ (getD_mem L k (0, 0) hlt)
      obtain ⟨kl, hkl⟩ := span_key _ _ i1 i2
      have htk := take_getD L k (0, 0) hlt
      have hmem := getD_mem L k (0, 0) hlt
      obtain ⟨⟨x, y⟩, hp⟩ : ∃ p, p = L.getD k (0, 0) := ⟨_, rfl⟩
      rw [← hp] at c1 c2 htk hkl
      dsimp only at c1 c2 hkl
      clear hmem hp
      have HT := Lib.hid htk; clear htk
      have HD := Lib.hid hD; clear hD
      clear i1 i2
      have hnk : k < Go.maxLen := Nat.lt_of_le_of_lt (show k ≤ 65536 by omega) (by decide)
      go_wp2_with (first | (at_mapUpdate; refine wpList_mapUpdate_own _ rfl _ _ _ 79 rfl 52 4 spanLaw Try.underlying79 _ w.heap.size k D rfl (hown.alloc _) hnk (.agg #[.int .i64 x, .int .i64 y]) (.bool true) kl rfl rfl hkl (.lit (.bool true)) [] (plainElem_bool Try.underlying4 true) ?_; intro w1 hown1 hgrow1) | go_in)
      refine ⟨⟨k + 1, by omega, by go_num, ⟨_, hown1, ?_⟩, ?_⟩, by simp [intOf]; omega⟩
      · rw [HT.out]; exact HD.out.put hown.isMap hkl
      · exact grown_below (hbel.alloc hsz _) hgrow1 (by simp; omega) (Nat.le_refl _)
    · have hkl : L.take k = L := List.take_of_length_le (by omega)
      rw [hkl] at hm
      clear hkl hl
      obtain ⟨w1, rfl⟩ : ∃ w1, w1 = wr := ⟨wr, rfl⟩
      go_wp2
      go_loopw [22] (fun i wx => ∃ j : Nat, j ≤ R.length ∧ i = .int .i64 j ∧ (∀ q, q < j → rowOk R L q) ∧ Below w1.heap.size w1 wx) (fun i _ => R.length - (intOf i).toNat)
      case atStart => exact ⟨0, by omega, rfl, fun q hq => by omega, Below.refl _ _⟩
      case round =>
        obtain ⟨j, hj, rfl, hall, hbx⟩ := hrel
        have hszx := hbx.size
        have HA := Lib.hid hall; clear hall
        have hbw : Below w.heap.size w wr := bel_step hbel (Nat.le_refl _) hbx
        by_cases hlt2 : j < R.length
        · obtain ⟨b, off, rfl, hb, hc⟩ := hr (by omega)
          obtain ⟨q1, q2, q3, q4, q5⟩ := RowsAt.at_ hc hlt2
          have c1 := (hbw.cell (p := ⟨b, off + j * 5, none⟩) hb).trans q1
          have c2 := (hbw.cell (p := ⟨b, off + j * 5 + 1, none⟩) hb).trans q2
          have c3 := (hbw.cell (p := ⟨b, off + j * 5 + 2, none⟩) hb).trans q3
          have c4 := (hbw.cell (p := ⟨b, off + j * 5 + 3, none⟩) hb).trans q4
          have c5 := (hbw.cell (p := ⟨b, off + j * 5 + 4, none⟩) hb).trans q5
          clear q1 q2 q3 q4 q5
          have hbl : b < wr.heap.size := by omega
          have o := HR.out _ (getD_mem R j rw0 hlt2)
          have no : ¬ rowOk R L j → Ending.returned (.bool false) = .returned (.bool ok) := fun hno => by
            rcases Bool.eq_false_or_eq_true ok with h | h
            · exact absurd (HO.out.1 h j hlt2) hno
            · rw [h]
          have yes : rowOk R L j → ∀ q, q < j + 1 → rowOk R L q := fun h q hq => by
            rcases Nat.lt_or_ge q j with h' | h'
            · exact HA.out q h'
            · obtain rfl : q = j := by omega
              exact h
          unfold rowOk at no
          obtain ⟨r, hp⟩ : ∃ p, p = R.getD j rw0 := ⟨_, rfl⟩
          rw [← hp] at c1 c2 c3 c4 c5 o no
          have hyes : (r.z = false ∧ (r.f, r.t) ∈ L ∧ (0 < j → (R.getD (j - 1) rw0).f < r.f)) → ∀ q, q < j + 1 → rowOk R L q := fun h => yes (by unfold rowOk; rw [← hp]; exact h)
          clear yes hp
          obtain ⟨f, t, z, v⟩ := r
          dsimp only at c1 c2 c3 c4 c5 o no hyes
          have hm3 : SpanMap (wr.alloc (.cells #[.int .i64 f, .int .i64 t, .bool z, .int .i64 (hiW v), .int .u64 (loW v)] 39)) w.heap.size k L := (hm.kept hbx).kept ((Below.refl _ _).alloc (Nat.le_refl _) _)
          have hlook := fun n => (hm3.drN n).look f t o.1 o.2.1
          clear hm3 o
          have NO := Lib.hid no; clear no
          have YES := Lib.hid hyes; clear hyes
          cases z with
          | true =>
            clear hc hr hlook
            go_wp2
            go_quiet (fail)
            go_wp2
            go_ret
            exact ⟨NO.out (by simp), bel_drewN (hbw.alloc (by omega) _) _⟩
          | false =>
            by_cases hin : (f, t) ∈ L
            · simp only [hin, decide_true] at hlook
              have IN := Lib.hid hin; clear hin
              by_cases hj0 : 0 < j
              · obtain ⟨j1, hj1⟩ : ∃ j1, j = j1 + 1 := ⟨j - 1, by omega⟩
                obtain ⟨q1, _, _, _, _⟩ := RowsAt.at_ hc (i := j1) (by omega)
                have c6 := (hbw.cell (p := ⟨b, off + j1 * 5, none⟩) hb).trans q1
                have ek : IntKind.i64.wrap ((j : Int) - 1) = (j1 : Int) := by rw [hj1]; rw [IntWalk.i64_in _ (by omega)]; omega
                have p0 : (0 : Int) < (j : Int) := by omega
                have p1 : (0 : Int) ≤ (j1 : Int) := by omega
                have p2 : (j1 : Int) < (R.length : Int) := by omega
                have ej : j - 1 = j1 := by omega
                have n0 := NO.out; have y0 := YES.out
                rw [ej] at n0 y0
                clear NO YES
                have NO := Lib.hid n0; clear n0
                have YES := Lib.hid y0; clear y0
                have HK := Lib.hid hj1; clear hj1 ej
                obtain ⟨g, hg⟩ : ∃ g, g = (R.getD j1 rw0).f := ⟨_, rfl⟩
                rw [← hg] at c6 NO YES
                clear hc hr q1 hg
                by_cases hle : f ≤ g
                · have d1 : decide (f ≤ g) = true := by simpa using hle
                  go_wp2
                  go_quiet (fail)
                  go_wp2
                  go_ret
                  exact ⟨NO.out (fun h => by have := h.2.2 hj0; omega), bel_drewN (hbw.alloc (by omega) _) _⟩
                · have d1 : decide (f ≤ g) = false := by simpa using hle
                  go_wp2
                  go_quiet (fail)
                  go_wp2
                  refine ⟨⟨j + 1, by omega, by go_num, YES.out ⟨trivial, IN.out, fun _ => by omega⟩, bel_drewN (hbx.alloc hszx _) _⟩, by simp [intOf]; omega⟩
              · clear hc hr
                have d0 : ¬ (0 : Int) < (j : Int) := by omega
                go_wp2
                go_quiet (fail)
                go_wp2
                refine ⟨⟨j + 1, by omega, by go_num, YES.out ⟨trivial, IN.out, fun h => absurd h hj0⟩, bel_drewN (hbx.alloc hszx _) _⟩, by simp [intOf]; omega⟩
            · simp only [hin, decide_false] at hlook
              clear hc hr
              go_wp2
              go_quiet (fail)
              go_wp2
              go_ret
              exact ⟨NO.out (fun h => hin h.2.1), bel_drewN (hbw.alloc (by omega) _) _⟩
        · have e : ok = true := HO.out.2 (fun i hi => HA.out i (by omega))
          have E := Lib.hid e; clear e
          go_wp2
          go_ret
          exact ⟨by rw [E.out]; rfl, hbw⟩
end Go.Proofs.Ytljepnonigjcbaa

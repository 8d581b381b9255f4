/- Contracts of scan.column over points; lists of batches in memory. -/
import Derived.Test.YtmdpdhdjbnhmeaaScanRefTake
import Derived.Test.YtmdpdhdjbnhmeaaPtsArg
namespace Go.Proofs.Ytmdpdhdjbnhmeaa
open Go.RowKit
set_option linter.unusedVariables false

/-- a function value that tells a number of a point -/
def Picks (f : Nat) (sel : Pt → Int) : Prop := Enters Try.prog f ∧ ∀ (p : Pt) (w : World), Calls Try.prog f #[.agg #[.int .i64 p.t, .int .i64 p.v, .int .i64 p.s]] w fun e w' => e = .returned (.int .i64 (sel p)) ∧ Below w.heap.size w w'
theorem picks_t : Picks 29 Pt.t := ⟨enters_of Try.func29 (by kernel_rfl) rfl, fun p w => by
  go_enter Try.func29, Try.ntmps29
  go_wp2
  go_ret
  exact ⟨rfl, (Below.refl _ _).alloc (Nat.le_refl _) _⟩⟩
theorem picks_v : Picks 30 Pt.v := ⟨enters_of Try.func30 (by kernel_rfl) rfl, fun p w => by
  go_enter Try.func30, Try.ntmps30
  go_wp2
  go_ret
  exact ⟨rfl, (Below.refl _ _).alloc (Nat.le_refl _) _⟩⟩
theorem picks_s : Picks 31 Pt.s := ⟨enters_of Try.func31 (by kernel_rfl) rfl, fun p w => by
  go_enter Try.func31, Try.ntmps31
  go_wp2
  go_ret
  exact ⟨rfl, (Below.refl _ _).alloc (Nat.le_refl _) _⟩⟩
/-- the first points of a function -/
def ptsTo (a : Nat → Pt) (n : Nat) : List Pt := (List.range n).map a
theorem ptsTo_len (a : Nat → Pt) (n : Nat) : (ptsTo a n).length = n := by simp [ptsTo]
theorem ptsTo_succ (a : Nat → Pt) (n : Nat) : ptsTo a (n + 1) = ptsTo a n ++ [a n] := by simp [ptsTo, List.range_succ]
def ColPRel (w : World) (n : Nat) (a : Nat → Pt) (sel : Pt → Int) (v i : Value) (wr : World) : Prop :=
  ∃ (k : Nat) (A : Option Addr) (c : Nat), k ≤ n ∧ i = .int .i64 k ∧ v = .slice A k c ∧ wr.ownsRow w.heap.size 3 1 (.slice A k c) k (cells1 ((ptsTo a k).map sel)) ∧ Below w.heap.size w wr
set_option maxHeartbeats 1000000 in
theorem column_p (A : Option Addr) (n c : Nat) (a : Nat → Pt) (f : Nat) (sel : Pt → Int) (w : World) (h : Pts w A n a) (hn : n ≤ 1000000) (hf : Picks f sel) :
    Calls Try.prog 28 #[.slice A n c, .func (.func f) #[] #[]] w (ListPost w ((ptsTo a n).map sel)) := by
  have HF := Lib.hid hf.2
  have HN := Lib.hid hf.1; clear hf
  obtain ⟨i0, hi, hz0, hz1, hz2⟩ := intElem.info
  go_enter Try.func28, Try.ntmps28
  go_wp2_with (at_make; refine wpList_make_own _ rfl _ _ 22 rfl w.heap.size 3 i0 (.int .i64 0) 1 Try.underlying22 hi hz0 hz1 .i64 .i64 _ n rfl rfl (by first | rfl | omega) (by rw [hz2]; omega) (by unfold maxLen; omega) (Nat.le_refl _) ?_; intro w0 hown0 hg0)
  have hB0 : Below w.heap.size w w0 := (Below.refl _ _).grown hg0 (Nat.le_refl _) (fun k hk => by cases hk)
  go_loopw [5, 13] (ColPRel w n a sel) (fun _ i _ => n - (intOf i).toNat)
  case atStart => exact ⟨0, _, _, by omega, rfl, rfl, hown0, hB0⟩
  case round =>
    clear hown0 hB0 hg0
    obtain ⟨k, A', c', hk, rfl, rfl, hown, hbel⟩ := hrel
    by_cases hlt : k < n
    · obtain ⟨b, off, rfl, hb, hc⟩ := h (by omega)
      obtain ⟨c1, c2, c3⟩ := Pts.at_ hc hlt
      obtain ⟨p, hp⟩ : ∃ p, p = a k := ⟨_, rfl⟩
      rw [← hp] at c1 c2 c3
      have HP := Lib.hid hp; clear hp
      replace c1 := (hbel.cell (p := ⟨b, off + k * 3, none⟩) hb).trans c1
      replace c2 := (hbel.cell (p := ⟨b, off + k * 3 + 1, none⟩) hb).trans c2
      replace c3 := (hbel.cell (p := ⟨b, off + k * 3 + 2, none⟩) hb).trans c3
      have hsz := hbel.size
      have HC := Lib.hid (HF.out p (wr.alloc (.cells #[.int .i64 p.t, .int .i64 p.v, .int .i64 p.s] 47)))
      clear hc h
      go_wp2_with fail
      rw [HN.out, Oper.upon_enter]
      with_reducible refine HC.out.mono ?_
      rintro e w2 ⟨rfl, hb2'⟩
      have hb2 : Below wr.heap.size wr w2 := bel_step ((Below.refl _ wr).alloc (Nat.le_refl _) _) (Nat.le_refl _) hb2'
      have hown2 := own_below hown hb2
      have hbel2 := hbel.trans (hb2.mono hbel.size)
      have hsz2 := hbel2.size
      clear hb2'
      go_wp2_with (at_builtin; refine wpList_append_new intElem hown2 hbel2 (Nat.le_refl _) (by omega) rfl _ _ rfl [.int .i64 (sel p)] rfl rfl rfl (by simp [Value.oneCell']) (by unfold maxLen; omega) (by omega) ?_; intro A1 c1' w3 ho3 hb3 _)
      refine ⟨⟨k + 1, A1, c1', by omega, by go_num, rfl, ?_, hb3⟩, by simp [intOf]; omega⟩
      rw [ptsTo_succ, List.map_append, cells1_append, ← HP.out]; exact ho3
    · obtain rfl : k = n := by omega
      go_wp2
      go_ret
      refine ⟨A', c', ?_, ?_, hbel⟩
      · rw [List.length_map, ptsTo_len]; rfl
      · rw [List.length_map, ptsTo_len]; exact hown

/-- three values a batch -/
def triCells (ts : List (Value × Value × Value)) : List Value := ts.flatMap fun t => [t.1, t.2.1, t.2.2]
theorem triCells_append (L M : List (Value × Value × Value)) : triCells (L ++ M) = triCells L ++ triCells M := by simp [triCells]
theorem triCells_at (L : List (Value × Value × Value)) (i : Nat) (t : Value × Value × Value) (h : L[i]? = some t) : (triCells L)[i * 3]? = some t.1 ∧ (triCells L)[i * 3 + 1]? = some t.2.1 ∧ (triCells L)[i * 3 + 2]? = some t.2.2 := by
  induction L generalizing i with
  | nil => simp at h
  | cons q L ih =>
    cases i with
    | zero => simp at h; subst h; simp [triCells]
    | succ i =>
      simp only [List.getElem?_cons_succ] at h
      have := ih i h
      have e : (i + 1) * 3 = i * 3 + 3 := by omega
      rw [e]
      simpa [triCells] using this
/-- a batch of points, in rows of the call's own -/
def IsBat (base : Nat) (w : World) (t : Value × Value × Value) (L : List Pt) : Prop :=
  w.ownsRow base 3 1 t.1 L.length (cells1 (L.map Pt.t)) ∧ w.ownsRow base 3 1 t.2.1 L.length (cells1 (L.map Pt.v)) ∧ w.ownsRow base 3 1 t.2.2 L.length (cells1 (L.map Pt.s))
/-- a row of batches -/
def IsBats (base : Nat) (e : TypeId) (w : World) (v : Value) (Ls : List (List Pt)) : Prop :=
  ∃ ts, ts.length = Ls.length ∧ w.ownsRow base e 3 v Ls.length (triCells ts) ∧ ∀ (i : Nat) t L, ts[i]? = some t → Ls[i]? = some L → IsBat base w t L
theorem IsBat.below {base : Nat} {w w' : World} {t : Value × Value × Value} {L : List Pt} (h : IsBat base w t L) (hb : Below w.heap.size w w') : IsBat base w' t L := ⟨own_below h.1 hb, own_below h.2.1 hb, own_below h.2.2 hb⟩
theorem IsBats.below {base : Nat} {e : TypeId} {w w' : World} {v : Value} {Ls : List (List Pt)} (h : IsBats base e w v Ls) (hb : Below w.heap.size w w') : IsBats base e w' v Ls := by
  obtain ⟨ts, hl, ho, hi⟩ := h
  exact ⟨ts, hl, own_below ho hb, fun i t L h1 h2 => (hi i t L h1 h2).below hb⟩
theorem IsBats.nil (base : Nat) (e : TypeId) (w : World) : IsBats base e w (.slice none 0 0) [] := ⟨[], rfl, World.ownsRow_nil _ _ _ _, fun i t L h => by simp at h⟩
/-- rows of two types are not one -/
theorem own_types {w : World} {b1 b2 : Nat} {e1 e2 : TypeId} {s1 s2 : Nat} {v1 v2 : Value} {n1 n2 : Nat} {x1 x2 : List Value} (h1 : w.ownsRow b1 e1 s1 v1 n1 x1) (h2 : w.ownsRow b2 e2 s2 v2 n2 x2) (hne : e1 ≠ e2) : v1.ownBlock = none ∨ v1.ownBlock ≠ v2.ownBlock := by
  rcases h1.2 with ⟨rfl, _⟩ | ⟨g, cap, cur, rfl, _, hg, _⟩
  · exact .inl rfl
  · refine .inr (fun e => ?_)
    rcases h2.2 with ⟨rfl, _⟩ | ⟨g', cap', cur', rfl, _, hg', _⟩
    · simp [Value.ownBlock] at e
    · have eg : g = g' := by simpa [Value.ownBlock] using e
      subst eg
      rw [hg] at hg'
      injection hg' with hg'
      injection hg' with _ ht
      exact hne ht
theorem IsBat.kept {base : Nat} {w w' : World} {t : Value × Value × Value} {L : List Pt} {b e s : Nat} {v : Value} {n : Nat} {x : List Value} (h : IsBat base w t L) (hv : w.ownsRow b e s v n x) (hne : 3 ≠ e) (hg : w.grownBy w' v.ownBlock) : IsBat base w' t L :=
  ⟨h.1.kept hg (own_types h.1 hv hne), h.2.1.kept hg (own_types h.2.1 hv hne), h.2.2.kept hg (own_types h.2.2 hv hne)⟩
/-- one batch more -/
theorem IsBats.push {base e : Nat} {w w1 : World} {v v' : Value} {Ls : List (List Pt)} {L : List Pt} {t : Value × Value × Value} (h : IsBats base e w v Ls) (hne : 3 ≠ e) (ht : IsBat base w t L) (hg : w.grownBy w1 v.ownBlock)
    (ho : ∀ xs, w.ownsRow base e 3 v Ls.length xs → w1.ownsRow base e 3 v' (Ls.length + 1) (xs ++ [t.1, t.2.1, t.2.2])) : IsBats base e w1 v' (Ls ++ [L]) := by
  obtain ⟨ts, hl, hown, hi⟩ := h
  refine ⟨ts ++ [t], by simp [hl], ?_, fun i u M h1 h2 => ?_⟩
  · rw [triCells_append, List.length_append]; exact ho _ hown
  · rcases Nat.lt_or_ge i ts.length with h | h
    · rw [List.getElem?_append_left h] at h1
      rw [List.getElem?_append_left (by omega)] at h2
      exact (hi i u M h1 h2).kept hown hne hg
    · have hi' : i = ts.length := by
        rcases Nat.lt_or_ge ts.length i with h3 | h3
        · rw [List.getElem?_eq_none (by simp; omega)] at h1; cases h1
        · omega
      subst hi'
      rw [List.getElem?_append_right (Nat.le_refl _), Nat.sub_self] at h1
      rw [hl, List.getElem?_append_right (Nat.le_refl _), Nat.sub_self] at h2
      simp at h1 h2
      subst h1 h2
      exact ht.kept hown hne hg
end Go.Proofs.Ytmdpdhdjbnhmeaa

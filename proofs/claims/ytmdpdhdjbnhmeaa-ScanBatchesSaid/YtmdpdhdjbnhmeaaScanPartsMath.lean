/- The walk of ScanParts: it returns true for any points, size and value. -/
import Derived.Test.YtmdpdhdjbnhmeaaScanBatches
import Derived.Test.YtmdpdhdjbnhmeaaScanPoints
import Derived.Test.YtmdpdhdjbnhmeaaScanSelect
import Derived.Test.YtmdpdhdjbnhmeaaWordMath
namespace Go.Proofs.Ytmdpdhdjbnhmeaa
open Go.RowKit
set_option linter.unusedVariables false

theorem ptsTo_add (a : Nat → Pt) (p q : Nat) : ptsTo a (p + q) = ptsTo a p ++ ptsTo (fun j => a (p + j)) q := by
  induction q with
  | zero => simp [ptsTo]
  | succ q ih => rw [← Nat.add_assoc, ptsTo_succ, ptsTo_succ, ih, List.append_assoc]
theorem zip3_map (L : List Pt) : zip3 (fun j => (L.map Pt.t).getD j 0) (fun j => (L.map Pt.v).getD j 0) (fun j => (L.map Pt.s).getD j 0) L.length = L := by
  apply List.ext_getElem
  · simp [zip3]
  · intro i h1 h2
    simp [zip3, h2]
theorem chunkNum_zero (size len : Nat) (hs : 1 ≤ size) : chunkNum size len = 0 ↔ len = 0 := by
  unfold chunkNum
  constructor
  · intro h
    rcases Nat.eq_zero_or_pos len with h0 | h0
    · exact h0
    · have := Nat.div_pos (show size ≤ len + size - 1 by omega) (by omega)
      omega
  · rintro rfl
    rw [Nat.zero_add, Nat.div_eq_of_lt (by omega)]
theorem chunkNum_lt (size len q : Nat) (hs : 1 ≤ size) (h : q < chunkNum size len) : q * size < len := by
  unfold chunkNum at h
  have h1 : (q + 1) * size ≤ len + size - 1 := (Nat.le_div_iff_mul_le (by omega)).1 h
  rw [Nat.add_mul, Nat.one_mul] at h1
  omega
theorem chunkNum_all (size len : Nat) (hs : 1 ≤ size) : len ≤ chunkNum size len * size := by
  unfold chunkNum
  have := Nat.lt_div_mul_add (a := len + size - 1) (b := size) (by omega)
  omega
theorem chunkNum_le (size len : Nat) (hs : 1 ≤ size) : chunkNum size len ≤ len := by
  unfold chunkNum
  rcases Nat.eq_zero_or_pos len with h | h
  · subst h; rw [Nat.zero_add, Nat.div_eq_of_lt (by omega)]; exact Nat.le_refl _
  · apply Nat.div_le_of_le_mul
    have : len + size - 1 ≤ size * len := by
      have := Nat.mul_le_mul hs h
      have h2 : (size - 1) * (len - 1) + (len + size - 1) = size * len := by
        obtain ⟨s, rfl⟩ : ∃ s, size = s + 1 := ⟨size - 1, by omega⟩
        obtain ⟨l, rfl⟩ : ∃ l, len = l + 1 := ⟨len - 1, by omega⟩
        rw [Nat.add_sub_cancel, Nat.add_sub_cancel, Nat.add_mul, Nat.mul_add]
        omega
      omega
    exact this
theorem chunksOf_at (a : Nat → Pt) (size len q : Nat) (h : q < chunkNum size len) : (chunksOf a size len)[q]? = some (chunkPts a size len q) := by simp [chunksOf, h]
theorem chunksOf_len (a : Nat → Pt) (size len : Nat) : (chunksOf a size len).length = chunkNum size len := by simp [chunksOf]
theorem chunkPts_len (a : Nat → Pt) (size len q : Nat) : (chunkPts a size len q).length = chunkLen size len q := by simp [chunkPts, ptsTo_len]
/-- how many points the first chunks have -/
def upN (size len q : Nat) : Nat := min (q * size) len
theorem upN_step (a : Nat → Pt) (size len q : Nat) (h : q * size < len) : ptsTo a (upN size len (q + 1)) = ptsTo a (upN size len q) ++ chunkPts a size len q ∧ upN size len (q + 1) = upN size len q + chunkLen size len q := by
  have e : upN size len q = q * size := by unfold upN; omega
  have e2 : upN size len (q + 1) = q * size + chunkLen size len q := by unfold upN chunkLen; rw [Nat.add_mul, Nat.one_mul]; omega
  rw [e, e2, ptsTo_add]
  exact ⟨rfl, rfl⟩
/-- 'append(own, points...)' -/
theorem wpList_append_pts {w0 w : World} {B base : Nat} {A : Option Addr} {c0 n : Nat} {xs : List Value}
    (hown : w.ownsRow base 47 3 (.slice A n c0) n xs) (hb : Below B w0 w) (hB : B ≤ base) (hbase : base ≤ w.heap.size)
    {ops : Array Oper} {rest : List Oper} {o : Oper} {a : Act} {Q : Exit → Act → World → Prop} (hgd : o.guard = none) (s x : Operand)
    (ho : o.op = .call { callee := .builtin .append, args := #[s, x], argTypes := #[33, 33] }) (S : Option Addr) (L : List Pt) (c base2 : Nat)
    (hs : a.eval s = .slice A n c0) (hx : a.eval x = .slice S L.length c) (hL : w.ownsRow base2 47 3 (.slice S L.length c) L.length (ptCells L)) (hl : 0 < L.length)
    (h63 : n + L.length ≤ 1000000)
    (h : ∀ A' c' w1, w1.ownsRow base 47 3 (.slice A' (n + L.length) c') (n + L.length) (xs ++ ptCells L) → Below B w0 w1 → w.grownBy w1 (Value.ownBlock (.slice A n c0)) → wpList Try.prog ops Q rest (a.put o.dst (.slice A' (n + L.length) c')) w1) :
    wpList Try.prog ops Q (o :: rest) a w := by
  obtain ⟨i, hi, hz, hsz, hby⟩ := ptElem.info
  obtain ⟨b, off, e, _, _⟩ := Pts.of_own hL (by omega)
  subst e
  rcases hL.2 with ⟨_, h0⟩ | ⟨g, cap, cur, hv, _⟩
  · omega
  · injection hv with hv
    injection hv with hv
    injection hv with hv1 hv2
    subst hv1 hv2
    refine wpList_append_own _ hgd s x _ ho base _ i _ 3 24 ptElem.slice hi hz hsz hby ptElem.zs ptElem.pos _ n xs hs hown ⟨b, 0, none⟩ L.length c (ptCells L) hx (by rw [ptCells_length]) ?_ ?_ (by unfold maxLen; omega) (by omega) hbase ?_
    · intro j u hu
      exact World.ownsRow.cells hL (g := b) rfl j u hu
    · intro u hu
      simp only [ptCells, List.mem_flatMap, List.mem_cons, List.not_mem_nil, or_false] at hu
      obtain ⟨p, _, hp⟩ := hu
      rcases hp with rfl | rfl | rfl <;> rfl
    · intro v' w1 ho' hg _
      obtain ⟨A', c', rfl⟩ := own_form ho'
      refine h A' c' w1 ho' (hb.grown hg (Nat.le_trans hB hbase) ?_) hg
      intro k hk
      have := hown.lt k hk
      omega
theorem bel_dro (w : World) : Below w.heap.size w w := Below.refl _ _
/-- a batch as slices that are read -/
structure BatIs (w : World) (A B C : Option Addr) (ca cb cc : Nat) (L : List Pt) : Prop where
  t : Ints w A L.length (fun j => (L.map Pt.t).getD j 0)
  v : Ints w B L.length (fun j => (L.map Pt.v).getD j 0)
  s : Ints w C L.length (fun j => (L.map Pt.s).getD j 0)
theorem ints_of_own {w : World} {base : Nat} {e : TypeId} {A : Option Addr} {c n : Nat} {M : List Int} (hl : M.length = n) (h : w.ownsRow base e 1 (.slice A n c) n (cells1 M)) : Ints w A n (fun j => M.getD j 0) := by
  subst hl; exact LInts.of_own h
theorem BatIs.of {base : Nat} {w : World} {A B C : Option Addr} {ca cb cc : Nat} {L : List Pt} (h : IsBat base w (.slice A L.length ca, .slice B L.length cb, .slice C L.length cc) L) : BatIs w A B C ca cb cc L :=
  ⟨ints_of_own (by simp) h.1, ints_of_own (by simp) h.2.1, ints_of_own (by simp) h.2.2⟩
theorem BatIs.below {w w' : World} {A B C : Option Addr} {ca cb cc : Nat} {L : List Pt} (h : BatIs w A B C ca cb cc L) (hb : Below w.heap.size w w') : BatIs w' A B C ca cb cc L := ⟨Cells.below h.t hb, Cells.below h.v hb, Cells.below h.s hb⟩
/-- a batch of a row, by its place -/
theorem IsBats.at_ {base e : Nat} {w : World} {G : Option Addr} {cg : Nat} {Ls : List (List Pt)} (h : IsBats base e w (.slice G Ls.length cg) Ls) {i : Nat} {L : List Pt} (hi : Ls[i]? = some L) :
    ∃ g A B C ca cb cc, G = some ⟨g, 0, none⟩ ∧ w.cell? ⟨g, i * 3, none⟩ = some (.slice A L.length ca) ∧ w.cell? ⟨g, i * 3 + 1, none⟩ = some (.slice B L.length cb) ∧ w.cell? ⟨g, i * 3 + 2, none⟩ = some (.slice C L.length cc) ∧ BatIs w A B C ca cb cc L := by
  obtain ⟨ts, hl, ho, hb⟩ := h
  have hlt : i < Ls.length := by
    rcases Nat.lt_or_ge i Ls.length with h | h
    · exact h
    · rw [List.getElem?_eq_none h] at hi; cases hi
  have ht : ts[i]? = some ts[i] := List.getElem?_eq_getElem (by omega)
  have hbi := hb i _ L ht hi
  obtain ⟨A, ca, e1⟩ := own_form hbi.1
  obtain ⟨B, cb, e2⟩ := own_form hbi.2.1
  obtain ⟨C, cc, e3⟩ := own_form hbi.2.2
  obtain ⟨g, cap, e4, _, _⟩ := ho.form (by omega)
  injection e4 with e4
  obtain ⟨c1, c2, c3⟩ := triCells_at ts i _ ht
  have f1 := World.ownsRow.cells ho (g := g) (by rw [e4]; rfl) (i * 3) _ c1
  have f2 := World.ownsRow.cells ho (g := g) (by rw [e4]; rfl) (i * 3 + 1) _ c2
  have f3 := World.ownsRow.cells ho (g := g) (by rw [e4]; rfl) (i * 3 + 2) _ c3
  rw [Addr.add_lit] at f1 f2 f3
  simp only [Nat.zero_add] at f1 f2 f3
  rw [e1] at f1
  rw [e2] at f2
  rw [e3] at f3
  refine ⟨g, A, B, C, ca, cb, cc, e4, f1, f2, f3, ?_⟩
  have hx : IsBat base w (.slice A L.length ca, .slice B L.length cb, .slice C L.length cc) L := by
    unfold IsBat at hbi ⊢
    rw [e1, e2, e3] at hbi
    exact hbi
  exact BatIs.of hx
end Go.Proofs.Ytmdpdhdjbnhmeaa

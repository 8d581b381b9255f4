/- Words for memory: slices that are read, rows that a call made. No program in sight. -/
import Derived.WalkKit
import Derived.Below
import Derived.Laws.AppendOwn
import Derived.Laws.OwnMore
import Derived.OpenShut
import Derived.OwnWalk
import Derived.Deep.Draws
import Derived.Lib.Hide
namespace Go.Proofs.YtohgpllonbplfaaDoor
open Go Go.RowKit
set_option linter.unusedVariables false

theorem ret_int {k : IntKind} {a b : Int} (h : a = b) : Ending.returned (.int k a) = .returned (.int k b) := by rw [h]
theorem ret_bool {a b : Bool} (h : a = b) : Ending.returned (.bool a) = .returned (.bool b) := by rw [h]
theorem ret_int_bool {k : IntKind} {a b : Int} {c : Bool} (h : a = b) : Ending.returned (.tuple #[.int k a, .bool c]) = .returned (.tuple #[.int k b, .bool c]) := by rw [h]

/-- m cells from A on hold what f says. -/
def Cells (w : World) (A : Option Addr) (m : Nat) (f : Nat → Value) : Prop :=
  0 < m → ∃ b off, A = some ⟨b, off, none⟩ ∧ b < w.heap.size ∧ ∀ j, j < m → w.cell? ⟨b, off + j, none⟩ = some (f j)
theorem Cells.below {w w' : World} {A : Option Addr} {m : Nat} {f : Nat → Value} (h : Cells w A m f) (hb : Below w.heap.size w w') : Cells w' A m f := by
  intro hm
  obtain ⟨b, off, e, hlt, hc⟩ := h hm
  exact ⟨b, off, e, Nat.lt_of_lt_of_le hlt hb.size, fun j hj => (hb.cell (p := ⟨b, off + j, none⟩) hlt).trans (hc j hj)⟩
theorem Cells.take {w : World} {A : Option Addr} {m : Nat} {f : Nat → Value} (h : Cells w A m f) {k : Nat} (hk : k ≤ m) : Cells w A k f := by
  intro hm
  obtain ⟨b, off, e, hlt, hc⟩ := h (by omega)
  exact ⟨b, off, e, hlt, fun j hj => hc j (by omega)⟩
theorem Cells.zero (w : World) (A : Option Addr) (f : Nat → Value) : Cells w A 0 f := fun h => absurd h (by omega)
theorem Cells.congr {w : World} {A : Option Addr} {m : Nat} {f g : Nat → Value} (h : Cells w A m f) (e : ∀ j, j < m → f j = g j) : Cells w A m g := by
  intro hm
  obtain ⟨b, off, ha, hlt, hc⟩ := h hm
  exact ⟨b, off, ha, hlt, fun j hj => by rw [hc j hj, e j hj]⟩
/-- the ints of a slice -/
def Ints (w : World) (A : Option Addr) (n : Nat) (x : Nat → Int) : Prop := Cells w A n (fun j => .int .i64 (x j))

/-- an argument that is a slice of ints -/
structure IntArg (w : World) (A : Option Addr) (n c : Nat) (x : Nat → Int) : Prop where
  ints : Ints w A n x
  le : n ≤ c
  max : c ≤ 9223372036854775807
  bd : ∀ j, j < n → -9223372036854775808 ≤ x j ∧ x j ≤ 9223372036854775807
theorem IntArg.of_nil (w : World) : IntArg w none 0 0 (fun _ => 0) := ⟨Cells.zero _ _ _, Nat.le_refl _, by decide, fun j hj => by omega⟩
theorem IntArg.of_open {w : World} {a : Addr} {len cap : Nat} {zs : List Int} (hl : len ≤ cap) (hm : cap ≤ maxLen) (hz : zs.length = cap) (hcell : ∀ i, i < zs.length → w.cell? (a.add i) = some (.int .i64 (zs.getD i 0))) (hw : ∀ n ∈ zs, (Lit.int .i64 n).wf = true) :
    IntArg w (some a) len cap (fun j => zs.getD j 0) := by
  refine ⟨fun h0 => ?_, hl, by unfold maxLen at hm; omega, fun j hj => ?_⟩
  · obtain ⟨b, off, rfl, hc⟩ := ints_at hcell (by omega)
    exact ⟨b, off, rfl, World.block_lt_of_cell? w _ (hc 0 (by omega)), fun j hj => hc j (by omega)⟩
  · have hj' : j < zs.length := by omega
    have := bounds_i64 (hw zs[j] (List.getElem_mem hj'))
    rw [List.getD_eq_getElem?_getD, List.getElem?_eq_getElem hj', Option.getD_some]
    exact this

/-- a row that a call made, read: its cells. -/
theorem own_form {w : World} {base : Nat} {e : TypeId} {size : Nat} {v : Value} {n : Nat} {xs : List Value} (h : w.ownsRow base e size v n xs) : ∃ A c, v = .slice A n c := by
  rcases h.2 with ⟨rfl, rfl⟩ | ⟨g, cap, cur, rfl, _⟩
  · exact ⟨none, 0, rfl⟩
  · exact ⟨_, _, rfl⟩
theorem own_cells {w : World} {base : Nat} {e : TypeId} {size : Nat} {A : Option Addr} {c n : Nat} {xs : List Value} (h : w.ownsRow base e size (.slice A n c) n xs) (f : Nat → Value) (hf : ∀ j, j < n * size → xs[j]? = some (f j)) :
    Cells w A (n * size) f := by
  intro hm
  have hn : 0 < n := by
    rcases Nat.eq_zero_or_pos n with h0 | h0
    · subst h0; simp at hm
    · exact h0
  rcases h.2 with ⟨hv, h0⟩ | ⟨g, cap, cur, hv, hb, hg, hnc, hcm, hcs, htake⟩
  · omega
  · injection hv with hA
    subst hA
    refine ⟨g, 0, rfl, (Array.getElem?_eq_some_iff.1 hg).1, fun j hj => ?_⟩
    have h2 := World.ownsRow.cells h (g := g) rfl j (f j) (hf j hj)
    rw [Addr.add_lit] at h2
    exact h2

theorem bel_drewN {B : Nat} {a w : World} (h : Below B a w) (n : Nat) : Below B a (w.drewN n) := ⟨h.os, h.tape, h.output, h.size, h.block⟩
theorem own_drewN {w : World} {base : Nat} {e : TypeId} {size : Nat} {v : Value} {n : Nat} {xs : List Value} (h : w.ownsRow base e size v n xs) (k : Nat) : (w.drewN k).ownsRow base e size v n xs := h
theorem own_below {w w' : World} {base : Nat} {e : TypeId} {size : Nat} {v : Value} {n : Nat} {xs : List Value} (h : w.ownsRow base e size v n xs) (hb : Below w.heap.size w w') : w'.ownsRow base e size v n xs :=
  h.kept (row := none) ⟨hb.os, hb.tape, hb.output, hb.size, fun k hk _ => hb.block k hk⟩ (by cases v.ownBlock <;> simp)
theorem bel_step {B : Nat} {a w w' : World} (h : Below B a w) (hB : B ≤ a.heap.size) (h' : Below w.heap.size w w') : Below B a w' := h.trans (h'.mono (Nat.le_trans hB h.size))
/-- what the table says of an element type -/
structure Elem (P : Program) (t e : TypeId) (z : Value) (size bytes : Nat) : Prop where
  slice : P.underlying t = some (.slice e)
  info : ∃ i, P.info? e = some i ∧ i.zero = some z ∧ i.size = size ∧ i.bytes = bytes
  zs : z.cells.size = size
  pos : 0 < size
theorem Elem.mk' {P : Program} {t e : TypeId} {z : Value} {size bytes : Nat} (h0 : P.underlying t = some (.slice e)) (h : (P.info? e).map (fun i => (i.zero, i.size, i.bytes)) = some (some z, size, bytes)) (h1 : z.cells.size = size) (h2 : 0 < size) : Elem P t e z size bytes :=
  ⟨h0, info_parts h, h1, h2⟩

/-- one element more on a row of the call's own: the element lies in a new block. -/
theorem wpList_append_new {P : Program} {t e : TypeId} {z : Value} {size bytes : Nat} (E : Elem P t e z size bytes) {w0 w : World} {B base : Nat} {A : Option Addr} {c0 n : Nat} {xs : List Value}
    (hown : w.ownsRow base e size (.slice A n c0) n xs) (hb : Below B w0 w) (hB : B ≤ base) (hbase : base ≤ w.heap.size)
    {ops : Array Oper} {rest : List Oper} {o : Oper} {a : Act} {Q : Exit → Act → World → Prop} (hgd : o.guard = none) (s x : Operand)
    (ho : o.op = .call { callee := .builtin .append, args := #[s, x], argTypes := #[t, t] })
    (cs : List Value) (hs : a.eval s = .slice A n c0) (hx : a.eval x = .slice (some ⟨w.heap.size, 0, none⟩) 1 1)
    (hl : cs.length = size) (h1 : ∀ u ∈ cs, u.oneCell' = true) (h63 : n + 1 ≤ maxLen) (hbytes : (n + 1) * bytes ≤ 140737488355328)
    (h : ∀ A' c' w1, w1.ownsRow base e size (.slice A' (n + 1) c') (n + 1) (xs ++ cs) → Below B w0 w1 → w.grownBy w1 (Value.ownBlock (.slice A n c0)) → wpList P ops Q rest (a.put o.dst (.slice A' (n + 1) c')) w1) :
    wpList P ops Q (o :: rest) a (w.alloc (.cells cs.toArray e)) := by
  obtain ⟨i, hi, hz, hsz, hby⟩ := E.info
  refine wpList_append_own _ hgd s x t ho base e i z size bytes E.slice hi hz hsz hby E.zs E.pos _ n xs hs (hown.alloc _) ⟨w.heap.size, 0, none⟩ 1 1 cs hx (by omega) ?_ h1 h63 hbytes (by simp; omega) ?_
  · intro j u hu
    rw [Addr.add_lit]
    have hg : (w.alloc (.cells cs.toArray e)).heap[w.heap.size]? = some (.cells cs.toArray e (0, 0)) := heap_alloc_new w _
    have := cell_of_row _ w.heap.size j cs.toArray e (0, 0) hg
    simp only [Nat.zero_add]
    rw [this]
    simpa using hu
  · intro v' w1 ho' hg _
    obtain ⟨A', c', rfl⟩ := own_form ho'
    have hal : w.grownBy (w.alloc (.cells cs.toArray e)) (Value.ownBlock (.slice A n c0)) := World.grownBy_alloc w _ _
    have hgr : w.grownBy w1 (Value.ownBlock (.slice A n c0)) :=
      ⟨hg.os.trans hal.os, hg.tape.trans hal.tape, hg.output.trans hal.output, Nat.le_trans hal.size hg.size, fun k hk hne => (hg.block k (Nat.lt_of_lt_of_le hk hal.size) hne).trans (hal.block k hk hne)⟩
    refine h A' c' w1 ho' (hb.grown hgr (Nat.le_trans hB hbase) ?_) hgr
    intro k hk
    have := hown.lt k hk
    omega

/-- the same in a region that draws its order: whatever the world is, the element lies in block g. -/
theorem step_append_at {P : Program} {t e : TypeId} {z : Value} {size bytes : Nat} (E : Elem P t e z size bytes) {w0 w : World} {B base : Nat} {A : Option Addr} {c0 n : Nat} {xs : List Value}
    (hown : w.ownsRow base e size (.slice A n c0) n xs) (hb : Below B w0 w) (hB : B ≤ base) (hbase : base ≤ w.heap.size)
    {ops : Array Oper} {o : Oper} {a : Act} {K : Act → World → Prop} {Q : Exit → Act → World → Prop} {E' : Prop} (hgd : o.guard = none) (s x : Operand)
    (ho : o.op = .call { callee := .builtin .append, args := #[s, x], argTypes := #[t, t] })
    (g : Nat) (cs : List Value) (hg : w.heap[g]? = some (.cells cs.toArray e (0, 0))) (hs : a.eval s = .slice A n c0) (hx : a.eval x = .slice (some ⟨g, 0, none⟩) 1 1)
    (hl : cs.length = size) (h1 : ∀ u ∈ cs, u.oneCell' = true) (h63 : n + 1 ≤ maxLen) (hbytes : (n + 1) * bytes ≤ 140737488355328)
    (h : ∀ A' c' w1, w1.ownsRow base e size (.slice A' (n + 1) c') (n + 1) (xs ++ cs) → Below B w0 w1 → w.grownBy w1 (Value.ownBlock (.slice A n c0)) → K (a.put o.dst (.slice A' (n + 1) c')) w1) :
    if Region.wanted o (yielded ops a.tmps) = true then Oper.wp P o a w K Q else E' := by
  have hw : Region.wanted o (yielded ops a.tmps) = true := by simp [Region.wanted, hgd]
  rw [if_pos hw]
  obtain ⟨i, hi, hz, hsz, hby⟩ := E.info
  refine wp_append_own _ s x t ho base e i z size bytes E.slice hi hz hsz hby E.zs E.pos _ n xs hs hown ⟨g, 0, none⟩ 1 1 cs hx (by omega) ?_ h1 h63 hbytes hbase ?_
  · intro j u hu
    rw [Addr.add_lit]
    have := cell_of_row _ g j cs.toArray e (0, 0) hg
    simp only [Nat.zero_add]
    rw [this]
    simpa using hu
  · intro v' w1 ho' hgr _
    obtain ⟨A', c', rfl⟩ := own_form ho'
    refine h A' c' w1 ho' (hb.grown hgr (Nat.le_trans hB hbase) ?_) hgr
    intro k hk
    have := hown.lt k hk
    omega
theorem own_drew {w : World} {base : Nat} {e : TypeId} {size : Nat} {v : Value} {n : Nat} {xs : List Value} (h : w.ownsRow base e size v n xs) : w.drew.ownsRow base e size v n xs := h

/-- pairs of ints as cells -/
def cells2 (L : List (Int × Int)) : List Value := L.flatMap fun p => [.int .i64 p.1, .int .i64 p.2]
theorem cells2_append (L M : List (Int × Int)) : cells2 (L ++ M) = cells2 L ++ cells2 M := by simp [cells2]
theorem cells2_length (L : List (Int × Int)) : (cells2 L).length = L.length * 2 := by
  induction L with
  | nil => rfl
  | cons p L ih => simp only [cells2, List.flatMap_cons, List.length_append, List.length_cons, List.length_nil] at *; omega
theorem cells2_set_last (M : List (Int × Int)) (p : Int × Int) (u : Int) : (cells2 (M ++ [p])).set (M.length * 2 + 1) (.int .i64 u) = cells2 (M ++ [(p.1, u)]) := by
  rw [cells2_append, cells2_append, ← cells2_length M, List.set_append_right _ _ (by omega)]
  congr 1
  rw [show (cells2 M).length + 1 - (cells2 M).length = 1 by omega]
  rfl
theorem cells2_even (L : List (Int × Int)) (i : Nat) (p : Int × Int) (h : L[i]? = some p) : (cells2 L)[i * 2]? = some (.int .i64 p.1) ∧ (cells2 L)[i * 2 + 1]? = some (.int .i64 p.2) := by
  induction L generalizing i with
  | nil => simp at h
  | cons q L ih =>
    cases i with
    | zero => simp at h; subst h; simp [cells2]
    | succ i =>
      simp only [List.getElem?_cons_succ] at h
      have := ih i h
      have e : (i + 1) * 2 = i * 2 + 2 := by omega
      rw [e]
      simpa [cells2] using this
end Go.Proofs.YtohgpllonbplfaaDoor

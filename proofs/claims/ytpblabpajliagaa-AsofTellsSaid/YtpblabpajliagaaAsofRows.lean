/- The contract of asof.Rows: pairs as rows. -/
import Derived.Test.YtpblabpajliagaaAsofGrowsMath
import Derived.Test.YtpblabpajliagaaWideSub
namespace Go.Proofs.Ytpblabpajliagaa
open Go.RowKit
set_option linter.unusedVariables false

/-- Mem's law, where the new element's block is spelled otherwise -/
theorem wpList_append_g {P : Program} {t e : TypeId} {z : Value} {size bytes : Nat} (E : Elem P t e z size bytes) {w0 w : World} {B base : Nat} {A : Option Addr} {c0 n : Nat} {xs : List Value}
    (hown : w.ownsRow base e size (.slice A n c0) n xs) (hb : Below B w0 w) (hB : B ≤ base) (hbase : base ≤ w.heap.size) (g : Nat) (hgz : w.heap.size = g)
    {ops : Array Oper} {rest : List Oper} {o : Oper} {a : Act} {Q : Exit → Act → World → Prop} (hgd : o.guard = none) (s x : Operand)
    (ho : o.op = .call { callee := .builtin .append, args := #[s, x], argTypes := #[t, t] })
    (cs : List Value) (hs : a.eval s = .slice A n c0) (hx : a.eval x = .slice (some ⟨g, 0, none⟩) 1 1)
    (hl : cs.length = size) (h1 : ∀ u ∈ cs, u.oneCell' = true) (h63 : n + 1 ≤ maxLen) (hbytes : (n + 1) * bytes ≤ 140737488355328)
    (h : ∀ A' c' w1, w1.ownsRow base e size (.slice A' (n + 1) c') (n + 1) (xs ++ cs) → Below B w0 w1 → w.grownBy w1 (Value.ownBlock (.slice A n c0)) → wpList P ops Q rest (a.put o.dst (.slice A' (n + 1) c')) w1) :
    wpList P ops Q (o :: rest) a (w.alloc (.cells cs.toArray e)) := by
  subst hgz
  exact wpList_append_new E hown hb hB hbase hgd s x ho cs hs hx hl h1 h63 hbytes h
theorem frozen_dr {w : World} {a : Addr} (h : w.frozen? a = false) : w.drew.frozen? a = false := h
/-- a row -/
structure Rw where
  f : Int
  t : Int
  null : Bool
  v : Int
def rwCells (r : Rw) : List Value := [.int .i64 r.f, .int .i64 r.t, .bool r.null, .int .i64 (hiW r.v), .int .u64 (loW r.v)]
def cells5 (L : List Rw) : List Value := L.flatMap rwCells
theorem cells5_append (L M : List Rw) : cells5 (L ++ M) = cells5 L ++ cells5 M := by simp [cells5]
theorem cells5_one (p : Rw) : cells5 [p] = rwCells p := by simp [cells5]
theorem cells5_at (L : List Rw) (i : Nat) (p : Rw) (h : L[i]? = some p) (j : Nat) (hj : j < 5) : (cells5 L)[i * 5 + j]? = (rwCells p)[j]? := by
  induction L generalizing i with
  | nil => simp at h
  | cons q L ih =>
    have e : cells5 (q :: L) = rwCells q ++ cells5 L := by simp [cells5]
    have hl : (rwCells q).length = 5 := rfl
    rw [e]
    cases i with
    | zero =>
      simp at h; subst h
      rw [Nat.zero_mul, Nat.zero_add, List.getElem?_append_left (by rw [hl]; exact hj)]
    | succ i =>
      simp only [List.getElem?_cons_succ] at h
      rw [List.getElem?_append_right (by rw [hl]; omega), hl, show (i + 1) * 5 + j - 5 = i * 5 + j by omega]
      exact ih i h
/-- a pair's row -/
def rowOf (p : Pr) : Rw := if p.has then ⟨p.l.t, p.r.t, false, p.r.v - p.l.v⟩ else ⟨p.l.t, p.l.t, true, 0⟩
def rowsL (L : Nat → Pr) (n : Nat) : List Rw := (List.range n).map fun i => rowOf (L i)
theorem rowsL_length (L : Nat → Pr) (n : Nat) : (rowsL L n).length = n := by simp [rowsL]
theorem rowsL_succ (L : Nat → Pr) (n : Nat) : rowsL L (n + 1) = rowsL L n ++ [rowOf (L n)] := by simp [rowsL, List.range_succ]
theorem rowsL_at (L : Nat → Pr) (n i : Nat) (h : i < n) : (rowsL L n)[i]? = some (rowOf (L i)) := by simp [rowsL, List.getElem?_range h]
/-- the rows of a slice -/
def rwCell (L : Nat → Rw) (j : Nat) : Value := ((rwCells (L (j / 5)))[j % 5]?).getD undef
def Rws (w : World) (A : Option Addr) (n : Nat) (L : Nat → Rw) : Prop := Cells w A (n * 5) (rwCell L)
theorem Rws.of_own {w : World} {base : Nat} {e : TypeId} {A : Option Addr} {n c : Nat} {M : List Rw} {L : Nat → Rw} (hL : ∀ i, i < n → M[i]? = some (L i)) (h : w.ownsRow base e 5 (.slice A n c) n (cells5 M)) : Rws w A n L :=
  own_cells h _ (fun j hj => by
    have h1 := cells5_at M (j / 5) (L (j / 5)) (hL _ (by omega)) (j % 5) (by omega)
    rw [show j / 5 * 5 + j % 5 = j by omega] at h1
    rw [h1]
    unfold rwCell
    have hl : j % 5 < (rwCells (L (j / 5))).length := by show j % 5 < 5; omega
    rw [List.getElem?_eq_getElem hl]
    rfl)
theorem Rws.below {w w' : World} {A : Option Addr} {n : Nat} {L : Nat → Rw} (h : Rws w A n L) (hb : Below w.heap.size w w') : Rws w' A n L := Cells.below h hb
theorem Rws.at_ {w : World} {b off n : Nat} {L : Nat → Rw} (hc : ∀ j, j < n * 5 → w.cell? ⟨b, off + j, none⟩ = some (rwCell L j)) {i : Nat} (hi : i < n) :
    w.cell? ⟨b, off + i * 5, none⟩ = some (.int .i64 (L i).f) ∧ w.cell? ⟨b, off + i * 5 + 1, none⟩ = some (.int .i64 (L i).t) ∧ w.cell? ⟨b, off + i * 5 + 2, none⟩ = some (.bool (L i).null) ∧
    w.cell? ⟨b, off + i * 5 + 3, none⟩ = some (.int .i64 (hiW (L i).v)) ∧ w.cell? ⟨b, off + i * 5 + 4, none⟩ = some (.int .u64 (loW (L i).v)) := by
  have key : ∀ j, j < 5 → w.cell? ⟨b, off + i * 5 + j, none⟩ = some (((rwCells (L i))[j]?).getD undef) := by
    intro j hj
    have := hc (i * 5 + j) (by omega)
    rw [← Nat.add_assoc] at this
    rw [this]
    unfold rwCell
    rw [show (i * 5 + j) / 5 = i by omega, show (i * 5 + j) % 5 = j by omega]
  exact ⟨key 0 (by omega), key 1 (by omega), key 2 (by omega), key 3 (by omega), key 4 (by omega)⟩
theorem rowElem : Elem Try.prog 36 43 (.agg #[.int .i64 0, .int .i64 0, .bool false, .int .i64 0, .int .u64 0]) 5 40 := Elem.mk' Try.underlying36 (by kernel_rfl) rfl (by decide)
theorem sub_int (a b : Int) (w : World) (ha : in64 a) (hb : in64 b) :
    Calls Try.prog 14 #[.agg #[.int .i64 (hiW a), .int .u64 (loW a)], .agg #[.int .i64 (hiW b), .int .u64 (loW b)]] w fun e w' => e = .returned (.tuple #[.agg #[.int .i64 (hiW (a - b)), .int .u64 (loW (a - b))], .bool true]) ∧ Below w.heap.size w w' := by
  unfold in64 at ha hb
  have hf : fits (a - b) := by unfold fits; omega
  have h := sub_any a b w (by unfold fits; omega) (by unfold fits; omega)
  rw [sumOf_yes hf, decide_eq_true hf] at h
  exact h
/-- what Rows tells -/
def RowsPost (w : World) (L : Nat → Pr) (n : Nat) (e : Ending) (w' : World) : Prop :=
  ∃ A c, e = .returned (.slice A n c) ∧ w'.ownsRow w.heap.size 43 5 (.slice A n c) n (cells5 (rowsL L n)) ∧ Below w.heap.size w w'
def RowsRel (w : World) (n : Nat) (L : Nat → Pr) (v i : Value) (wr : World) : Prop :=
  ∃ (k : Nat) (A : Option Addr) (c : Nat), k ≤ n ∧ i = .int .i64 k ∧ v = .slice A k c ∧ wr.ownsRow w.heap.size 43 5 (.slice A k c) k (cells5 (rowsL L k)) ∧ Below w.heap.size w wr
set_option maxRecDepth 100000 in
set_option maxHeartbeats 4000000 in
theorem rows_any (A : Option Addr) (n c : Nat) (L : Nat → Pr) (w : World) (h : Prs w A n L) (hn : n ≤ 1000000) (hbd : ∀ i, i < n → in64 (L i).r.v ∧ in64 (L i).l.v) :
    Calls Try.prog 8 #[.slice A n c] w (RowsPost w L n) := by
  have HP := Lib.hid h; clear h
  have HBD := Lib.hid hbd; clear hbd
  go_enter Try.func8, Try.ntmps8
  go_wp2_with fail
  go_loopw [3, 11] (RowsRel w n L) (fun _ i _ => n - (intOf i).toNat)
  case atStart => exact ⟨0, none, 0, by omega, rfl, rfl, World.ownsRow_nil _ _ _ _, Below.refl _ _⟩
  case round =>
    obtain ⟨k, A', c', hk, rfl, rfl, hown, hbel⟩ := hrel
    by_cases hlt : k < n
    · obtain ⟨gx, ox, rfl, hgx, hcx⟩ := HP.out (by omega)
      obtain ⟨x0, x1, x2, x3, x4, x5, x6⟩ := Prs.at_ hcx hlt
      obtain ⟨hbr, hbl⟩ := HBD.out k hlt
      obtain ⟨p, hp⟩ : ∃ p, p = L k := ⟨_, rfl⟩
      rw [← hp] at x0 x1 x2 x3 x4 x5 x6 hbr hbl
      have y0 := (hbel.cell (p := ⟨gx, ox + k * 7, none⟩) hgx).trans x0
      have y1 := (hbel.cell (p := ⟨gx, ox + k * 7 + 1, none⟩) hgx).trans x1
      have y2 := (hbel.cell (p := ⟨gx, ox + k * 7 + 2, none⟩) hgx).trans x2
      have y3 := (hbel.cell (p := ⟨gx, ox + k * 7 + 3, none⟩) hgx).trans x3
      have y4 := (hbel.cell (p := ⟨gx, ox + k * 7 + 4, none⟩) hgx).trans x4
      have y5 := (hbel.cell (p := ⟨gx, ox + k * 7 + 5, none⟩) hgx).trans x5
      have y6 := (hbel.cell (p := ⟨gx, ox + k * 7 + 6, none⟩) hgx).trans x6
      clear x0 x1 x2 x3 x4 x5 x6 hcx
      have HPE := Lib.hid hp; clear hp
      have hsz := hbel.size
      by_cases hh : p.has = true
      · rw [hh] at y6
        have HR := Lib.hid (show rowOf p = ⟨p.l.t, p.r.t, false, p.r.v - p.l.v⟩ by unfold rowOf; rw [if_pos hh])
        obtain ⟨W2, hW2⟩ : ∃ W2, W2 = (wr.alloc (.cells #[.int .i64 p.l.t, .int .i64 p.l.v, .int .i64 p.l.s, .int .i64 p.r.t, .int .i64 p.r.v, .int .i64 p.r.s, .bool true] 31)).alloc (.cells #[.int .i64 p.l.t, .int .i64 p.l.t, .bool true, .int .i64 0, .int .u64 0] 43) := ⟨_, rfl⟩
        have hs2 : W2.heap.size = wr.heap.size + 1 + 1 := by rw [hW2]; simp
        have z0 : W2.cell? ⟨wr.heap.size, 0, none⟩ = some (.int .i64 p.l.t) := by rw [hW2]; simp
        have z1 : W2.cell? ⟨wr.heap.size, 1, none⟩ = some (.int .i64 p.l.v) := by rw [hW2]; simp
        have z3 : W2.cell? ⟨wr.heap.size, 3, none⟩ = some (.int .i64 p.r.t) := by rw [hW2]; simp
        have z4 : W2.cell? ⟨wr.heap.size, 4, none⟩ = some (.int .i64 p.r.v) := by rw [hW2]; simp
        have r0 : W2.cell? ⟨wr.heap.size + 1, 0, none⟩ = some (.int .i64 p.l.t) := by rw [hW2]; simp
        have r1 : W2.cell? ⟨wr.heap.size + 1, 1, none⟩ = some (.int .i64 p.l.t) := by rw [hW2]; simp
        have r2 : W2.cell? ⟨wr.heap.size + 1, 2, none⟩ = some (.bool true) := by rw [hW2]; simp
        have r3 : W2.cell? ⟨wr.heap.size + 1, 3, none⟩ = some (.int .i64 0) := by rw [hW2]; simp
        have r4 : W2.cell? ⟨wr.heap.size + 1, 4, none⟩ = some (.int .u64 0) := by rw [hW2]; simp
        have rf : ∀ q, W2.frozen? ⟨wr.heap.size + 1, q, none⟩ = false := fun q => by rw [hW2]; exact frozen_of_row _ _ _ _ _ (by rw [show wr.heap.size + 1 = (wr.alloc (.cells #[.int .i64 p.l.t, .int .i64 p.l.v, .int .i64 p.l.s, .int .i64 p.r.t, .int .i64 p.r.v, .int .i64 p.r.s, .bool true] 31)).heap.size by simp]; exact heap_alloc_new _ _)
        have hown2 : W2.ownsRow w.heap.size 43 5 (.slice A' k c') k (cells5 (rowsL L k)) := by rw [hW2]; exact (hown.alloc _).alloc _
        have hbel2 : Below w.heap.size w W2 := by rw [hW2]; exact (hbel.alloc hsz _).alloc (by simp; omega) _
        have HOr := Lib.hid (fun w => of_any p.r.v w hbr.1 hbr.2)
        have HOl := Lib.hid (fun w => of_any p.l.v w hbl.1 hbl.2)
        have HSU := Lib.hid (fun w => sub_int p.r.v p.l.v w hbr hbl)
        obtain ⟨d, hd⟩ : ∃ d, d = p.r.v - p.l.v := ⟨_, rfl⟩
        rw [← hd] at HSU HR
        have HS2 := Lib.hid hs2
        have RF := Lib.hid rf
        have hsw : wr.heap.size + 1 < W2.heap.size := by omega
        have hneo : (Value.slice A' k c').ownBlock ≠ some (wr.heap.size + 1) := fun e => by have := (hown.lt _ e).2; omega
        go_wp2_with fail
        rw [← hW2]
        clear hW2 hs2 rf hd hown hbel y0 y1 y2 y3 y4 y5 y6 hh
        go_upto_region 7 with fail
        go_cut [7] (fun s7 wx => ∃ g, s7 = .pointer (some ⟨g, 0, none⟩) ∧ Below W2.heap.size W2 wx ∧ wx.cell? ⟨g, 0, none⟩ = some (.int .i64 (hiW d)) ∧ wx.cell? ⟨g, 1, none⟩ = some (.int .u64 (loW d)) ∧ wr.heap.size + 1 < g)
        case first =>
          go_region_held3 (fun w' => w'.cell? ⟨wr.heap.size, 1, none⟩ = some (.int .i64 p.l.v) ∧ w'.cell? ⟨wr.heap.size, 4, none⟩ = some (.int .i64 p.r.v)) ((refine ⟨?_, ?_⟩ <;> (repeat (first | (with_reducible refine cell_dr ?_) | (with_reducible refine cell_al ?_) | (with_reducible refine cell_be hbp ?_) | (with_reducible refine cell_be hbq ?_) | (with_reducible refine cell_be hbo ?_) | (with_reducible refine cell_set ?_ (by omega)))) <;> (with_reducible first | exact z1 | exact z4))) (first | (go_at_call_of 15 (Value.int IntKind.i64 p.r.v); refine (HOr.out _).mono ?_; rintro e wo ⟨rfl, hbo⟩; have hzo := hbo.size; (try simp at hzo); (try (with_reducible first | (have k0 : wo.cell? ⟨W2.heap.size, 0, none⟩ = some (.int .i64 0) := cell_be hbo (cell_new0 rfl)) | (have k0 : wo.cell? ⟨W2.heap.size, 0, none⟩ = some (.int .i64 0) := cell_be hbo (cell_dr (cell_new0 rfl))))); (try (with_reducible first | (have k1 : wo.cell? ⟨W2.heap.size, 1, none⟩ = some (.int .u64 0) := cell_be hbo (cell_new1 rfl)) | (have k1 : wo.cell? ⟨W2.heap.size, 1, none⟩ = some (.int .u64 0) := cell_be hbo (cell_dr (cell_new1 rfl))))); (try (with_reducible first | (have k2 : wo.frozen? ⟨W2.heap.size, 0, none⟩ = false := frozen_be hbo (by simp) (frozen_new rfl 0)) | (have k2 : wo.frozen? ⟨W2.heap.size, 0, none⟩ = false := frozen_be hbo (by simp) (frozen_dr (frozen_new rfl 0))))); (try (with_reducible first | (have k3 : wo.frozen? ⟨W2.heap.size, 1, none⟩ = false := frozen_be hbo (by simp) (frozen_new rfl 1)) | (have k3 : wo.frozen? ⟨W2.heap.size, 1, none⟩ = false := frozen_be hbo (by simp) (frozen_dr (frozen_new rfl 1)))))) | (go_at_call_of 15 (Value.int IntKind.i64 p.l.v); refine (HOl.out _).mono ?_; rintro e wq ⟨rfl, hbq⟩; have hzq := hbq.size; (try simp at hzq); (try (with_reducible first | (have kq0 : wq.cell? ⟨W2.heap.size, 0, none⟩ = some (.int .i64 0) := cell_be hbq k0))); (try (with_reducible first | (have kq1 : wq.cell? ⟨W2.heap.size, 1, none⟩ = some (.int .u64 0) := cell_be hbq k1))); (try (with_reducible first | (have kq2 : wq.frozen? ⟨W2.heap.size, 0, none⟩ = false := frozen_be hbq (World.block_lt_of_cell? _ _ k0) k2))); (try (with_reducible first | (have kq3 : wq.frozen? ⟨W2.heap.size, 1, none⟩ = false := frozen_be hbq (World.block_lt_of_cell? _ _ k0) k3))); (try (with_reducible first | (have j0 : wq.cell? ⟨wo.heap.size, 0, none⟩ = some (.int .i64 0) := cell_be hbq (cell_new0 rfl)) | (have j0 : wq.cell? ⟨wo.heap.size, 0, none⟩ = some (.int .i64 0) := cell_be hbq (cell_dr (cell_new0 rfl))))); (try (with_reducible first | (have j1 : wq.cell? ⟨wo.heap.size, 1, none⟩ = some (.int .u64 0) := cell_be hbq (cell_new1 rfl)) | (have j1 : wq.cell? ⟨wo.heap.size, 1, none⟩ = some (.int .u64 0) := cell_be hbq (cell_dr (cell_new1 rfl))))); (try (with_reducible first | (have j2 : wq.frozen? ⟨wo.heap.size, 0, none⟩ = false := frozen_be hbq (by simp) (frozen_new rfl 0)) | (have j2 : wq.frozen? ⟨wo.heap.size, 0, none⟩ = false := frozen_be hbq (by simp) (frozen_dr (frozen_new rfl 0))))); (try (with_reducible first | (have j3 : wq.frozen? ⟨wo.heap.size, 1, none⟩ = false := frozen_be hbq (by simp) (frozen_new rfl 1)) | (have j3 : wq.frozen? ⟨wo.heap.size, 1, none⟩ = false := frozen_be hbq (by simp) (frozen_dr (frozen_new rfl 1)))))) | (go_at_call 14; refine (HSU.out _).mono ?_; rintro e wp ⟨rfl, hbp⟩; have hzp := hbp.size; (try simp at hzp); (try (with_reducible first | (have kp0 : wp.cell? ⟨W2.heap.size, 0, none⟩ = some (.int .i64 0) := cell_be hbp kq0))); (try (with_reducible first | (have kp1 : wp.cell? ⟨W2.heap.size, 1, none⟩ = some (.int .u64 0) := cell_be hbp kq1))); (try (with_reducible first | (have kp2 : wp.frozen? ⟨W2.heap.size, 0, none⟩ = false := frozen_be hbp (World.block_lt_of_cell? _ _ kq0) kq2))); (try (with_reducible first | (have kp3 : wp.frozen? ⟨W2.heap.size, 1, none⟩ = false := frozen_be hbp (World.block_lt_of_cell? _ _ kq0) kq3))); (try (with_reducible first | (have jp0 : wp.cell? ⟨wo.heap.size, 0, none⟩ = some (.int .i64 0) := cell_be hbp j0))); (try (with_reducible first | (have jp1 : wp.cell? ⟨wo.heap.size, 1, none⟩ = some (.int .u64 0) := cell_be hbp j1))); (try (with_reducible first | (have jp2 : wp.frozen? ⟨wo.heap.size, 0, none⟩ = false := frozen_be hbp (World.block_lt_of_cell? _ _ j0) j2))); (try (with_reducible first | (have jp3 : wp.frozen? ⟨wo.heap.size, 1, none⟩ = false := frozen_be hbp (World.block_lt_of_cell? _ _ j0) j3))); (try (with_reducible first | (have i0 : wp.cell? ⟨wq.heap.size, 0, none⟩ = some (.int .i64 0) := cell_be hbp (cell_new0 rfl)) | (have i0 : wp.cell? ⟨wq.heap.size, 0, none⟩ = some (.int .i64 0) := cell_be hbp (cell_dr (cell_new0 rfl))))); (try (with_reducible first | (have i1 : wp.cell? ⟨wq.heap.size, 1, none⟩ = some (.int .u64 0) := cell_be hbp (cell_new1 rfl)) | (have i1 : wp.cell? ⟨wq.heap.size, 1, none⟩ = some (.int .u64 0) := cell_be hbp (cell_dr (cell_new1 rfl))))); (try (with_reducible first | (have i2 : wp.frozen? ⟨wq.heap.size, 0, none⟩ = false := frozen_be hbp (by simp) (frozen_new rfl 0)) | (have i2 : wp.frozen? ⟨wq.heap.size, 0, none⟩ = false := frozen_be hbp (by simp) (frozen_dr (frozen_new rfl 0))))); (try (with_reducible first | (have i3 : wp.frozen? ⟨wq.heap.size, 1, none⟩ = false := frozen_be hbp (by simp) (frozen_new rfl 1)) | (have i3 : wp.frozen? ⟨wq.heap.size, 1, none⟩ = false := frozen_be hbp (by simp) (frozen_dr (frozen_new rfl 1)))))))
          · go_wp2_with fail
            go_meet
            have b1 := bel_step (bel_step (bel_step (Below.refl _ W2).drew (Nat.le_refl _) hbo) (Nat.le_refl _) hbq) (Nat.le_refl _) hbp
            have := b1.size
            exact ⟨_, rfl, b1.alloc b1.size _, cell_new0 rfl, cell_new1 rfl, by omega⟩
          · go_wp2_with fail
            go_meet
            have b0 := bel_step (bel_step (Below.refl _ W2).drew (Nat.le_refl _) hbo) (Nat.le_refl _) hbq
            have hz0 := b0.size
            have b1 := bel_step (b0.alloc b0.size (.cells #[.int .i64 0, .int .u64 0] 53)) (Nat.le_refl _) hbp
            have t := two_set (x := .int .i64 (hiW d)) (y := .int .u64 (loW d)) i0 i1
            exact ⟨_, rfl, (b1.setCell hz0 _).setCell hz0 _, t.1, t.2, by omega⟩
          · go_wp2_with fail
            go_meet
            have b0 := bel_step (Below.refl _ W2).drew (Nat.le_refl _) hbo
            have hz0 := b0.size
            have b1 := bel_step (bel_step (b0.alloc b0.size (.cells #[.int .i64 0, .int .u64 0] 53)) (Nat.le_refl _) hbq) (Nat.le_refl _) hbp
            have t := two_set (x := .int .i64 (hiW d)) (y := .int .u64 (loW d)) jp0 jp1
            exact ⟨_, rfl, (b1.setCell hz0 _).setCell hz0 _, t.1, t.2, by omega⟩
          · go_wp2_with fail
            go_meet
            have b1 := bel_step (bel_step (bel_step ((Below.refl _ W2).alloc (Nat.le_refl _) (.cells #[.int .i64 0, .int .u64 0] 53)).drew (Nat.le_refl _) hbo) (Nat.le_refl _) hbq) (Nat.le_refl _) hbp
            have t := two_set (x := .int .i64 (hiW d)) (y := .int .u64 (loW d)) kp0 kp1
            exact ⟨_, rfl, (b1.setCell (Nat.le_refl _) _).setCell (Nat.le_refl _) _, t.1, t.2, by omega⟩
        case rest =>
          obtain ⟨g, rfl, hbg, g0, g1, hgl⟩ := hcut
          replace z0 := cell_be hbg z0
          replace z3 := cell_be hbg z3
          replace r0 := cell_be hbg r0
          replace r1 := cell_be hbg r1
          replace r2 := cell_be hbg r2
          replace r3 := cell_be hbg r3
          replace r4 := cell_be hbg r4
          have f0 := frozen_be hbg hsw (RF.out 0)
          have f1 := frozen_be hbg hsw (RF.out 1)
          have f2 := frozen_be hbg hsw (RF.out 2)
          have f3 := frozen_be hbg hsw (RF.out 3)
          have f4 := frozen_be hbg hsw (RF.out 4)
          have hown3 := own_below hown2 hbg
          have hbel3 := bel_step hbel2 (Nat.le_refl _) hbg
          have hsw3 : wr.heap.size + 1 < wc.heap.size := by have := hbg.size; omega
          have hown5 : World.ownsRow (((((wc.setCell ⟨wr.heap.size + 1, 0, none⟩ (.int .i64 p.l.t)).setCell ⟨wr.heap.size + 1, 1, none⟩ (.int .i64 p.r.t)).setCell ⟨wr.heap.size + 1, 2, none⟩ (.bool false)).setCell ⟨wr.heap.size + 1, 3, none⟩ (.int .i64 (hiW d))).setCell ⟨wr.heap.size + 1, 4, none⟩ (.int .u64 (loW d))) w.heap.size 43 5 (.slice A' k c') k (cells5 (rowsL L k)) := hown3.kept (grown_set (grown_set (grown_set (grown_set (grown_set (grown_refl wc (some (wr.heap.size + 1))) 0 (.int .i64 p.l.t)) 1 (.int .i64 p.r.t)) 2 (.bool false)) 3 (.int .i64 (hiW d))) 4 (.int .u64 (loW d))) (.inr hneo)
          have hbel5 : Below w.heap.size w (((((wc.setCell ⟨wr.heap.size + 1, 0, none⟩ (.int .i64 p.l.t)).setCell ⟨wr.heap.size + 1, 1, none⟩ (.int .i64 p.r.t)).setCell ⟨wr.heap.size + 1, 2, none⟩ (.bool false)).setCell ⟨wr.heap.size + 1, 3, none⟩ (.int .i64 (hiW d))).setCell ⟨wr.heap.size + 1, 4, none⟩ (.int .u64 (loW d))) := (Below.setCell (Below.setCell (Below.setCell (Below.setCell (Below.setCell hbel3 (p := ⟨wr.heap.size + 1, 0, none⟩) (by simp; omega) (.int .i64 p.l.t)) (p := ⟨wr.heap.size + 1, 1, none⟩) (by simp; omega) (.int .i64 p.r.t)) (p := ⟨wr.heap.size + 1, 2, none⟩) (by simp; omega) (.bool false)) (p := ⟨wr.heap.size + 1, 3, none⟩) (by simp; omega) (.int .i64 (hiW d))) (p := ⟨wr.heap.size + 1, 4, none⟩) (by simp; omega) (.int .u64 (loW d)))
          clear hown3 hbel3 hown2 hbel2
          go_wp2_with (at_builtin; refine wpList_append_g rowElem hown5 hbel5 (Nat.le_refl _) (by simp; omega) wc.heap.size (by simp) rfl _ _ rfl (rwCells ⟨p.l.t, p.r.t, false, d⟩) rfl rfl rfl (by simp [rwCells, Value.oneCell']) (by unfold maxLen; omega) (by omega) ?_; intro A1 c1 w1 ho1 hb1 hg1)
          refine ⟨⟨k + 1, A1, c1, by omega, by go_num, rfl, ?_, hb1⟩, by simp [intOf]; omega⟩
          rw [rowsL_succ, cells5_append, cells5_one, ← HPE.out, HR.out]
          exact ho1
      · have hh' : p.has = false := by simpa using hh
        rw [hh'] at y6
        have HR := Lib.hid (show rowOf p = ⟨p.l.t, p.l.t, true, 0⟩ by unfold rowOf; rw [if_neg hh])
        clear hh hh'
        go_wp2_with (at_builtin; refine wpList_append_g rowElem ((hown.alloc _).alloc _) ((hbel.alloc hsz _).alloc (by simp; omega) _) (Nat.le_refl _) (by simp; omega) (wr.heap.size + 1 + 1) (by simp) rfl _ _ rfl [.int .i64 p.l.t, .int .i64 p.l.t, .bool true, .int .i64 0, .int .u64 0] rfl rfl rfl (by simp [Value.oneCell']) (by unfold maxLen; omega) (by omega) ?_; intro A1 c1 w1 ho1 hb1 hg1)
        refine ⟨⟨k + 1, A1, c1, by omega, by go_num, rfl, ?_, hb1⟩, by simp [intOf]; omega⟩
        rw [rowsL_succ, cells5_append, cells5_one, ← HPE.out, HR.out]
        exact ho1
    · obtain rfl : k = n := by omega
      go_wp2
      go_ret
      exact ⟨A', c', rfl, hown, hbel⟩
end Go.Proofs.Ytpblabpajliagaa

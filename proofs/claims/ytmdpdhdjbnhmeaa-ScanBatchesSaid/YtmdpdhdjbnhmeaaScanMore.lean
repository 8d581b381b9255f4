/- Contracts of scan.Span, scan.Take, scan.Select. -/
import Derived.Test.YtmdpdhdjbnhmeaaScanFns
namespace Go.Proofs.Ytmdpdhdjbnhmeaa
open Go.RowKit
set_option linter.unusedVariables false

theorem frozen_be {w w' : World} (hb : Below w.heap.size w w') {b k : Nat} (hlt : b < w.heap.size) (h : w.frozen? ⟨b, k, none⟩ = false) : w'.frozen? ⟨b, k, none⟩ = false := (hb.frozen (p := ⟨b, k, none⟩) hlt).trans h
/-- a list of ints is handed back, with a code -/
def ListsPost (w : World) (L : List Int) (code : Int) (e : Ending) (w' : World) : Prop :=
  ∃ A c, e = .returned (.tuple #[.slice A L.length c, .int .i64 code]) ∧ LInts w' A L ∧ Below w.heap.size w w'
/-- the three columns of a batch -/
structure Batch3 where
  t : Nat → Int
  v : Nat → Int
  s : Nat → Int
/-- a batch that lies in a block -/
structure BatchAt (w0 : World) (g : Nat) (A B C : Value) (w : World) : Prop where
  bel : Below w0.heap.size w0 w
  c0 : w.cell? ⟨g, 0, none⟩ = some A
  c1 : w.cell? ⟨g, 1, none⟩ = some B
  c2 : w.cell? ⟨g, 2, none⟩ = some C
theorem BatchAt.step {w0 w w' : World} {g : Nat} {A B C : Value} (h : BatchAt w0 g A B C w) (hb : Below w.heap.size w w') : BatchAt w0 g A B C w' :=
  ⟨h.bel.trans (hb.mono h.bel.size), cell_be hb h.c0, cell_be hb h.c1, cell_be hb h.c2⟩

set_option maxHeartbeats 1000000 in
theorem span_yes (A B C : Option Addr) (n m k ca cb cc : Nat) (x : Nat → Int) (a b : Int) (w : World) (h : Ints w A n x) (hn : n ≤ 1000000) (hr : n = m ∧ n = k) :
    Calls Try.prog 7 #[.agg #[.slice A n ca, .slice B m cb, .slice C k cc], .int .i64 a, .int .i64 b] w (ListsPost w (whereL x (inSpan a b) n) 0) := by
  have HR := Lib.hid (fun w => right_any A B C n m k ca cb cc w true (by simp; exact hr))
  clear hr
  obtain ⟨W, hW⟩ : ∃ W, W = ((w.alloc (.cells #[.slice A n ca, .slice B m cb, .slice C k cc] 25)).alloc (.cells #[.int .i64 a] 3)).alloc (.cells #[.int .i64 b] 3) := ⟨_, rfl⟩
  have HW : BatchAt w w.heap.size (.slice A n ca) (.slice B m cb) (.slice C k cc) W := by
    rw [hW]; exact ⟨(((Below.refl _ _).alloc (Nat.le_refl _) _).alloc (by simp) _).alloc (by simp; omega) _, cell_al (cell_al (cell_newk rfl rfl)), cell_al (cell_al (cell_newk rfl rfl)), cell_al (cell_al (cell_newk rfl rfl))⟩
  have e1 : W.cell? ⟨w.heap.size + 1, 0, none⟩ = some (.int .i64 a) := by rw [hW]; exact cell_al (cell_newk (by simp) rfl)
  have e2 : W.cell? ⟨w.heap.size + 1 + 1, 0, none⟩ = some (.int .i64 b) := by rw [hW]; exact cell_newk (by simp) rfl
  have HH := Lib.hid hW; clear hW
  obtain ⟨_, d0, d1, d2⟩ := HW
  go_enter Try.func7, Try.ntmps7
  go_wp2_with fail
  rw [← HH.out]
  with_reducible refine (HR.out W).mono ?_
  rintro e w1 ⟨rfl, hb1⟩
  replace d0 := cell_be hb1 d0
  replace e1 := cell_be hb1 e1
  replace e2 := cell_be hb1 e2
  have hbel : Below w.heap.size w w1 := by
    have hB : Below w.heap.size w W := by rw [HH.out]; exact (((Below.refl _ _).alloc (Nat.le_refl _) _).alloc (by simp) _).alloc (by simp; omega) _
    exact hB.trans (hb1.mono hB.size)
  have HC := Lib.hid (where_2 A n ca x 22 (.pointer (some ⟨w.heap.size + 1, 0, none⟩)) (.pointer (some ⟨w.heap.size + 1 + 1, 0, none⟩)) (inSpan a b) w1 (Cells.below h hbel) hn ⟨enters_of Try.func22 (by kernel_rfl) rfl, fun t wr hb => span1_any t a b _ _ wr (cell_be hb e1) (cell_be hb e2)⟩)
  clear hb1 e1 e2 d1 d2
  go_wp2_with fail
  with_reducible refine HC.out.mono ?_
  rintro e w2 ⟨A', c', rfl, hown, hb2⟩
  go_wp2
  go_ret2
  exact ⟨A', c', rfl, LInts.of_own hown, hbel.trans (hb2.mono hbel.size)⟩
set_option maxHeartbeats 1000000 in
theorem span_no (A B C : Option Addr) (n m k ca cb cc : Nat) (a b : Int) (w : World) (hr : ¬ (n = m ∧ n = k)) :
    Calls Try.prog 7 #[.agg #[.slice A n ca, .slice B m cb, .slice C k cc], .int .i64 a, .int .i64 b] w (ListsPost w [] 2) := by
  have HR := Lib.hid (fun w => right_any A B C n m k ca cb cc w false (by simp; omega))
  clear hr
  obtain ⟨W, hW⟩ : ∃ W, W = ((w.alloc (.cells #[.slice A n ca, .slice B m cb, .slice C k cc] 25)).alloc (.cells #[.int .i64 a] 3)).alloc (.cells #[.int .i64 b] 3) := ⟨_, rfl⟩
  have HW : BatchAt w w.heap.size (.slice A n ca) (.slice B m cb) (.slice C k cc) W := by
    rw [hW]; exact ⟨(((Below.refl _ _).alloc (Nat.le_refl _) _).alloc (by simp) _).alloc (by simp; omega) _, cell_al (cell_al (cell_newk rfl rfl)), cell_al (cell_al (cell_newk rfl rfl)), cell_al (cell_al (cell_newk rfl rfl))⟩
  have e1 : W.cell? ⟨w.heap.size + 1, 0, none⟩ = some (.int .i64 a) := by rw [hW]; exact cell_al (cell_newk (by simp) rfl)
  have e2 : W.cell? ⟨w.heap.size + 1 + 1, 0, none⟩ = some (.int .i64 b) := by rw [hW]; exact cell_newk (by simp) rfl
  have HH := Lib.hid hW; clear hW
  obtain ⟨_, d0, d1, d2⟩ := HW
  go_enter Try.func7, Try.ntmps7
  go_wp2_with fail
  rw [← HH.out]
  with_reducible refine (HR.out W).mono ?_
  rintro e w1 ⟨rfl, hb1⟩
  have hbel : Below w.heap.size w w1 := by
    have hB : Below w.heap.size w W := by rw [HH.out]; exact (((Below.refl _ _).alloc (Nat.le_refl _) _).alloc (by simp) _).alloc (by simp; omega) _
    exact hB.trans (hb1.mono hB.size)
  go_wp2
  go_ret2
  exact ⟨none, 0, rfl, Cells.zero _ _ _, hbel⟩

/-- a function value that tells a number of a number -/
def Gives (w0 : World) (f : Nat) (cap : List Value) (S : Int → Prop) (g : Int → Int) : Prop := Enters Try.prog f ∧ ∀ (u : Int) (w : World), S u → Below w0.heap.size w0 w → Calls Try.prog f (.int .i64 u :: cap).toArray w fun e w' => e = .returned (.int .i64 (g u)) ∧ Below w.heap.size w w'
def ColRel (w : World) (L : List Int) (g : Int → Int) (v i : Value) (wr : World) : Prop :=
  ∃ (k : Nat) (A : Option Addr) (c : Nat), k ≤ L.length ∧ i = .int .i64 k ∧ v = .slice A k c ∧ wr.ownsRow w.heap.size 3 1 (.slice A k c) k (cells1 ((L.take k).map g)) ∧ Below w.heap.size w wr
theorem take_map_succ (L : List Int) (g : Int → Int) (k : Nat) (h : k < L.length) : (L.take (k + 1)).map g = (L.take k).map g ++ [g (L.getD k 0)] := by
  rw [List.take_succ_eq_append_getElem h, List.map_append, List.getD_eq_getElem?_getD, List.getElem?_eq_getElem h]; rfl
set_option maxHeartbeats 1000000 in
theorem column_1 (A : Option Addr) (L : List Int) (c : Nat) (f : Nat) (c0 : Value) (S : Int → Prop) (g : Int → Int) (w : World) (h : LInts w A L) (hn : L.length ≤ 1000000) (hS : ∀ j, j < L.length → S (L.getD j 0)) (hf : Gives w f [c0] S g) :
    Calls Try.prog 23 #[.slice A L.length c, .func (.func f) #[] #[c0]] w (ListPost w (L.map g)) := by
  have HF := Lib.hid hf.2
  have HN := Lib.hid hf.1; clear hf
  have HS := Lib.hid hS; clear hS
  obtain ⟨i0, hi, hz0, hz1, hz2⟩ := intElem.info
  go_enter Try.func23, Try.ntmps23
  go_wp2_with (at_make; refine wpList_make_own _ rfl _ _ 22 rfl w.heap.size 3 i0 (.int .i64 0) 1 Try.underlying22 hi hz0 hz1 .i64 .i64 _ L.length rfl rfl (by first | rfl | omega) (by rw [hz2]; omega) (by unfold maxLen; omega) (Nat.le_refl _) ?_; intro w0 hown0 hg0)
  have hB0 : Below w.heap.size w w0 := (Below.refl _ _).grown hg0 (Nat.le_refl _) (fun k hk => by cases hk)
  go_loopw [5, 13] (ColRel w L g) (fun _ i _ => L.length - (intOf i).toNat)
  case atStart => exact ⟨0, _, _, by omega, rfl, rfl, hown0, hB0⟩
  case round =>
    clear hown0 hB0 hg0
    obtain ⟨k, A', c', hk, rfl, rfl, hown, hbel⟩ := hrel
    by_cases hlt : k < L.length
    · obtain ⟨b, off, rfl, hb, hc⟩ := h (by omega)
      obtain ⟨u, hu⟩ : ∃ u, u = L.getD k 0 := ⟨_, rfl⟩
      have hck : wr.cell? ⟨b, off + k, none⟩ = some (.int .i64 u) := by rw [hu]; exact (hbel.cell (p := ⟨b, off + k, none⟩) hb).trans (hc k hlt)
      have hsz := hbel.size
      have HC := Lib.hid (HF.out u wr (by rw [hu]; exact HS.out k hlt) hbel)
      have HT := Lib.hid (take_map_succ L g k hlt)
      have HU := Lib.hid hu
      clear hc h hu
      go_wp2_with fail
      rw [HN.out, Oper.upon_enter]
      with_reducible refine HC.out.mono ?_
      rintro e w2 ⟨rfl, hb2⟩
      have hown2 := own_below hown hb2
      have hbel2 := hbel.trans (hb2.mono hbel.size)
      have hsz2 := hbel2.size
      go_wp2_with (at_builtin; refine wpList_append_new intElem hown2 hbel2 (Nat.le_refl _) (by omega) rfl _ _ rfl [.int .i64 (g u)] rfl rfl rfl (by simp [Value.oneCell']) (by unfold maxLen; omega) (by omega) ?_; intro A1 c1 w3 ho3 hb3 _)
      refine ⟨⟨k + 1, A1, c1, by omega, by go_num, rfl, ?_, hb3⟩, by simp [intOf]; omega⟩
      rw [HT.out, cells1_append, ← HU.out]; exact ho3
    · have hk' : k = L.length := by omega
      have HK := Lib.hid hk'; clear hk'
      go_wp2
      go_ret
      refine ⟨A', c', ?_, ?_, hbel⟩
      · rw [List.length_map, ← HK.out]; rfl
      · rw [HK.out, List.take_length] at hown; rw [List.length_map]; exact hown
theorem take1_any (u : Nat) (A : Option Addr) (n c g : Nat) (x : Nat → Int) (w : World) (h0 : w.cell? ⟨g, 0, none⟩ = some (.slice A n c)) (h : Ints w A n x) (hu : u < n) :
    Calls Try.prog 24 #[.int .i64 u, .pointer (some ⟨g, 0, none⟩)] w fun e w' => e = .returned (.int .i64 (x u)) ∧ Below w.heap.size w w' := by
  have hb1 : g < w.heap.size := World.block_lt_of_cell? w _ h0
  obtain ⟨b, off, rfl, hb, hc⟩ := h (by omega)
  have hck := hc u hu
  have i0 : (0 : Int) ≤ (u : Int) := Int.natCast_nonneg _
  have i1 : (u : Int) < (n : Int) := by omega
  clear hc h
  go_enter Try.func24, Try.ntmps24
  go_wp2
  go_ret
  exact ⟨rfl, Below.refl _ _⟩
theorem take2_any (u : Nat) (A : Option Addr) (n c g : Nat) (x : Nat → Int) (w : World) (h0 : w.cell? ⟨g, 1, none⟩ = some (.slice A n c)) (h : Ints w A n x) (hu : u < n) :
    Calls Try.prog 25 #[.int .i64 u, .pointer (some ⟨g, 0, none⟩)] w fun e w' => e = .returned (.int .i64 (x u)) ∧ Below w.heap.size w w' := by
  have hb1 : g < w.heap.size := World.block_lt_of_cell? w _ h0
  obtain ⟨b, off, rfl, hb, hc⟩ := h (by omega)
  have hck := hc u hu
  have i0 : (0 : Int) ≤ (u : Int) := Int.natCast_nonneg _
  have i1 : (u : Int) < (n : Int) := by omega
  clear hc h
  go_enter Try.func25, Try.ntmps25
  go_wp2
  go_ret
  exact ⟨rfl, Below.refl _ _⟩
theorem take3_any (u : Nat) (A : Option Addr) (n c g : Nat) (x : Nat → Int) (w : World) (h0 : w.cell? ⟨g, 2, none⟩ = some (.slice A n c)) (h : Ints w A n x) (hu : u < n) :
    Calls Try.prog 26 #[.int .i64 u, .pointer (some ⟨g, 0, none⟩)] w fun e w' => e = .returned (.int .i64 (x u)) ∧ Below w.heap.size w w' := by
  have hb1 : g < w.heap.size := World.block_lt_of_cell? w _ h0
  obtain ⟨b, off, rfl, hb, hc⟩ := h (by omega)
  have hck := hc u hu
  have i0 : (0 : Int) ≤ (u : Int) := Int.natCast_nonneg _
  have i1 : (u : Int) < (n : Int) := by omega
  clear hc h
  go_enter Try.func26, Try.ntmps26
  go_wp2
  go_ret
  exact ⟨rfl, Below.refl _ _⟩
end Go.Proofs.Ytmdpdhdjbnhmeaa

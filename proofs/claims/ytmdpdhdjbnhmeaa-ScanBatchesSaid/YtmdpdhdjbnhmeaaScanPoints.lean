/- Contracts of scan.Points, tidemillref20.Points, tidemillref13.Same. -/
import Derived.Test.YtmdpdhdjbnhmeaaScanCol
namespace Go.Proofs.Ytmdpdhdjbnhmeaa
open Go.RowKit
set_option linter.unusedVariables false

/-- points as cells -/
def ptCells (L : List Pt) : List Value := L.flatMap fun p => [.int .i64 p.t, .int .i64 p.v, .int .i64 p.s]
theorem ptCells_append (L M : List Pt) : ptCells (L ++ M) = ptCells L ++ ptCells M := by simp [ptCells]
theorem ptCells_length (L : List Pt) : (ptCells L).length = L.length * 3 := by
  induction L with
  | nil => rfl
  | cons p L ih => simp only [ptCells, List.flatMap_cons, List.length_append, List.length_cons, List.length_nil] at *; omega
theorem ptCells_at (L : List Pt) (i : Nat) (p : Pt) (h : L[i]? = some p) : (ptCells L)[i * 3]? = some (.int .i64 p.t) ∧ (ptCells L)[i * 3 + 1]? = some (.int .i64 p.v) ∧ (ptCells L)[i * 3 + 2]? = some (.int .i64 p.s) := by
  induction L generalizing i with
  | nil => simp at h
  | cons q L ih =>
    cases i with
    | zero => simp at h; subst h; simp [ptCells]
    | succ i =>
      simp only [List.getElem?_cons_succ] at h
      have := ih i h
      have e : (i + 1) * 3 = i * 3 + 3 := by omega
      rw [e]
      simpa [ptCells] using this
def ptAt (L : List Pt) (j : Nat) : Pt := L.getD j ⟨0, 0, 0⟩
theorem ptAt_get (L : List Pt) (j : Nat) (h : j < L.length) : L[j]? = some (ptAt L j) := by unfold ptAt; rw [List.getD_eq_getElem?_getD, List.getElem?_eq_getElem h, Option.getD_some]
theorem Pts.of_own {w : World} {base : Nat} {e : TypeId} {A : Option Addr} {c : Nat} {L : List Pt} (h : w.ownsRow base e 3 (.slice A L.length c) L.length (ptCells L)) : Pts w A L.length (ptAt L) := by
  refine own_cells h _ (fun j hj => ?_)
  have hq := ptAt_get L (j / 3) (by omega)
  obtain ⟨h1, h2, h3⟩ := ptCells_at L (j / 3) _ hq
  unfold ptCell
  rcases (show j % 3 = 0 ∨ j % 3 = 1 ∨ j % 3 = 2 by omega) with h | h | h
  · rw [if_pos h, ← h1, show j / 3 * 3 = j by omega]
  · rw [if_neg (by omega), if_pos h, ← h2, show j / 3 * 3 + 1 = j by omega]
  · rw [if_neg (by omega), if_neg (by omega), ← h3, show j / 3 * 3 + 2 = j by omega]
theorem ptElem : Elem Try.prog 33 47 (.agg #[.int .i64 0, .int .i64 0, .int .i64 0]) 3 24 := Elem.mk' Try.underlying33 (by kernel_rfl) rfl (by decide)
/-- the points of three columns -/
def zip3 (x y z : Nat → Int) (n : Nat) : List Pt := (List.range n).map fun i => ⟨x i, y i, z i⟩
theorem zip3_succ (x y z : Nat → Int) (n : Nat) : zip3 x y z (n + 1) = zip3 x y z n ++ [⟨x n, y n, z n⟩] := by simp [zip3, List.range_succ]
theorem zip3_len (x y z : Nat → Int) (n : Nat) : (zip3 x y z n).length = n := by simp [zip3]
def PtsPost (w : World) (L : List Pt) (code : Int) (e : Ending) (w' : World) : Prop :=
  ∃ A c, e = .returned (.tuple #[.slice A L.length c, .int .i64 code]) ∧ w'.ownsRow w.heap.size 47 3 (.slice A L.length c) L.length (ptCells L) ∧ Below w.heap.size w w'
def PointsRel (w : World) (n : Nat) (x y z : Nat → Int) (v i : Value) (wr : World) : Prop :=
  ∃ (q : Nat) (A : Option Addr) (c : Nat), q ≤ n ∧ i = .int .i64 q ∧ v = .slice A q c ∧ wr.ownsRow w.heap.size 47 3 (.slice A q c) q (ptCells (zip3 x y z q)) ∧ Below w.heap.size w wr
set_option maxHeartbeats 1000000 in
theorem points_no (A B C : Option Addr) (n m k ca cb cc : Nat) (w : World) (hr : ¬ (n = m ∧ n = k)) :
    Calls Try.prog 13 #[.agg #[.slice A n ca, .slice B m cb, .slice C k cc]] w (PtsPost w [] 2) := by
  have HR := Lib.hid (fun w => right_any A B C n m k ca cb cc w false (by simp; omega))
  clear hr
  obtain ⟨W, hW⟩ : ∃ W, W = w.alloc (.cells #[.slice A n ca, .slice B m cb, .slice C k cc] 25) := ⟨_, rfl⟩
  have hB : Below w.heap.size w W := by rw [hW]; exact (Below.refl _ _).alloc (Nat.le_refl _) _
  have d0 : W.cell? ⟨w.heap.size, 0, none⟩ = some (.slice A n ca) := by rw [hW]; exact cell_newk rfl rfl
  have d1 : W.cell? ⟨w.heap.size, 1, none⟩ = some (.slice B m cb) := by rw [hW]; exact cell_newk rfl rfl
  have d2 : W.cell? ⟨w.heap.size, 2, none⟩ = some (.slice C k cc) := by rw [hW]; exact cell_newk rfl rfl
  have HH := Lib.hid hW; clear hW
  go_enter Try.func13, Try.ntmps13
  go_wp2_with fail
  rw [← HH.out]
  with_reducible refine (HR.out W).mono ?_
  rintro e w1 ⟨rfl, hb1⟩
  have hbel : Below w.heap.size w w1 := hB.trans (hb1.mono hB.size)
  go_wp2
  go_ret2
  exact ⟨none, 0, rfl, World.ownsRow_nil _ _ _ _, hbel⟩
set_option maxHeartbeats 2000000 in
theorem points_yes (A B C : Option Addr) (n m k ca cb cc : Nat) (x y z : Nat → Int) (w : World) (hA : Ints w A n x) (hB' : Ints w B m y) (hC : Ints w C k z) (hn : n ≤ 1000000) (hr : n = m ∧ n = k) :
    Calls Try.prog 13 #[.agg #[.slice A n ca, .slice B m cb, .slice C k cc]] w (PtsPost w (zip3 x y z n) 0) := by
  have HR := Lib.hid (fun w => right_any A B C n m k ca cb cc w true (by simp; exact hr))
  obtain ⟨hr1, hr2⟩ := hr
  have hm1 : n ≤ m := by omega
  have hk1 : n ≤ k := by omega
  clear hr1 hr2
  obtain ⟨W, hW⟩ : ∃ W, W = w.alloc (.cells #[.slice A n ca, .slice B m cb, .slice C k cc] 25) := ⟨_, rfl⟩
  have hB : Below w.heap.size w W := by rw [hW]; exact (Below.refl _ _).alloc (Nat.le_refl _) _
  have d0 : W.cell? ⟨w.heap.size, 0, none⟩ = some (.slice A n ca) := by rw [hW]; exact cell_newk rfl rfl
  have d1 : W.cell? ⟨w.heap.size, 1, none⟩ = some (.slice B m cb) := by rw [hW]; exact cell_newk rfl rfl
  have d2 : W.cell? ⟨w.heap.size, 2, none⟩ = some (.slice C k cc) := by rw [hW]; exact cell_newk rfl rfl
  have HH := Lib.hid hW; clear hW
  go_enter Try.func13, Try.ntmps13
  go_wp2_with fail
  rw [← HH.out]
  with_reducible refine (HR.out W).mono ?_
  rintro e w1 ⟨rfl, hb1⟩
  replace d0 := cell_be hb1 d0
  replace d1 := cell_be hb1 d1
  replace d2 := cell_be hb1 d2
  have hw0 : w.heap.size < w1.heap.size := World.block_lt_of_cell? w1 _ d0
  have hbel : Below w.heap.size w w1 := hB.trans (hb1.mono hB.size)
  have hA1 : Ints w1 A n x := Cells.below hA hbel
  have hB1 : Ints w1 B m y := Cells.below hB' hbel
  have hC1 : Ints w1 C k z := Cells.below hC hbel
  clear hB hb1 hA hB' hC HH HR
  go_wp2_with fail
  go_loopw [4, 13] (PointsRel w1 n x y z) (fun _ i _ => n - (intOf i).toNat)
  case atStart => exact ⟨0, none, 0, by omega, rfl, rfl, World.ownsRow_nil _ _ _ _, Below.refl _ _⟩
  case round =>
    obtain ⟨q, A', c', hk, rfl, rfl, hown, hbl⟩ := hrel
    replace d0 := cell_be hbl d0
    replace d1 := cell_be hbl d1
    replace d2 := cell_be hbl d2
    have hsz := hbl.size
    by_cases hlt : q < n
    · obtain ⟨ba, oa, rfl, hba, hca⟩ := hA1 (by omega)
      obtain ⟨bb, ob, rfl, hbb, hcb⟩ := hB1 (by omega)
      obtain ⟨bc, oc, rfl, hbc, hcc⟩ := hC1 (by omega)
      have xa : wr.cell? ⟨ba, oa + q, none⟩ = some (.int .i64 (x q)) := (hbl.cell (p := ⟨ba, oa + q, none⟩) hba).trans (hca q hlt)
      have xb : wr.cell? ⟨bb, ob + q, none⟩ = some (.int .i64 (y q)) := (hbl.cell (p := ⟨bb, ob + q, none⟩) hbb).trans (hcb q (by omega))
      have xc : wr.cell? ⟨bc, oc + q, none⟩ = some (.int .i64 (z q)) := (hbl.cell (p := ⟨bc, oc + q, none⟩) hbc).trans (hcc q (by omega))
      clear hca hcb hcc hA1 hB1 hC1
      have i0 : (0 : Int) ≤ (q : Int) := by omega
      have i1 : (q : Int) < (m : Int) := by omega
      have i2 : (q : Int) < (k : Int) := by omega
      go_wp2_with fail
      go_region_held3 (fun w' => w'.cell? ⟨w.heap.size, 1, none⟩ = some (.slice (some ⟨bb, ob, none⟩) m cb) ∧ w'.cell? ⟨w.heap.size, 2, none⟩ = some (.slice (some ⟨bc, oc, none⟩) k cc) ∧ w'.cell? ⟨bb, ob + q, none⟩ = some (.int .i64 (y q)) ∧ w'.cell? ⟨bc, oc + q, none⟩ = some (.int .i64 (z q)))
        (first
          | (refine ⟨?_, ?_, ?_, ?_⟩ <;> (repeat (first | (with_reducible refine cell_dr ?_) | (with_reducible refine cell_al ?_))) <;> (with_reducible first | exact d1 | exact d2 | exact xb | exact xc))
          | exact ⟨far_cell hg1 hn1 (cell_dr (cell_al d1)), far_cell hg1 hn1 (cell_dr (cell_al d2)), far_cell hg1 hn2 (cell_dr (cell_al xb)), far_cell hg1 hn3 (cell_dr (cell_al xc))⟩)
        ((refine step_append_at ptElem (own_drew (hown.alloc _)) ((hbl.alloc hbl.size _).drew) (Nat.le_refl _) (by simp; omega) rfl _ _ rfl wr.heap.size [.int .i64 (x q), .int .i64 (y q), .int .i64 (z q)] (heap_alloc_new wr _) rfl rfl rfl (by simp [Value.oneCell']) (by unfold maxLen; omega) (by omega) ?_; intro A1 c1 w3 ho1 hb3 hg1; have hn1 := own_ne (own_drew (hown.alloc (.cells #[.int .i64 (x q), .int .i64 (y q), .int .i64 (z q)] 47))) hw0; have hn2 := own_ne (own_drew (hown.alloc (.cells #[.int .i64 (x q), .int .i64 (y q), .int .i64 (z q)] 47))) hbb; have hn3 := own_ne (own_drew (hown.alloc (.cells #[.int .i64 (x q), .int .i64 (y q), .int .i64 (z q)] 47))) hbc))
      go_wp2
      refine ⟨⟨q + 1, A1, c1, by omega, by go_num, rfl, ?_, hb3⟩, by simp [intOf]; omega⟩
      rw [zip3_succ, ptCells_append]; exact ho1
    · obtain rfl : q = n := by omega
      go_wp2
      go_ret2
      refine ⟨A', c', by rw [zip3_len]; rfl, ?_, hbel.trans (hbl.mono hbel.size)⟩
      rw [zip3_len]; exact own_less hown hbel.size
set_option maxHeartbeats 1000000 in
theorem rpoints_no (A B C : Option Addr) (n m k ca cb cc : Nat) (w : World) (hr : ¬ (n = m ∧ n = k)) :
    Calls Try.prog 14 #[.agg #[.slice A n ca, .slice B m cb, .slice C k cc]] w (PtsPost w [] 2) := by
  have HR := Lib.hid (fun w => rright_any A B C n m k ca cb cc w false (by simp; omega))
  clear hr
  obtain ⟨W, hW⟩ : ∃ W, W = w.alloc (.cells #[.slice A n ca, .slice B m cb, .slice C k cc] 41) := ⟨_, rfl⟩
  have hB : Below w.heap.size w W := by rw [hW]; exact (Below.refl _ _).alloc (Nat.le_refl _) _
  have d0 : W.cell? ⟨w.heap.size, 0, none⟩ = some (.slice A n ca) := by rw [hW]; exact cell_newk rfl rfl
  have d1 : W.cell? ⟨w.heap.size, 1, none⟩ = some (.slice B m cb) := by rw [hW]; exact cell_newk rfl rfl
  have d2 : W.cell? ⟨w.heap.size, 2, none⟩ = some (.slice C k cc) := by rw [hW]; exact cell_newk rfl rfl
  have HH := Lib.hid hW; clear hW
  go_enter Try.func14, Try.ntmps14
  go_wp2_with fail
  rw [← HH.out]
  with_reducible refine (HR.out W).mono ?_
  rintro e w1 ⟨rfl, hb1⟩
  have hbel : Below w.heap.size w w1 := hB.trans (hb1.mono hB.size)
  go_wp2
  go_ret2
  exact ⟨none, 0, rfl, World.ownsRow_nil _ _ _ _, hbel⟩
set_option maxHeartbeats 2000000 in
theorem rpoints_yes (A B C : Option Addr) (n m k ca cb cc : Nat) (x y z : Nat → Int) (w : World) (hA : Ints w A n x) (hB' : Ints w B m y) (hC : Ints w C k z) (hn : n ≤ 1000000) (hr : n = m ∧ n = k) :
    Calls Try.prog 14 #[.agg #[.slice A n ca, .slice B m cb, .slice C k cc]] w (PtsPost w (zip3 x y z n) 0) := by
  have HR := Lib.hid (fun w => rright_any A B C n m k ca cb cc w true (by simp; exact hr))
  obtain ⟨hr1, hr2⟩ := hr
  have hm1 : n ≤ m := by omega
  have hk1 : n ≤ k := by omega
  clear hr1 hr2
  obtain ⟨W, hW⟩ : ∃ W, W = w.alloc (.cells #[.slice A n ca, .slice B m cb, .slice C k cc] 41) := ⟨_, rfl⟩
  have hB : Below w.heap.size w W := by rw [hW]; exact (Below.refl _ _).alloc (Nat.le_refl _) _
  have d0 : W.cell? ⟨w.heap.size, 0, none⟩ = some (.slice A n ca) := by rw [hW]; exact cell_newk rfl rfl
  have d1 : W.cell? ⟨w.heap.size, 1, none⟩ = some (.slice B m cb) := by rw [hW]; exact cell_newk rfl rfl
  have d2 : W.cell? ⟨w.heap.size, 2, none⟩ = some (.slice C k cc) := by rw [hW]; exact cell_newk rfl rfl
  have HH := Lib.hid hW; clear hW
  go_enter Try.func14, Try.ntmps14
  go_wp2_with fail
  rw [← HH.out]
  with_reducible refine (HR.out W).mono ?_
  rintro e w1 ⟨rfl, hb1⟩
  replace d0 := cell_be hb1 d0
  replace d1 := cell_be hb1 d1
  replace d2 := cell_be hb1 d2
  have hw0 : w.heap.size < w1.heap.size := World.block_lt_of_cell? w1 _ d0
  have hbel : Below w.heap.size w w1 := hB.trans (hb1.mono hB.size)
  have hA1 : Ints w1 A n x := Cells.below hA hbel
  have hB1 : Ints w1 B m y := Cells.below hB' hbel
  have hC1 : Ints w1 C k z := Cells.below hC hbel
  clear hB hb1 hA hB' hC HH HR
  go_wp2_with fail
  go_loopw [4, 5] (PointsRel w1 n x y z) (fun _ i _ => n - (intOf i).toNat)
  case atStart => exact ⟨0, none, 0, by omega, rfl, rfl, World.ownsRow_nil _ _ _ _, Below.refl _ _⟩
  case round =>
    obtain ⟨q, A', c', hk, rfl, rfl, hown, hbl⟩ := hrel
    replace d0 := cell_be hbl d0
    replace d1 := cell_be hbl d1
    replace d2 := cell_be hbl d2
    have hsz := hbl.size
    by_cases hlt : q < n
    · obtain ⟨ba, oa, rfl, hba, hca⟩ := hA1 (by omega)
      obtain ⟨bb, ob, rfl, hbb, hcb⟩ := hB1 (by omega)
      obtain ⟨bc, oc, rfl, hbc, hcc⟩ := hC1 (by omega)
      have xa : wr.cell? ⟨ba, oa + q, none⟩ = some (.int .i64 (x q)) := (hbl.cell (p := ⟨ba, oa + q, none⟩) hba).trans (hca q hlt)
      have xb : wr.cell? ⟨bb, ob + q, none⟩ = some (.int .i64 (y q)) := (hbl.cell (p := ⟨bb, ob + q, none⟩) hbb).trans (hcb q (by omega))
      have xc : wr.cell? ⟨bc, oc + q, none⟩ = some (.int .i64 (z q)) := (hbl.cell (p := ⟨bc, oc + q, none⟩) hbc).trans (hcc q (by omega))
      clear hca hcb hcc hA1 hB1 hC1
      have i0 : (0 : Int) ≤ (q : Int) := by omega
      have i1 : (q : Int) < (m : Int) := by omega
      have i3 : (q : Int) < (n : Int) := by omega
      have i2 : (q : Int) < (k : Int) := by omega
      go_wp2_with fail
      go_region_held3 (fun w' => w'.cell? ⟨w.heap.size, 0, none⟩ = some (.slice (some ⟨ba, oa, none⟩) n ca) ∧ w'.cell? ⟨ba, oa + q, none⟩ = some (.int .i64 (x q)) ∧ w'.cell? ⟨w.heap.size, 1, none⟩ = some (.slice (some ⟨bb, ob, none⟩) m cb) ∧ w'.cell? ⟨w.heap.size, 2, none⟩ = some (.slice (some ⟨bc, oc, none⟩) k cc) ∧ w'.cell? ⟨bb, ob + q, none⟩ = some (.int .i64 (y q)) ∧ w'.cell? ⟨bc, oc + q, none⟩ = some (.int .i64 (z q)))
        (first
          | (refine ⟨?_, ?_, ?_, ?_, ?_, ?_⟩ <;> (repeat (first | (with_reducible refine cell_dr ?_) | (with_reducible refine cell_al ?_))) <;> (with_reducible first | exact d0 | exact xa | exact d1 | exact d2 | exact xb | exact xc))
          | exact ⟨far_cell hg1 hn1 (cell_dr (cell_al d0)), far_cell hg1 hn4 (cell_dr (cell_al xa)), far_cell hg1 hn1 (cell_dr (cell_al d1)), far_cell hg1 hn1 (cell_dr (cell_al d2)), far_cell hg1 hn2 (cell_dr (cell_al xb)), far_cell hg1 hn3 (cell_dr (cell_al xc))⟩)
        ((refine step_append_at ptElem (own_drew (hown.alloc _)) ((hbl.alloc hbl.size _).drew) (Nat.le_refl _) (by simp; omega) rfl _ _ rfl wr.heap.size [.int .i64 (x q), .int .i64 (y q), .int .i64 (z q)] (heap_alloc_new wr _) rfl rfl rfl (by simp [Value.oneCell']) (by unfold maxLen; omega) (by omega) ?_; intro A1 c1 w3 ho1 hb3 hg1; have hn1 := own_ne (own_drew (hown.alloc (.cells #[.int .i64 (x q), .int .i64 (y q), .int .i64 (z q)] 47))) hw0; have hn2 := own_ne (own_drew (hown.alloc (.cells #[.int .i64 (x q), .int .i64 (y q), .int .i64 (z q)] 47))) hbb; have hn3 := own_ne (own_drew (hown.alloc (.cells #[.int .i64 (x q), .int .i64 (y q), .int .i64 (z q)] 47))) hbc; have hn4 := own_ne (own_drew (hown.alloc (.cells #[.int .i64 (x q), .int .i64 (y q), .int .i64 (z q)] 47))) hba))
      go_wp2
      refine ⟨⟨q + 1, A1, c1, by omega, by go_num, rfl, ?_, hb3⟩, by simp [intOf]; omega⟩
      rw [zip3_succ, ptCells_append]; exact ho1
    · obtain rfl : q = n := by omega
      go_wp2
      go_ret2
      refine ⟨A', c', by rw [zip3_len]; rfl, ?_, hbel.trans (hbl.mono hbel.size)⟩
      rw [zip3_len]; exact own_less hown hbel.size
theorem same13 (A : Option Addr) (c : Nat) (A' : Option Addr) (c' : Nat) (n : Nat) (a : Nat → Pt) (w : World) (h : Pts w A n a) (h' : Pts w A' n a) (hn : n ≤ 1000000) :
    Calls Try.prog 15 #[.slice A n c, .slice A' n c'] w fun e w' => e = .returned (.bool true) ∧ Below w.heap.size w w' := by
  go_enter Try.func15, Try.ntmps15
  go_wp2
  go_loopw [5] (fun i wr => ∃ k nn : Nat, k ≤ n ∧ i = .int .i64 k ∧ wr = w.drewN nn) (fun i _ => n - (intOf i).toNat)
  case atStart => exact ⟨0, 0, by omega, rfl, rfl⟩
  case round =>
    obtain ⟨k, nn, hk, rfl, rfl⟩ := hrel
    by_cases hlt : k < n
    · obtain ⟨b, off, rfl, hb, hc⟩ := h (by omega)
      obtain ⟨b', off', rfl, hb', hc'⟩ := h' (by omega)
      obtain ⟨c1, c2, c3⟩ := Pts.at_ hc hlt
      obtain ⟨c4, c5, c6⟩ := Pts.at_ hc' hlt
      obtain ⟨p, hp⟩ : ∃ p, p = a k := ⟨_, rfl⟩
      rw [← hp] at c1 c2 c3 c4 c5 c6
      clear hc hc' h h' hp
      have i0 : (0 : Int) ≤ (k : Int) := by omega
      have i1 : (k : Int) < (n : Int) := by omega
      go_wp2
      go_quiet (fail)
      go_wp2
      exact ⟨⟨k + 1, nn + nq, by omega, by go_num, rfl⟩, by simp [intOf]; omega⟩
    · go_wp2
      go_ret
      exact ⟨rfl, bel_drewN (Below.refl _ _) _⟩
end Go.Proofs.Ytmdpdhdjbnhmeaa

/- The contract of gaps.Fill where holes are told: one theorem for each way. -/
import Derived.Test.YtljepnonigjcbaaGTell
import Derived.Test.YtljepnonigjcbaaGFine
import Derived.Deep.RegionHeld3
import Derived.Deep.DeepCutAuto
import Derived.Deep.AppendLies
namespace Go.Proofs.Ytljepnonigjcbaa
open Go Go.RowKit
set_option linter.unusedVariables false

theorem rowElem : Elem Try.prog 22 39 (.agg #[.int .i64 0, .int .i64 0, .bool false, .int .i64 0, .int .u64 0]) 5 40 := Elem.mk' Try.underlying22 (by kernel_rfl) rfl (by decide)
theorem own_ne {w : World} {base : Nat} {e : TypeId} {size : Nat} {v : Value} {n : Nat} {xs : List Value} (h : w.ownsRow base e size v n xs) {g : Nat} (hg : g < base) : some g ≠ v.ownBlock := fun e => by have := h.lt g e.symm; omega
theorem far_cell {w w1 : World} {row : Option Nat} (hg : w.grownBy w1 row) {g o : Nat} {u : Value} (hne : some g ≠ row) (h : w.cell? ⟨g, o, none⟩ = some u) : w1.cell? ⟨g, o, none⟩ = some u :=
  (World.cell?_of_block (hg.block g (World.block_lt_of_cell? w _ h) hne)).trans h
/-- Mem's law, where the new element's block is spelled otherwise -/
theorem wpList_append_g {P : Program} {t e : TypeId} {z : Value} {size bytes : Nat} (E : Elem P t e z size bytes) {w0 w : World} {B base : Nat} {A : Option Addr} {c0 n : Nat} {xs : List Value}
    (hown : w.ownsRow base e size (.slice A n c0) n xs) (hb : Below B w0 w) (hB : B ≤ base) (hbase : base ≤ w.heap.size) (g : Nat) (hgz : w.heap.size = g)
    {ops : Array Oper} {rest : List Oper} {o : Oper} {a : Act} {Q : Exit → Act → World → Prop} (hgd : o.guard = none) (s x : Operand)
    (ho : o.op = .call { callee := .builtin .append, args := #[s, x], argTypes := #[t, t] })
    (cs : List Value) (hs : a.eval s = .slice A n c0) (hx : a.eval x = .slice (some ⟨g, 0, none⟩) 1 1)
    (hl : cs.length = size) (h1 : ∀ u ∈ cs, u.oneCell' = true) (h63 : n + 1 ≤ maxLen) (hbytes : (n + 1) * bytes ≤ 140737488355328)
    (h : ∀ A' c' w1, w1.ownsRow base e size (.slice A' (n + 1) c') (n + 1) (xs ++ cs) → Below B w0 w1 → w.grownBy w1 (Value.ownBlock (.slice A n c0)) → wpList P ops Q rest (a.put o.dst (.slice A' (n + 1) c')) w1) :
    wpList P ops Q (o :: rest) a (w.alloc (.cells cs.toArray e)) := by
  subst hgz
  exact wpList_append_new E hown hb hB hbase hgd s x ho cs hs hx hl h1 h63 hbytes h
theorem rwCells_one (r : Rw) : ∀ u ∈ rwCells r, u.oneCell' = true := by simp [rwCells, Value.oneCell']
theorem own_cap {w : World} {base : Nat} {e : TypeId} {size : Nat} {A : Option Addr} {c n : Nat} {xs : List Value} (h : w.ownsRow base e size (.slice A n c) n xs) : (A = none → c = 0) ∧ n ≤ c ∧ c ≤ 9223372036854775807 := by
  rcases h.2 with ⟨hv, h0⟩ | ⟨g, cap, cur, hv, hb, hg, hnc, hcm, hcs, htake⟩
  · injection hv with h1 h2 h3
    subst h1 h2 h3
    exact ⟨fun _ => rfl, by omega, by omega⟩
  · injection hv with h1 h2 h3
    subst h1 h3
    refine ⟨fun e => (nomatch e), hnc, ?_⟩
    unfold maxLen at hcm; omega
theorem cell_one {w : World} {x : Value} {t : TypeId} : (w.alloc (.cells #[x] t)).cell? ⟨w.heap.size, 0, none⟩ = some x := by simp
theorem at_ptr (A : Option Addr) (R : List Rw) (c bx : Nat) (i : Int) (w : World) (hv : w.cell? ⟨bx, 0, none⟩ = some (.slice A R.length c)) (hr : RowsAt w A R) (hn : R.length ≤ 9223372036854775807) :
    Calls Try.prog 16 #[.int .i64 i, .pointer (some ⟨bx, 0, none⟩)] w fun e w' => (∃ a, e = .returned (.pointer a) ∧ PtrTo w (rowAt R i) (.pointer a)) ∧ w' = w := by
  refine (at_any A R c bx i w hv hr hn).mono ?_
  rintro e w' ⟨⟨v, rfl, hp⟩, rfl⟩
  refine ⟨?_, rfl⟩
  cases hq : rowAt R i with
  | none => rw [hq] at hp; rw [show v = .pointer none from hp]; exact ⟨none, rfl, rfl⟩
  | some r =>
    rw [hq] at hp
    obtain ⟨b, o, rfl, h⟩ := hp
    exact ⟨_, rfl, b, o, rfl, h⟩
theorem rowAt_nat (R : List Rw) (k : Nat) : rowAt R (k : Int) = R[k]? := by unfold rowAt; rw [if_pos (by omega)]; rfl
theorem rowAt_pred (R : List Rw) (k : Nat) : rowAt R ((k : Int) - 1) = if 0 < k then R[k - 1]? else none := by
  unfold rowAt
  by_cases h : 0 < k
  · rw [if_pos (by omega), if_pos h, show ((k : Int) - 1).toNat = k - 1 by omega]
  · rw [if_neg (by omega), if_neg h]
/-- what Fill tells -/
def FillPost (w : World) (O : List Rw) (k : Int) (e : Ending) (w' : World) : Prop :=
  ∃ A c, e = .returned (.tuple #[.slice A O.length c, .int .i64 k]) ∧ RowsAt w' A O ∧ (A = none → c = 0) ∧ O.length ≤ c ∧ c ≤ 9223372036854775807 ∧ Below w.heap.size w w'
def FillRel (W : World) (how : Int) (R : List Rw) (L : List (Int × Int)) (v14 v15 v51 : Value) (wr : World) : Prop :=
  ∃ (k : Nat) (A : Option Addr) (c : Nat), k ≤ L.length ∧ v51 = .int .i64 k ∧ v14 = .slice A k c ∧ v15 = .int .i64 ((fillN how R L k).2 : Nat) ∧ wr.ownsRow W.heap.size 39 5 (.slice A k c) k (cells5 (fillN how R L k).1) ∧ Below W.heap.size W wr
theorem linOk_of (R : List Rw) (L : List (Int × Int)) (hf : fineR R L) (hR : ∀ r ∈ R, rwOk r) (hL : ∀ p ∈ L, tb p.1) (k : Nat) (f : Int) (hfb : tb f) : LinOk f (rowAt R ((k : Int) - 1)) (rowAt R (k : Int)) := by
  rw [rowAt_nat, rowAt_pred]
  intro a b ha hb
  by_cases h0 : 0 < k
  · rw [if_pos h0] at ha
    obtain ⟨hk, eb⟩ := List.getElem?_eq_some_iff.1 hb
    obtain ⟨hk1, ea⟩ := List.getElem?_eq_some_iff.1 ha
    have ga : R.getD (k - 1) rw0 = a := by rw [List.getD_eq_getElem?_getD, ha]; rfl
    have gb : R.getD k rw0 = b := by rw [List.getD_eq_getElem?_getD, hb]; rfl
    have h1 := hf k hk
    have h2 := hf (k - 1) hk1
    unfold rowOk at h1 h2
    rw [gb, ga] at h1
    rw [ga] at h2
    exact ⟨(hR a (ea ▸ List.getElem_mem hk1)).2.2, (hR b (eb ▸ List.getElem_mem hk)).2.2, hL _ h2.2.1, hL _ h1.2.1, hfb, h1.2.2 h0⟩
  · rw [if_neg h0] at ha
    cases ha
set_option maxRecDepth 100000 in
set_option maxHeartbeats 4000000 in
theorem fill_1 (A : Option Addr) (R : List Rw) (c : Nat) (W S O fr to_ : Int) (L : List (Int × Int)) (w : World) (hr : RowsAt w A R) (hR : ∀ r ∈ R, rwOk r) (hRn : R.length ≤ 9223372036854775807) (hLn : L.length ≤ 65536) (hL : ∀ p ∈ L, in64' p.1 ∧ in64' p.2 ∧ tb p.1) (hf : fineR R L)
    (hall : ∀ w, Calls Try.prog 11 #[.agg #[.int .i64 W, .int .i64 S, .int .i64 O], .agg #[.int .i64 fr, .int .i64 to_]] w (PairsPost w L 0)) :
    Calls Try.prog 6 #[.slice A R.length c, .agg #[.int .i64 W, .int .i64 S, .int .i64 O], .agg #[.int .i64 fr, .int .i64 to_], .int .i64 1] w (FillPost w (fillN 1 R L L.length).1 0) := by
  have HALL := Lib.hid hall; clear hall
  have HR := Lib.hid hR; clear hR
  have HL := Lib.hid hL; clear hL
  have HF := Lib.hid hf; clear hf
  have HTL := Lib.hid (fun f t p n vp vn w hp hn hok => show Calls Try.prog 12 #[holeV f t vp vn] w (fun e w' => e = .returned (.agg #[.int .i64 (holeRow 1 p n f t).f, .int .i64 (holeRow 1 p n f t).t, .bool (holeRow 1 p n f t).z, .int .i64 (hiW (holeRow 1 p n f t).v), .int .u64 (loW (holeRow 1 p n f t).v)]) ∧ Below w.heap.size w w') from tell_any 1 f t p n vp vn w hp hn hok)
  go_enter Try.func6, Try.ntmps6
  go_wp2_with fail
  with_reducible refine (HALL.out _).mono ?_
  rintro e w1 ⟨B, cB, rfl, hpr, hb1⟩
  have hbx : w1.cell? ⟨w.heap.size, 0, none⟩ = some (.slice A R.length c) := cell_be hb1 (cell_al (cell_al cell_one))
  have hbel1 : Below w.heap.size w w1 := bel_step ((((Below.refl _ w).alloc (Nat.le_refl _) _).alloc (by simp) _).alloc (by simp; omega) _) (Nat.le_refl _) hb1
  have hr1 := hr.below hbel1
  have hlt1 : w.heap.size < w1.heap.size := World.block_lt_of_cell? _ _ hbx
  clear hb1 hr
  have HFI := Lib.hid (fine_any A B R L c cB w1 hr1 hpr HR.out (fun p hp => ⟨(HL.out p hp).1, (HL.out p hp).2.1⟩) hRn hLn true (by simp; exact HF.out))
  go_wp2_with fail
  with_reducible refine HFI.out.mono ?_
  rintro e w2 ⟨rfl, hb2⟩
  replace hbx := cell_be hb2 hbx
  replace hr1 := hr1.below hb2
  replace hpr := Cells.below hpr hb2
  replace hbel1 := bel_step hbel1 (Nat.le_refl _) hb2
  have hlt2 : w.heap.size < w2.heap.size := by have := hb2.size; omega
  clear hb2 HFI hlt1
  go_wp2_with fail
  go_loopw [14, 15, 51] (FillRel w2 1 R L) (fun _ _ i _ => L.length - (intOf i).toNat)
  case atStart => exact ⟨0, none, 0, by omega, rfl, rfl, rfl, World.ownsRow_nil _ _ _ _, Below.refl _ _⟩
  case round =>
    obtain ⟨k, A', c', hk, rfl, rfl, rfl, hown, hbl⟩ := hrel
    have hsz := hbl.size
    by_cases hlt : k < L.length
    · obtain ⟨b, off, rfl, hb, hc⟩ := hpr (by omega)
      obtain ⟨q1, q2⟩ := Pairs.at_ hc hlt
      have c1 := (hbl.cell (p := ⟨b, off + k * 2, none⟩) hb).trans q1
      have c2 := (hbl.cell (p := ⟨b, off + k * 2 + 1, none⟩) hb).trans q2
      have hvr : wr.cell? ⟨w.heap.size, 0, none⟩ = some (.slice A R.length c) := cell_be hbl hbx
      have hrr := hr1.below hbl
      have htb := (HL.out _ (getD_mem L k (0, 0) hlt)).2.2
      have hle := fillN_le 1 R L k
      have hhit := @fillN_hit 1 R L k
      have hmiss := @fillN_miss 1 R L k
      obtain ⟨⟨x, y⟩, hp⟩ : ∃ p, p = L.getD k (0, 0) := ⟨_, rfl⟩
      rw [← hp] at c1 c2 htb hhit hmiss
      dsimp only at c1 c2 htb hhit hmiss
      obtain ⟨nx, hnx⟩ : ∃ nx, nx = (fillN 1 R L k).2 := ⟨_, rfl⟩
      rw [← hnx] at hle hhit hmiss ⊢
      clear q1 q2 hc hp hnx
      have HH := Lib.hid hhit; clear hhit
      have HM := Lib.hid hmiss; clear hmiss
      have hbl' : b < wr.heap.size := by omega
      have hlr : w.heap.size < wr.heap.size := by omega
      by_cases hn : nx < R.length
      · obtain ⟨rb, ro, rfl, hrb, hrc⟩ := hrr (by omega)
        obtain ⟨z0, z1, z2, z3, z4⟩ := RowsAt.at_ hrc hn
        have hn' : (nx : Int) < (R.length : Int) := by omega
        obtain ⟨r, hr0⟩ : ∃ r, r = R.getD nx rw0 := ⟨_, rfl⟩
        rw [← hr0] at z0 z1 z2 z3 z4
        by_cases he : r.f = x
        · have HB := Lib.hid (HH.out hn (by rw [← hr0]; exact he)); clear HH HM
          rw [← hr0] at HB
          subst he
          have hd : (r.f == r.f) = true := by simp
          clear hrc hr0
          go_wp2_with fail
          go_quiet (fail)
          have h63 : k + 1 ≤ maxLen := Nat.le_trans (show k + 1 ≤ 65536 by omega) (by decide)
          have hby : (k + 1) * 40 ≤ 140737488355328 := by omega
          have hbq := bel_drewN (hbl.alloc hbl.size (.cells #[.int .i64 r.f, .int .i64 y] 52)) nq
          go_wp2_with (at_builtin; refine wpList_append_g rowElem (own_drewN (hown.alloc (.cells #[.int .i64 r.f, .int .i64 y] 52)) nq) hbq (Nat.le_refl _) hbq.size (wr.heap.size + 1) (by simp) rfl _ _ rfl (rwCells r) rfl rfl rfl (rwCells_one _) h63 hby ?_; intro A1 c1 w3 ho1 hb3 hg1)
          refine ⟨⟨k + 1, A1, c1, by omega, by go_num, rfl, by rw [HB.out]; go_num, ?_, hb3⟩, by simp [intOf]; omega⟩
          rw [HB.out, cells5_append, cells5_one]
          exact ho1
        · have hd : (r.f == x) = false := by simpa using he
          have HB := Lib.hid (HM.out (by rw [← hr0]; exact fun h => he h.2)); clear HH HM
          clear hrc hr0
          go_wp2_with fail
          go_quiet (fail)
          obtain ⟨Wn, hWn⟩ : ∃ Wn, Wn = (wr.alloc (.cells #[.int .i64 x, .int .i64 y] 52)).drewN nq := ⟨_, rfl⟩
          have s0 : Wn.cell? ⟨wr.heap.size, 0, none⟩ = some (.int .i64 x) := by rw [hWn]; exact cell_drN (cell_new0 rfl)
          have s1 : Wn.cell? ⟨wr.heap.size, 1, none⟩ = some (.int .i64 y) := by rw [hWn]; exact cell_drN (cell_new1 rfl)
          have hbn : Below wr.heap.size wr Wn := by rw [hWn]; exact bel_drewN ((Below.refl _ _).alloc (Nat.le_refl _) _) nq
          have hszn : Wn.heap.size = wr.heap.size + 1 := by rw [hWn]; simp
          have hoW := own_below hown hbn
          have hbW := bel_step hbl (Nat.le_refl _) hbn
          have hv := cell_be hbn hvr
          have hrW := hrr.below hbn
          have hrD := hrW.below (Below.refl Wn.heap.size Wn).drew
          have h63 : k + 1 ≤ maxLen := Nat.le_trans (show k + 1 ≤ 65536 by omega) (by decide)
          have hby : (k + 1) * 40 ≤ 140737488355328 := by omega
          have hn1 : some wr.heap.size ≠ Value.ownBlock (.slice A' k c') := fun e => by have := (hown.lt _ e.symm).2; omega
          have hlk : (1 : Int) = 3 → LinOk x (rowAt R ((nx : Int) - 1)) (rowAt R (nx : Int)) := fun _ => linOk_of R L HF.out HR.out (fun p hp => (HL.out p hp).2.2) nx x htb
          have ew : IntKind.i64.wrap ((nx : Int) - 1) = (nx : Int) - 1 := IntWalk.i64_in _ (by omega)
          rw [← hWn]
          clear hWn hown hbl hbn hvr hrr c1 c2
          go_upto_region 26 with fail
          go_region_held3 (fun w' => w'.cell? ⟨wr.heap.size, 0, none⟩ = some (.int .i64 x) ∧ w'.cell? ⟨wr.heap.size, 1, none⟩ = some (.int .i64 y))
          (first
              | (refine ⟨?_, ?_⟩ <;> (repeat (first | (with_reducible refine cell_dr ?_) | (with_reducible refine cell_al ?_) | (with_reducible refine cell_be hbq ?_))) <;> (with_reducible first | exact s0 | exact s1))
              | exact ⟨far_cell hg1 hn1 (cell_al (cell_be hbq (cell_dr s0))), far_cell hg1 hn1 (cell_al (cell_be hbq (cell_dr s1)))⟩)
          (first
              | (go_at_call 16; have _t := hp1; refine (at_ptr _ R c w.heap.size (nx : Int) _ (cell_dr hv) hrD hRn).mono ?_; rintro e q ⟨⟨a2, rfl, hp2⟩, rfl⟩)
              | (go_at_call 16; refine (at_ptr _ R c w.heap.size ((nx : Int) - 1) _ (cell_dr hv) hrD hRn).mono ?_; rintro e q ⟨⟨a1, rfl, hp1⟩, rfl⟩)
              | (go_at_call 12; refine (HTL.out x y _ _ (.pointer a1) (.pointer a2) _ hp1 hp2 hlk).mono ?_; rintro e q ⟨rfl, hbq⟩)
              | (have hb4 := (bel_step hbW.drew (Nat.le_refl _) hbq).alloc (bel_step hbW.drew (Nat.le_refl _) hbq).size (.cells (rwCells (holeRow 1 (rowAt R ((nx : Int) - 1)) (rowAt R (nx : Int)) x y)).toArray 39); refine step_append_at rowElem ((own_below (own_drew hoW) hbq).alloc _) hb4 (Nat.le_refl _) hb4.size rfl _ _ rfl q.heap.size (rwCells (holeRow 1 (rowAt R ((nx : Int) - 1)) (rowAt R (nx : Int)) x y)) (heap_alloc_new q _) rfl rfl rfl (rwCells_one _) h63 hby ?_; intro A1 c1 w3 ho1 hb3 hg1))
          go_wp2
          refine ⟨⟨k + 1, A1, c1, by omega, by go_num, rfl, by rw [HB.out], ?_, hb3⟩, by simp [intOf]; omega⟩
          rw [rowAt_pred, rowAt_nat] at ho1
          rw [HB.out, cells5_append, cells5_one]
          exact ho1
      · have hn' : ¬ (nx : Int) < (R.length : Int) := by omega
        have HB := Lib.hid (HM.out (fun h => hn h.1)); clear HH HM
        go_wp2_with fail
        go_quiet (fail)
        obtain ⟨Wn, hWn⟩ : ∃ Wn, Wn = (wr.alloc (.cells #[.int .i64 x, .int .i64 y] 52)).drewN nq := ⟨_, rfl⟩
        have s0 : Wn.cell? ⟨wr.heap.size, 0, none⟩ = some (.int .i64 x) := by rw [hWn]; exact cell_drN (cell_new0 rfl)
        have s1 : Wn.cell? ⟨wr.heap.size, 1, none⟩ = some (.int .i64 y) := by rw [hWn]; exact cell_drN (cell_new1 rfl)
        have hbn : Below wr.heap.size wr Wn := by rw [hWn]; exact bel_drewN ((Below.refl _ _).alloc (Nat.le_refl _) _) nq
        have hszn : Wn.heap.size = wr.heap.size + 1 := by rw [hWn]; simp
        have hoW := own_below hown hbn
        have hbW := bel_step hbl (Nat.le_refl _) hbn
        have hv := cell_be hbn hvr
        have hrW := hrr.below hbn
        have hrD := hrW.below (Below.refl Wn.heap.size Wn).drew
        have h63 : k + 1 ≤ maxLen := Nat.le_trans (show k + 1 ≤ 65536 by omega) (by decide)
        have hby : (k + 1) * 40 ≤ 140737488355328 := by omega
        have hn1 : some wr.heap.size ≠ Value.ownBlock (.slice A' k c') := fun e => by have := (hown.lt _ e.symm).2; omega
        have hlk : (1 : Int) = 3 → LinOk x (rowAt R ((nx : Int) - 1)) (rowAt R (nx : Int)) := fun _ => linOk_of R L HF.out HR.out (fun p hp => (HL.out p hp).2.2) nx x htb
        have ew : IntKind.i64.wrap ((nx : Int) - 1) = (nx : Int) - 1 := IntWalk.i64_in _ (by omega)
        rw [← hWn]
        clear hWn hown hbl hbn hvr hrr c1 c2
        go_upto_region 26 with fail
        go_region_held3 (fun w' => w'.cell? ⟨wr.heap.size, 0, none⟩ = some (.int .i64 x) ∧ w'.cell? ⟨wr.heap.size, 1, none⟩ = some (.int .i64 y))
        (first
            | (refine ⟨?_, ?_⟩ <;> (repeat (first | (with_reducible refine cell_dr ?_) | (with_reducible refine cell_al ?_) | (with_reducible refine cell_be hbq ?_))) <;> (with_reducible first | exact s0 | exact s1))
            | exact ⟨far_cell hg1 hn1 (cell_al (cell_be hbq (cell_dr s0))), far_cell hg1 hn1 (cell_al (cell_be hbq (cell_dr s1)))⟩)
        (first
            | (go_at_call 16; have _t := hp1; refine (at_ptr _ R c w.heap.size (nx : Int) _ (cell_dr hv) hrD hRn).mono ?_; rintro e q ⟨⟨a2, rfl, hp2⟩, rfl⟩)
            | (go_at_call 16; refine (at_ptr _ R c w.heap.size ((nx : Int) - 1) _ (cell_dr hv) hrD hRn).mono ?_; rintro e q ⟨⟨a1, rfl, hp1⟩, rfl⟩)
            | (go_at_call 12; refine (HTL.out x y _ _ (.pointer a1) (.pointer a2) _ hp1 hp2 hlk).mono ?_; rintro e q ⟨rfl, hbq⟩)
            | (have hb4 := (bel_step hbW.drew (Nat.le_refl _) hbq).alloc (bel_step hbW.drew (Nat.le_refl _) hbq).size (.cells (rwCells (holeRow 1 (rowAt R ((nx : Int) - 1)) (rowAt R (nx : Int)) x y)).toArray 39); refine step_append_at rowElem ((own_below (own_drew hoW) hbq).alloc _) hb4 (Nat.le_refl _) hb4.size rfl _ _ rfl q.heap.size (rwCells (holeRow 1 (rowAt R ((nx : Int) - 1)) (rowAt R (nx : Int)) x y)) (heap_alloc_new q _) rfl rfl rfl (rwCells_one _) h63 hby ?_; intro A1 c1 w3 ho1 hb3 hg1))
        go_wp2
        refine ⟨⟨k + 1, A1, c1, by omega, by go_num, rfl, by rw [HB.out], ?_, hb3⟩, by simp [intOf]; omega⟩
        rw [rowAt_pred, rowAt_nat] at ho1
        rw [HB.out, cells5_append, cells5_one]
        exact ho1
    · obtain rfl : k = L.length := by omega
      go_wp2
      go_ret2
      have hl := fillN_length 1 R L L.length
      have hc := own_cap hown
      refine ⟨A', c', by rw [hl]; rfl, RowsAt.of_own (base := w2.heap.size) (c := c') (e := 39) (by rw [hl]; exact hown), hc.1, by rw [hl]; exact hc.2.1, hc.2.2, bel_step hbel1 (Nat.le_refl _) hbl⟩
set_option maxRecDepth 100000 in
set_option maxHeartbeats 4000000 in
theorem fill_2 (A : Option Addr) (R : List Rw) (c : Nat) (W S O fr to_ : Int) (L : List (Int × Int)) (w : World) (hr : RowsAt w A R) (hR : ∀ r ∈ R, rwOk r) (hRn : R.length ≤ 9223372036854775807) (hLn : L.length ≤ 65536) (hL : ∀ p ∈ L, in64' p.1 ∧ in64' p.2 ∧ tb p.1) (hf : fineR R L)
    (hall : ∀ w, Calls Try.prog 11 #[.agg #[.int .i64 W, .int .i64 S, .int .i64 O], .agg #[.int .i64 fr, .int .i64 to_]] w (PairsPost w L 0)) :
    Calls Try.prog 6 #[.slice A R.length c, .agg #[.int .i64 W, .int .i64 S, .int .i64 O], .agg #[.int .i64 fr, .int .i64 to_], .int .i64 2] w (FillPost w (fillN 2 R L L.length).1 0) := by
  have HALL := Lib.hid hall; clear hall
  have HR := Lib.hid hR; clear hR
  have HL := Lib.hid hL; clear hL
  have HF := Lib.hid hf; clear hf
  have HTL := Lib.hid (fun f t p n vp vn w hp hn hok => show Calls Try.prog 13 #[holeV f t vp vn] w (fun e w' => e = .returned (.agg #[.int .i64 (holeRow 2 p n f t).f, .int .i64 (holeRow 2 p n f t).t, .bool (holeRow 2 p n f t).z, .int .i64 (hiW (holeRow 2 p n f t).v), .int .u64 (loW (holeRow 2 p n f t).v)]) ∧ Below w.heap.size w w') from tell_any 2 f t p n vp vn w hp hn hok)
  go_enter Try.func6, Try.ntmps6
  go_wp2_with fail
  with_reducible refine (HALL.out _).mono ?_
  rintro e w1 ⟨B, cB, rfl, hpr, hb1⟩
  have hbx : w1.cell? ⟨w.heap.size, 0, none⟩ = some (.slice A R.length c) := cell_be hb1 (cell_al (cell_al cell_one))
  have hbel1 : Below w.heap.size w w1 := bel_step ((((Below.refl _ w).alloc (Nat.le_refl _) _).alloc (by simp) _).alloc (by simp; omega) _) (Nat.le_refl _) hb1
  have hr1 := hr.below hbel1
  have hlt1 : w.heap.size < w1.heap.size := World.block_lt_of_cell? _ _ hbx
  clear hb1 hr
  have HFI := Lib.hid (fine_any A B R L c cB w1 hr1 hpr HR.out (fun p hp => ⟨(HL.out p hp).1, (HL.out p hp).2.1⟩) hRn hLn true (by simp; exact HF.out))
  go_wp2_with fail
  with_reducible refine HFI.out.mono ?_
  rintro e w2 ⟨rfl, hb2⟩
  replace hbx := cell_be hb2 hbx
  replace hr1 := hr1.below hb2
  replace hpr := Cells.below hpr hb2
  replace hbel1 := bel_step hbel1 (Nat.le_refl _) hb2
  have hlt2 : w.heap.size < w2.heap.size := by have := hb2.size; omega
  clear hb2 HFI hlt1
  go_wp2_with fail
  go_loopw [14, 15, 51] (FillRel w2 2 R L) (fun _ _ i _ => L.length - (intOf i).toNat)
  case atStart => exact ⟨0, none, 0, by omega, rfl, rfl, rfl, World.ownsRow_nil _ _ _ _, Below.refl _ _⟩
  case round =>
    obtain ⟨k, A', c', hk, rfl, rfl, rfl, hown, hbl⟩ := hrel
    have hsz := hbl.size
    by_cases hlt : k < L.length
    · obtain ⟨b, off, rfl, hb, hc⟩ := hpr (by omega)
      obtain ⟨q1, q2⟩ := Pairs.at_ hc hlt
      have c1 := (hbl.cell (p := ⟨b, off + k * 2, none⟩) hb).trans q1
      have c2 := (hbl.cell (p := ⟨b, off + k * 2 + 1, none⟩) hb).trans q2
      have hvr : wr.cell? ⟨w.heap.size, 0, none⟩ = some (.slice A R.length c) := cell_be hbl hbx
      have hrr := hr1.below hbl
      have htb := (HL.out _ (getD_mem L k (0, 0) hlt)).2.2
      have hle := fillN_le 2 R L k
      have hhit := @fillN_hit 2 R L k
      have hmiss := @fillN_miss 2 R L k
      obtain ⟨⟨x, y⟩, hp⟩ : ∃ p, p = L.getD k (0, 0) := ⟨_, rfl⟩
      rw [← hp] at c1 c2 htb hhit hmiss
      dsimp only at c1 c2 htb hhit hmiss
      obtain ⟨nx, hnx⟩ : ∃ nx, nx = (fillN 2 R L k).2 := ⟨_, rfl⟩
      rw [← hnx] at hle hhit hmiss ⊢
      clear q1 q2 hc hp hnx
      have HH := Lib.hid hhit; clear hhit
      have HM := Lib.hid hmiss; clear hmiss
      have hbl' : b < wr.heap.size := by omega
      have hlr : w.heap.size < wr.heap.size := by omega
      by_cases hn : nx < R.length
      · obtain ⟨rb, ro, rfl, hrb, hrc⟩ := hrr (by omega)
        obtain ⟨z0, z1, z2, z3, z4⟩ := RowsAt.at_ hrc hn
        have hn' : (nx : Int) < (R.length : Int) := by omega
        obtain ⟨r, hr0⟩ : ∃ r, r = R.getD nx rw0 := ⟨_, rfl⟩
        rw [← hr0] at z0 z1 z2 z3 z4
        by_cases he : r.f = x
        · have HB := Lib.hid (HH.out hn (by rw [← hr0]; exact he)); clear HH HM
          rw [← hr0] at HB
          subst he
          have hd : (r.f == r.f) = true := by simp
          clear hrc hr0
          go_wp2_with fail
          go_quiet (fail)
          have h63 : k + 1 ≤ maxLen := Nat.le_trans (show k + 1 ≤ 65536 by omega) (by decide)
          have hby : (k + 1) * 40 ≤ 140737488355328 := by omega
          have hbq := bel_drewN (hbl.alloc hbl.size (.cells #[.int .i64 r.f, .int .i64 y] 52)) nq
          go_wp2_with (at_builtin; refine wpList_append_g rowElem (own_drewN (hown.alloc (.cells #[.int .i64 r.f, .int .i64 y] 52)) nq) hbq (Nat.le_refl _) hbq.size (wr.heap.size + 1) (by simp) rfl _ _ rfl (rwCells r) rfl rfl rfl (rwCells_one _) h63 hby ?_; intro A1 c1 w3 ho1 hb3 hg1)
          refine ⟨⟨k + 1, A1, c1, by omega, by go_num, rfl, by rw [HB.out]; go_num, ?_, hb3⟩, by simp [intOf]; omega⟩
          rw [HB.out, cells5_append, cells5_one]
          exact ho1
        · have hd : (r.f == x) = false := by simpa using he
          have HB := Lib.hid (HM.out (by rw [← hr0]; exact fun h => he h.2)); clear HH HM
          clear hrc hr0
          go_wp2_with fail
          go_quiet (fail)
          obtain ⟨Wn, hWn⟩ : ∃ Wn, Wn = (wr.alloc (.cells #[.int .i64 x, .int .i64 y] 52)).drewN nq := ⟨_, rfl⟩
          have s0 : Wn.cell? ⟨wr.heap.size, 0, none⟩ = some (.int .i64 x) := by rw [hWn]; exact cell_drN (cell_new0 rfl)
          have s1 : Wn.cell? ⟨wr.heap.size, 1, none⟩ = some (.int .i64 y) := by rw [hWn]; exact cell_drN (cell_new1 rfl)
          have hbn : Below wr.heap.size wr Wn := by rw [hWn]; exact bel_drewN ((Below.refl _ _).alloc (Nat.le_refl _) _) nq
          have hszn : Wn.heap.size = wr.heap.size + 1 := by rw [hWn]; simp
          have hoW := own_below hown hbn
          have hbW := bel_step hbl (Nat.le_refl _) hbn
          have hv := cell_be hbn hvr
          have hrW := hrr.below hbn
          have hrD := hrW.below (Below.refl Wn.heap.size Wn).drew
          have h63 : k + 1 ≤ maxLen := Nat.le_trans (show k + 1 ≤ 65536 by omega) (by decide)
          have hby : (k + 1) * 40 ≤ 140737488355328 := by omega
          have hn1 : some wr.heap.size ≠ Value.ownBlock (.slice A' k c') := fun e => by have := (hown.lt _ e.symm).2; omega
          have hlk : (2 : Int) = 3 → LinOk x (rowAt R ((nx : Int) - 1)) (rowAt R (nx : Int)) := fun _ => linOk_of R L HF.out HR.out (fun p hp => (HL.out p hp).2.2) nx x htb
          have ew : IntKind.i64.wrap ((nx : Int) - 1) = (nx : Int) - 1 := IntWalk.i64_in _ (by omega)
          rw [← hWn]
          clear hWn hown hbl hbn hvr hrr c1 c2
          go_upto_region 26 with fail
          go_region_held3 (fun w' => w'.cell? ⟨wr.heap.size, 0, none⟩ = some (.int .i64 x) ∧ w'.cell? ⟨wr.heap.size, 1, none⟩ = some (.int .i64 y))
          (first
              | (refine ⟨?_, ?_⟩ <;> (repeat (first | (with_reducible refine cell_dr ?_) | (with_reducible refine cell_al ?_) | (with_reducible refine cell_be hbq ?_))) <;> (with_reducible first | exact s0 | exact s1))
              | exact ⟨far_cell hg1 hn1 (cell_al (cell_be hbq (cell_dr s0))), far_cell hg1 hn1 (cell_al (cell_be hbq (cell_dr s1)))⟩)
          (first
              | (go_at_call 16; have _t := hp1; refine (at_ptr _ R c w.heap.size (nx : Int) _ (cell_dr hv) hrD hRn).mono ?_; rintro e q ⟨⟨a2, rfl, hp2⟩, rfl⟩)
              | (go_at_call 16; refine (at_ptr _ R c w.heap.size ((nx : Int) - 1) _ (cell_dr hv) hrD hRn).mono ?_; rintro e q ⟨⟨a1, rfl, hp1⟩, rfl⟩)
              | (go_at_call 13; refine (HTL.out x y _ _ (.pointer a1) (.pointer a2) _ hp1 hp2 hlk).mono ?_; rintro e q ⟨rfl, hbq⟩)
              | (have hb4 := (bel_step hbW.drew (Nat.le_refl _) hbq).alloc (bel_step hbW.drew (Nat.le_refl _) hbq).size (.cells (rwCells (holeRow 2 (rowAt R ((nx : Int) - 1)) (rowAt R (nx : Int)) x y)).toArray 39); refine step_append_at rowElem ((own_below (own_drew hoW) hbq).alloc _) hb4 (Nat.le_refl _) hb4.size rfl _ _ rfl q.heap.size (rwCells (holeRow 2 (rowAt R ((nx : Int) - 1)) (rowAt R (nx : Int)) x y)) (heap_alloc_new q _) rfl rfl rfl (rwCells_one _) h63 hby ?_; intro A1 c1 w3 ho1 hb3 hg1))
          go_wp2
          refine ⟨⟨k + 1, A1, c1, by omega, by go_num, rfl, by rw [HB.out], ?_, hb3⟩, by simp [intOf]; omega⟩
          rw [rowAt_pred, rowAt_nat] at ho1
          rw [HB.out, cells5_append, cells5_one]
          exact ho1
      · have hn' : ¬ (nx : Int) < (R.length : Int) := by omega
        have HB := Lib.hid (HM.out (fun h => hn h.1)); clear HH HM
        go_wp2_with fail
        go_quiet (fail)
        obtain ⟨Wn, hWn⟩ : ∃ Wn, Wn = (wr.alloc (.cells #[.int .i64 x, .int .i64 y] 52)).drewN nq := ⟨_, rfl⟩
        have s0 : Wn.cell? ⟨wr.heap.size, 0, none⟩ = some (.int .i64 x) := by rw [hWn]; exact cell_drN (cell_new0 rfl)
        have s1 : Wn.cell? ⟨wr.heap.size, 1, none⟩ = some (.int .i64 y) := by rw [hWn]; exact cell_drN (cell_new1 rfl)
        have hbn : Below wr.heap.size wr Wn := by rw [hWn]; exact bel_drewN ((Below.refl _ _).alloc (Nat.le_refl _) _) nq
        have hszn : Wn.heap.size = wr.heap.size + 1 := by rw [hWn]; simp
        have hoW := own_below hown hbn
        have hbW := bel_step hbl (Nat.le_refl _) hbn
        have hv := cell_be hbn hvr
        have hrW := hrr.below hbn
        have hrD := hrW.below (Below.refl Wn.heap.size Wn).drew
        have h63 : k + 1 ≤ maxLen := Nat.le_trans (show k + 1 ≤ 65536 by omega) (by decide)
        have hby : (k + 1) * 40 ≤ 140737488355328 := by omega
        have hn1 : some wr.heap.size ≠ Value.ownBlock (.slice A' k c') := fun e => by have := (hown.lt _ e.symm).2; omega
        have hlk : (2 : Int) = 3 → LinOk x (rowAt R ((nx : Int) - 1)) (rowAt R (nx : Int)) := fun _ => linOk_of R L HF.out HR.out (fun p hp => (HL.out p hp).2.2) nx x htb
        have ew : IntKind.i64.wrap ((nx : Int) - 1) = (nx : Int) - 1 := IntWalk.i64_in _ (by omega)
        rw [← hWn]
        clear hWn hown hbl hbn hvr hrr c1 c2
        go_upto_region 26 with fail
        go_region_held3 (fun w' => w'.cell? ⟨wr.heap.size, 0, none⟩ = some (.int .i64 x) ∧ w'.cell? ⟨wr.heap.size, 1, none⟩ = some (.int .i64 y))
        (first
            | (refine ⟨?_, ?_⟩ <;> (repeat (first | (with_reducible refine cell_dr ?_) | (with_reducible refine cell_al ?_) | (with_reducible refine cell_be hbq ?_))) <;> (with_reducible first | exact s0 | exact s1))
            | exact ⟨far_cell hg1 hn1 (cell_al (cell_be hbq (cell_dr s0))), far_cell hg1 hn1 (cell_al (cell_be hbq (cell_dr s1)))⟩)
        (first
            | (go_at_call 16; have _t := hp1; refine (at_ptr _ R c w.heap.size (nx : Int) _ (cell_dr hv) hrD hRn).mono ?_; rintro e q ⟨⟨a2, rfl, hp2⟩, rfl⟩)
            | (go_at_call 16; refine (at_ptr _ R c w.heap.size ((nx : Int) - 1) _ (cell_dr hv) hrD hRn).mono ?_; rintro e q ⟨⟨a1, rfl, hp1⟩, rfl⟩)
            | (go_at_call 13; refine (HTL.out x y _ _ (.pointer a1) (.pointer a2) _ hp1 hp2 hlk).mono ?_; rintro e q ⟨rfl, hbq⟩)
            | (have hb4 := (bel_step hbW.drew (Nat.le_refl _) hbq).alloc (bel_step hbW.drew (Nat.le_refl _) hbq).size (.cells (rwCells (holeRow 2 (rowAt R ((nx : Int) - 1)) (rowAt R (nx : Int)) x y)).toArray 39); refine step_append_at rowElem ((own_below (own_drew hoW) hbq).alloc _) hb4 (Nat.le_refl _) hb4.size rfl _ _ rfl q.heap.size (rwCells (holeRow 2 (rowAt R ((nx : Int) - 1)) (rowAt R (nx : Int)) x y)) (heap_alloc_new q _) rfl rfl rfl (rwCells_one _) h63 hby ?_; intro A1 c1 w3 ho1 hb3 hg1))
        go_wp2
        refine ⟨⟨k + 1, A1, c1, by omega, by go_num, rfl, by rw [HB.out], ?_, hb3⟩, by simp [intOf]; omega⟩
        rw [rowAt_pred, rowAt_nat] at ho1
        rw [HB.out, cells5_append, cells5_one]
        exact ho1
    · obtain rfl : k = L.length := by omega
      go_wp2
      go_ret2
      have hl := fillN_length 2 R L L.length
      have hc := own_cap hown
      refine ⟨A', c', by rw [hl]; rfl, RowsAt.of_own (base := w2.heap.size) (c := c') (e := 39) (by rw [hl]; exact hown), hc.1, by rw [hl]; exact hc.2.1, hc.2.2, bel_step hbel1 (Nat.le_refl _) hbl⟩
set_option maxRecDepth 100000 in
set_option maxHeartbeats 4000000 in
theorem fill_3 (A : Option Addr) (R : List Rw) (c : Nat) (W S O fr to_ : Int) (L : List (Int × Int)) (w : World) (hr : RowsAt w A R) (hR : ∀ r ∈ R, rwOk r) (hRn : R.length ≤ 9223372036854775807) (hLn : L.length ≤ 65536) (hL : ∀ p ∈ L, in64' p.1 ∧ in64' p.2 ∧ tb p.1) (hf : fineR R L)
    (hall : ∀ w, Calls Try.prog 11 #[.agg #[.int .i64 W, .int .i64 S, .int .i64 O], .agg #[.int .i64 fr, .int .i64 to_]] w (PairsPost w L 0)) :
    Calls Try.prog 6 #[.slice A R.length c, .agg #[.int .i64 W, .int .i64 S, .int .i64 O], .agg #[.int .i64 fr, .int .i64 to_], .int .i64 3] w (FillPost w (fillN 3 R L L.length).1 0) := by
  have HALL := Lib.hid hall; clear hall
  have HR := Lib.hid hR; clear hR
  have HL := Lib.hid hL; clear hL
  have HF := Lib.hid hf; clear hf
  have HTL := Lib.hid (fun f t p n vp vn w hp hn hok => show Calls Try.prog 14 #[holeV f t vp vn] w (fun e w' => e = .returned (.agg #[.int .i64 (holeRow 3 p n f t).f, .int .i64 (holeRow 3 p n f t).t, .bool (holeRow 3 p n f t).z, .int .i64 (hiW (holeRow 3 p n f t).v), .int .u64 (loW (holeRow 3 p n f t).v)]) ∧ Below w.heap.size w w') from tell_any 3 f t p n vp vn w hp hn hok)
  go_enter Try.func6, Try.ntmps6
  go_wp2_with fail
  with_reducible refine (HALL.out _).mono ?_
  rintro e w1 ⟨B, cB, rfl, hpr, hb1⟩
  have hbx : w1.cell? ⟨w.heap.size, 0, none⟩ = some (.slice A R.length c) := cell_be hb1 (cell_al (cell_al cell_one))
  have hbel1 : Below w.heap.size w w1 := bel_step ((((Below.refl _ w).alloc (Nat.le_refl _) _).alloc (by simp) _).alloc (by simp; omega) _) (Nat.le_refl _) hb1
  have hr1 := hr.below hbel1
  have hlt1 : w.heap.size < w1.heap.size := World.block_lt_of_cell? _ _ hbx
  clear hb1 hr
  have HFI := Lib.hid (fine_any A B R L c cB w1 hr1 hpr HR.out (fun p hp => ⟨(HL.out p hp).1, (HL.out p hp).2.1⟩) hRn hLn true (by simp; exact HF.out))
  go_wp2_with fail
  with_reducible refine HFI.out.mono ?_
  rintro e w2 ⟨rfl, hb2⟩
  replace hbx := cell_be hb2 hbx
  replace hr1 := hr1.below hb2
  replace hpr := Cells.below hpr hb2
  replace hbel1 := bel_step hbel1 (Nat.le_refl _) hb2
  have hlt2 : w.heap.size < w2.heap.size := by have := hb2.size; omega
  clear hb2 HFI hlt1
  go_wp2_with fail
  go_loopw [14, 15, 51] (FillRel w2 3 R L) (fun _ _ i _ => L.length - (intOf i).toNat)
  case atStart => exact ⟨0, none, 0, by omega, rfl, rfl, rfl, World.ownsRow_nil _ _ _ _, Below.refl _ _⟩
  case round =>
    obtain ⟨k, A', c', hk, rfl, rfl, rfl, hown, hbl⟩ := hrel
    have hsz := hbl.size
    by_cases hlt : k < L.length
    · obtain ⟨b, off, rfl, hb, hc⟩ := hpr (by omega)
      obtain ⟨q1, q2⟩ := Pairs.at_ hc hlt
      have c1 := (hbl.cell (p := ⟨b, off + k * 2, none⟩) hb).trans q1
      have c2 := (hbl.cell (p := ⟨b, off + k * 2 + 1, none⟩) hb).trans q2
      have hvr : wr.cell? ⟨w.heap.size, 0, none⟩ = some (.slice A R.length c) := cell_be hbl hbx
      have hrr := hr1.below hbl
      have htb := (HL.out _ (getD_mem L k (0, 0) hlt)).2.2
      have hle := fillN_le 3 R L k
      have hhit := @fillN_hit 3 R L k
      have hmiss := @fillN_miss 3 R L k
      obtain ⟨⟨x, y⟩, hp⟩ : ∃ p, p = L.getD k (0, 0) := ⟨_, rfl⟩
      rw [← hp] at c1 c2 htb hhit hmiss
      dsimp only at c1 c2 htb hhit hmiss
      obtain ⟨nx, hnx⟩ : ∃ nx, nx = (fillN 3 R L k).2 := ⟨_, rfl⟩
      rw [← hnx] at hle hhit hmiss ⊢
      clear q1 q2 hc hp hnx
      have HH := Lib.hid hhit; clear hhit
      have HM := Lib.hid hmiss; clear hmiss
      have hbl' : b < wr.heap.size := by omega
      have hlr : w.heap.size < wr.heap.size := by omega
      by_cases hn : nx < R.length
      · obtain ⟨rb, ro, rfl, hrb, hrc⟩ := hrr (by omega)
        obtain ⟨z0, z1, z2, z3, z4⟩ := RowsAt.at_ hrc hn
        have hn' : (nx : Int) < (R.length : Int) := by omega
        obtain ⟨r, hr0⟩ : ∃ r, r = R.getD nx rw0 := ⟨_, rfl⟩
        rw [← hr0] at z0 z1 z2 z3 z4
        by_cases he : r.f = x
        · have HB := Lib.hid (HH.out hn (by rw [← hr0]; exact he)); clear HH HM
          rw [← hr0] at HB
          subst he
          have hd : (r.f == r.f) = true := by simp
          clear hrc hr0
          go_wp2_with fail
          go_quiet (fail)
          have h63 : k + 1 ≤ maxLen := Nat.le_trans (show k + 1 ≤ 65536 by omega) (by decide)
          have hby : (k + 1) * 40 ≤ 140737488355328 := by omega
          have hbq := bel_drewN (hbl.alloc hbl.size (.cells #[.int .i64 r.f, .int .i64 y] 52)) nq
          go_wp2_with (at_builtin; refine wpList_append_g rowElem (own_drewN (hown.alloc (.cells #[.int .i64 r.f, .int .i64 y] 52)) nq) hbq (Nat.le_refl _) hbq.size (wr.heap.size + 1) (by simp) rfl _ _ rfl (rwCells r) rfl rfl rfl (rwCells_one _) h63 hby ?_; intro A1 c1 w3 ho1 hb3 hg1)
          refine ⟨⟨k + 1, A1, c1, by omega, by go_num, rfl, by rw [HB.out]; go_num, ?_, hb3⟩, by simp [intOf]; omega⟩
          rw [HB.out, cells5_append, cells5_one]
          exact ho1
        · have hd : (r.f == x) = false := by simpa using he
          have HB := Lib.hid (HM.out (by rw [← hr0]; exact fun h => he h.2)); clear HH HM
          clear hrc hr0
          go_wp2_with fail
          go_quiet (fail)
          obtain ⟨Wn, hWn⟩ : ∃ Wn, Wn = (wr.alloc (.cells #[.int .i64 x, .int .i64 y] 52)).drewN nq := ⟨_, rfl⟩
          have s0 : Wn.cell? ⟨wr.heap.size, 0, none⟩ = some (.int .i64 x) := by rw [hWn]; exact cell_drN (cell_new0 rfl)
          have s1 : Wn.cell? ⟨wr.heap.size, 1, none⟩ = some (.int .i64 y) := by rw [hWn]; exact cell_drN (cell_new1 rfl)
          have hbn : Below wr.heap.size wr Wn := by rw [hWn]; exact bel_drewN ((Below.refl _ _).alloc (Nat.le_refl _) _) nq
          have hszn : Wn.heap.size = wr.heap.size + 1 := by rw [hWn]; simp
          have hoW := own_below hown hbn
          have hbW := bel_step hbl (Nat.le_refl _) hbn
          have hv := cell_be hbn hvr
          have hrW := hrr.below hbn
          have hrD := hrW.below (Below.refl Wn.heap.size Wn).drew
          have h63 : k + 1 ≤ maxLen := Nat.le_trans (show k + 1 ≤ 65536 by omega) (by decide)
          have hby : (k + 1) * 40 ≤ 140737488355328 := by omega
          have hn1 : some wr.heap.size ≠ Value.ownBlock (.slice A' k c') := fun e => by have := (hown.lt _ e.symm).2; omega
          have hlk : (3 : Int) = 3 → LinOk x (rowAt R ((nx : Int) - 1)) (rowAt R (nx : Int)) := fun _ => linOk_of R L HF.out HR.out (fun p hp => (HL.out p hp).2.2) nx x htb
          have ew : IntKind.i64.wrap ((nx : Int) - 1) = (nx : Int) - 1 := IntWalk.i64_in _ (by omega)
          rw [← hWn]
          clear hWn hown hbl hbn hvr hrr c1 c2
          go_upto_region 26 with fail
          go_region_held3 (fun w' => w'.cell? ⟨wr.heap.size, 0, none⟩ = some (.int .i64 x) ∧ w'.cell? ⟨wr.heap.size, 1, none⟩ = some (.int .i64 y))
          (first
              | (refine ⟨?_, ?_⟩ <;> (repeat (first | (with_reducible refine cell_dr ?_) | (with_reducible refine cell_al ?_) | (with_reducible refine cell_be hbq ?_))) <;> (with_reducible first | exact s0 | exact s1))
              | exact ⟨far_cell hg1 hn1 (cell_al (cell_be hbq (cell_dr s0))), far_cell hg1 hn1 (cell_al (cell_be hbq (cell_dr s1)))⟩)
          (first
              | (go_at_call 16; have _t := hp1; refine (at_ptr _ R c w.heap.size (nx : Int) _ (cell_dr hv) hrD hRn).mono ?_; rintro e q ⟨⟨a2, rfl, hp2⟩, rfl⟩)
              | (go_at_call 16; refine (at_ptr _ R c w.heap.size ((nx : Int) - 1) _ (cell_dr hv) hrD hRn).mono ?_; rintro e q ⟨⟨a1, rfl, hp1⟩, rfl⟩)
              | (go_at_call 14; refine (HTL.out x y _ _ (.pointer a1) (.pointer a2) _ hp1 hp2 hlk).mono ?_; rintro e q ⟨rfl, hbq⟩)
              | (have hb4 := (bel_step hbW.drew (Nat.le_refl _) hbq).alloc (bel_step hbW.drew (Nat.le_refl _) hbq).size (.cells (rwCells (holeRow 3 (rowAt R ((nx : Int) - 1)) (rowAt R (nx : Int)) x y)).toArray 39); refine step_append_at rowElem ((own_below (own_drew hoW) hbq).alloc _) hb4 (Nat.le_refl _) hb4.size rfl _ _ rfl q.heap.size (rwCells (holeRow 3 (rowAt R ((nx : Int) - 1)) (rowAt R (nx : Int)) x y)) (heap_alloc_new q _) rfl rfl rfl (rwCells_one _) h63 hby ?_; intro A1 c1 w3 ho1 hb3 hg1))
          go_wp2
          refine ⟨⟨k + 1, A1, c1, by omega, by go_num, rfl, by rw [HB.out], ?_, hb3⟩, by simp [intOf]; omega⟩
          rw [rowAt_pred, rowAt_nat] at ho1
          rw [HB.out, cells5_append, cells5_one]
          exact ho1
      · have hn' : ¬ (nx : Int) < (R.length : Int) := by omega
        have HB := Lib.hid (HM.out (fun h => hn h.1)); clear HH HM
        go_wp2_with fail
        go_quiet (fail)
        obtain ⟨Wn, hWn⟩ : ∃ Wn, Wn = (wr.alloc (.cells #[.int .i64 x, .int .i64 y] 52)).drewN nq := ⟨_, rfl⟩
        have s0 : Wn.cell? ⟨wr.heap.size, 0, none⟩ = some (.int .i64 x) := by rw [hWn]; exact cell_drN (cell_new0 rfl)
        have s1 : Wn.cell? ⟨wr.heap.size, 1, none⟩ = some (.int .i64 y) := by rw [hWn]; exact cell_drN (cell_new1 rfl)
        have hbn : Below wr.heap.size wr Wn := by rw [hWn]; exact bel_drewN ((Below.refl _ _).alloc (Nat.le_refl _) _) nq
        have hszn : Wn.heap.size = wr.heap.size + 1 := by rw [hWn]; simp
        have hoW := own_below hown hbn
        have hbW := bel_step hbl (Nat.le_refl _) hbn
        have hv := cell_be hbn hvr
        have hrW := hrr.below hbn
        have hrD := hrW.below (Below.refl Wn.heap.size Wn).drew
        have h63 : k + 1 ≤ maxLen := Nat.le_trans (show k + 1 ≤ 65536 by omega) (by decide)
        have hby : (k + 1) * 40 ≤ 140737488355328 := by omega
        have hn1 : some wr.heap.size ≠ Value.ownBlock (.slice A' k c') := fun e => by have := (hown.lt _ e.symm).2; omega
        have hlk : (3 : Int) = 3 → LinOk x (rowAt R ((nx : Int) - 1)) (rowAt R (nx : Int)) := fun _ => linOk_of R L HF.out HR.out (fun p hp => (HL.out p hp).2.2) nx x htb
        have ew : IntKind.i64.wrap ((nx : Int) - 1) = (nx : Int) - 1 := IntWalk.i64_in _ (by omega)
        rw [← hWn]
        clear hWn hown hbl hbn hvr hrr c1 c2
        go_upto_region 26 with fail
        go_region_held3 (fun w' => w'.cell? ⟨wr.heap.size, 0, none⟩ = some (.int .i64 x) ∧ w'.cell? ⟨wr.heap.size, 1, none⟩ = some (.int .i64 y))
        (first
            | (refine ⟨?_, ?_⟩ <;> (repeat (first | (with_reducible refine cell_dr ?_) | (with_reducible refine cell_al ?_) | (with_reducible refine cell_be hbq ?_))) <;> (with_reducible first | exact s0 | exact s1))
            | exact ⟨far_cell hg1 hn1 (cell_al (cell_be hbq (cell_dr s0))), far_cell hg1 hn1 (cell_al (cell_be hbq (cell_dr s1)))⟩)
        (first
            | (go_at_call 16; have _t := hp1; refine (at_ptr _ R c w.heap.size (nx : Int) _ (cell_dr hv) hrD hRn).mono ?_; rintro e q ⟨⟨a2, rfl, hp2⟩, rfl⟩)
            | (go_at_call 16; refine (at_ptr _ R c w.heap.size ((nx : Int) - 1) _ (cell_dr hv) hrD hRn).mono ?_; rintro e q ⟨⟨a1, rfl, hp1⟩, rfl⟩)
            | (go_at_call 14; refine (HTL.out x y _ _ (.pointer a1) (.pointer a2) _ hp1 hp2 hlk).mono ?_; rintro e q ⟨rfl, hbq⟩)
            | (have hb4 := (bel_step hbW.drew (Nat.le_refl _) hbq).alloc (bel_step hbW.drew (Nat.le_refl _) hbq).size (.cells (rwCells (holeRow 3 (rowAt R ((nx : Int) - 1)) (rowAt R (nx : Int)) x y)).toArray 39); refine step_append_at rowElem ((own_below (own_drew hoW) hbq).alloc _) hb4 (Nat.le_refl _) hb4.size rfl _ _ rfl q.heap.size (rwCells (holeRow 3 (rowAt R ((nx : Int) - 1)) (rowAt R (nx : Int)) x y)) (heap_alloc_new q _) rfl rfl rfl (rwCells_one _) h63 hby ?_; intro A1 c1 w3 ho1 hb3 hg1))
        go_wp2
        refine ⟨⟨k + 1, A1, c1, by omega, by go_num, rfl, by rw [HB.out], ?_, hb3⟩, by simp [intOf]; omega⟩
        rw [rowAt_pred, rowAt_nat] at ho1
        rw [HB.out, cells5_append, cells5_one]
        exact ho1
    · obtain rfl : k = L.length := by omega
      go_wp2
      go_ret2
      have hl := fillN_length 3 R L L.length
      have hc := own_cap hown
      refine ⟨A', c', by rw [hl]; rfl, RowsAt.of_own (base := w2.heap.size) (c := c') (e := 39) (by rw [hl]; exact hown), hc.1, by rw [hl]; exact hc.2.1, hc.2.2, bel_step hbel1 (Nat.le_refl _) hbl⟩
end Go.Proofs.Ytljepnonigjcbaa

/- Contracts of tidemillref07: Limbs, Plus, Minus, Negative. -/
import Derived.Test.YtohgpllonbplfaaDoorWideFns
import Derived.Test.YtohgpllonbplfaaDoorLimbMath
import Derived.LoopN
import Derived.Deep.RegionWith
import Derived.Deep.DeepCutAuto
namespace Go.Proofs.YtohgpllonbplfaaDoor
open Go.RowKit
set_option linter.unusedVariables false

theorem cell_newk {w : World} {cs : Array Value} {t : TypeId} {n k : Nat} {x : Value} (h : w.heap.size = n) (hx : cs[k]? = some x) : (w.alloc (.cells cs t)).cell? ⟨n, k, none⟩ = some x := by
  subst h
  rw [cell_of_row _ w.heap.size k cs t (0, 0) (heap_alloc_new w _)]; exact hx
/-- eight cells of a block -/
def Eight (w : World) (g : Nat) (f : Nat → Int) : Prop := ∀ j, j < 8 → w.cell? ⟨g, j, none⟩ = some (.int .i64 (f j)) ∧ w.frozen? ⟨g, j, none⟩ = false
theorem Eight.lt {w : World} {g : Nat} {f : Nat → Int} (h : Eight w g f) : g < w.heap.size := World.block_lt_of_cell? w _ (h 0 (by omega)).1
theorem Eight.be {w w' : World} {g : Nat} {f : Nat → Int} (h : Eight w g f) (hb : Below w.heap.size w w') : Eight w' g f := fun j hj => ⟨cell_be hb (h j hj).1, frozen_be hb h.lt (h j hj).2⟩
theorem Eight.drN {w : World} {g : Nat} {f : Nat → Int} (h : Eight w g f) (n : Nat) : Eight (w.drewN n) g f := h
theorem Eight.al {w : World} {g : Nat} {f : Nat → Int} (h : Eight w g f) (o : Obj) : Eight (w.alloc o) g f := h.be ((Below.refl _ _).alloc (Nat.le_refl _) _)
theorem Eight.set {w : World} {g k : Nat} {f : Nat → Int} (h : Eight w g f) (hk : k < 8) (v : Int) : Eight (w.setCell ⟨g, k, none⟩ (.int .i64 v)) g (fun j => if j = k then v else f j) := by
  intro j hj
  refine ⟨?_, by rw [World.frozen?_setCell]; exact (h j hj).2⟩
  by_cases e : j = k
  · subst e; rw [World.cell?_setCell_same _ _ _ (h j hj).1]; simp
  · rw [World.cell?_setCell_other _ _ _ _ (by simp only [ne_eq, Addr.mk.injEq, not_and]; intro _ h2; exact absurd h2.symm e)]; simp only [e, if_false]; exact (h j hj).1
theorem Eight.congr {w : World} {g : Nat} {f f' : Nat → Int} (h : Eight w g f) (e : ∀ j, j < 8 → f j = f' j) : Eight w g f' := fun j hj => by rw [← e j hj]; exact h j hj
theorem Eight.new {w : World} {n : Nat} (h : w.heap.size = n) (t : TypeId) (f : Nat → Int) : Eight (w.alloc (.cells #[.int .i64 (f 0), .int .i64 (f 1), .int .i64 (f 2), .int .i64 (f 3), .int .i64 (f 4), .int .i64 (f 5), .int .i64 (f 6), .int .i64 (f 7)] t)) n f := by
  subst h
  intro j hj
  refine ⟨?_, frozen_of_row _ _ _ _ _ (heap_alloc_new w _)⟩
  rcases (show j = 0 ∨ j = 1 ∨ j = 2 ∨ j = 3 ∨ j = 4 ∨ j = 5 ∨ j = 6 ∨ j = 7 by omega) with rfl | rfl | rfl | rfl | rfl | rfl | rfl | rfl <;> exact cell_newk rfl rfl
theorem Eight.zero {w : World} {n : Nat} (h : w.heap.size = n) (t : TypeId) : Eight (w.alloc (.cells #[.int .i64 0, .int .i64 0, .int .i64 0, .int .i64 0, .int .i64 0, .int .i64 0, .int .i64 0, .int .i64 0] t)) n (fun _ => 0) := Eight.new h t (fun _ => 0)
/-- the result's cells are written -/
theorem eight_store {W : World} {g : Nat} {f : Nat → Int} (h : Eight W g f) (s : Nat → Int) : Eight (((((((((W.setCell ⟨g, 0, none⟩ (.int .i64 (s 0))).setCell ⟨g, 1, none⟩ (.int .i64 (s 1))).setCell ⟨g, 2, none⟩ (.int .i64 (s 2))).setCell ⟨g, 3, none⟩ (.int .i64 (s 3))).setCell ⟨g, 4, none⟩ (.int .i64 (s 4))).setCell ⟨g, 5, none⟩ (.int .i64 (s 5))).setCell ⟨g, 6, none⟩ (.int .i64 (s 6))).setCell ⟨g, 7, none⟩ (.int .i64 (s 7)))) g s :=
  (((((((((h.set (k := 0) (by omega) (s 0)).set (k := 1) (by omega) (s 1)).set (k := 2) (by omega) (s 2)).set (k := 3) (by omega) (s 3)).set (k := 4) (by omega) (s 4)).set (k := 5) (by omega) (s 5)).set (k := 6) (by omega) (s 6)).set (k := 7) (by omega) (s 7))).congr (fun j hj => by
    rcases (show j = 0 ∨ j = 1 ∨ j = 2 ∨ j = 3 ∨ j = 4 ∨ j = 5 ∨ j = 6 ∨ j = 7 by omega) with rfl | rfl | rfl | rfl | rfl | rfl | rfl | rfl <;> simp)
theorem bel_store {B : Nat} {a W : World} {g : Nat} (h : Below B a W) (hg : B ≤ g) (s : Nat → Int) : Below B a (((((((((W.setCell ⟨g, 0, none⟩ (.int .i64 (s 0))).setCell ⟨g, 1, none⟩ (.int .i64 (s 1))).setCell ⟨g, 2, none⟩ (.int .i64 (s 2))).setCell ⟨g, 3, none⟩ (.int .i64 (s 3))).setCell ⟨g, 4, none⟩ (.int .i64 (s 4))).setCell ⟨g, 5, none⟩ (.int .i64 (s 5))).setCell ⟨g, 6, none⟩ (.int .i64 (s 6))).setCell ⟨g, 7, none⟩ (.int .i64 (s 7)))) :=
  (((((((h.setCell (p := ⟨g, 0, none⟩) hg _).setCell (p := ⟨g, 1, none⟩) hg _).setCell (p := ⟨g, 2, none⟩) hg _).setCell (p := ⟨g, 3, none⟩) hg _).setCell (p := ⟨g, 4, none⟩) hg _).setCell (p := ⟨g, 5, none⟩) hg _).setCell (p := ⟨g, 6, none⟩) hg _).setCell (p := ⟨g, 7, none⟩) hg _
theorem limbs_any (v : Int) (w : World) :
    Calls Tryd.prog 7 #[.int .i64 (hiW v), .int .u64 (loW v)] w fun e w' => e = .returned (.agg #[.int .i64 (lb v 0), .int .i64 (lb v 1), .int .i64 (lb v 2), .int .i64 (lb v 3), .int .i64 (lb v 4), .int .i64 (lb v 5), .int .i64 (lb v 6), .int .i64 (lb v 7)]) ∧ Below w.heap.size w w' := by
  obtain ⟨l0, l1⟩ := loW_bd v
  obtain ⟨u, hu⟩ : ∃ u, IntKind.u64.wrap (hiW v) = u := ⟨_, rfl⟩
  have hu2 : hiW v % 18446744073709551616 = u := by rw [← hu, IntKind.wrap_u64]
  have hub : 0 ≤ u ∧ u ≤ 18446744073709551615 := by omega
  obtain ⟨e0, e1, e2, e3⟩ := lb_lo v
  obtain ⟨e4, e5, e6, e7⟩ := lb_hi v
  rw [hu2] at e4 e5 e6 e7
  have HE := Lib.hid (show (lb v 0 = loW v % 65536 ∧ lb v 1 = loW v / 65536 % 65536 ∧ lb v 2 = loW v / 4294967296 % 65536 ∧ lb v 3 = loW v / 281474976710656 % 65536) ∧ (lb v 4 = u % 65536 ∧ lb v 5 = u / 65536 % 65536 ∧ lb v 6 = u / 4294967296 % 65536 ∧ lb v 7 = u / 281474976710656 % 65536) from ⟨⟨e0, e1, e2, e3⟩, ⟨e4, e5, e6, e7⟩⟩)
  clear hu2 e0 e1 e2 e3 e4 e5 e6 e7
  go_enter Tryd.func7, Tryd.ntmps7
  go_wp2_with fail
  refine wp_loop_rounds 5 ?_
  iterate 5 (rw [rounds_succ]; go_wp2)
  obtain ⟨⟨e0, e1, e2, e3⟩, ⟨e4, e5, e6, e7⟩⟩ := HE.out
  rw [← e0, ← e1, ← e2, ← e3, ← e4, ← e5, ← e6, ← e7]
  exact bodyPost_ret (v := .agg #[.int .i64 (lb v 0), .int .i64 (lb v 1), .int .i64 (lb v 2), .int .i64 (lb v 3), .int .i64 (lb v 4), .int .i64 (lb v 5), .int .i64 (lb v 6), .int .i64 (lb v 7)]) (by simp [results, Tryd.results7, go_sem]) rfl ⟨rfl, ((Below.refl _ _).alloc (Nat.le_refl _) _).alloc (by simp) _⟩
theorem neg_any (v : Int) (w : World) :
    Calls Tryd.prog 18 #[.agg #[.int .i64 (lb v 0), .int .i64 (lb v 1), .int .i64 (lb v 2), .int .i64 (lb v 3), .int .i64 (lb v 4), .int .i64 (lb v 5), .int .i64 (lb v 6), .int .i64 (lb v 7)]] w fun e w' => e = .returned (.bool (decide (32768 ≤ lb v 7))) ∧ w.alloc (.cells #[.int .i64 (lb v 0), .int .i64 (lb v 1), .int .i64 (lb v 2), .int .i64 (lb v 3), .int .i64 (lb v 4), .int .i64 (lb v 5), .int .i64 (lb v 6), .int .i64 (lb v 7)] 28) = w' := by
  go_enter Tryd.func18, Tryd.ntmps18
  go_wp2
  go_ret
  exact ⟨rfl, rfl⟩
def PlusRel (W : World) (g : Nat) (a b : Int) (c i : Value) (wr : World) : Prop := ∃ k : Nat, k ≤ 8 ∧ i = .int .i64 k ∧ c = .int .i64 (carry a b k) ∧ Below W.heap.size W wr ∧ Eight wr g (fun j => if j < k then lb (a + b) j else 0)
def NotRel (W : World) (g : Nat) (a : Int) (i : Value) (wr : World) : Prop := ∃ k : Nat, k ≤ 8 ∧ i = .int .i64 k ∧ Below W.heap.size W wr ∧ Eight wr g (fun j => if j < k then lb (-1 - a) j else 0)
theorem eight_cells {w : World} {g : Nat} {f : Nat → Int} (h : Eight w g f) : w.cell? ⟨g, 0, none⟩ = some (.int .i64 (f 0)) ∧ w.cell? ⟨g, 1, none⟩ = some (.int .i64 (f 1)) ∧ w.cell? ⟨g, 2, none⟩ = some (.int .i64 (f 2)) ∧ w.cell? ⟨g, 3, none⟩ = some (.int .i64 (f 3)) ∧ w.cell? ⟨g, 4, none⟩ = some (.int .i64 (f 4)) ∧ w.cell? ⟨g, 5, none⟩ = some (.int .i64 (f 5)) ∧ w.cell? ⟨g, 6, none⟩ = some (.int .i64 (f 6)) ∧ w.cell? ⟨g, 7, none⟩ = some (.int .i64 (f 7)) ∧ w.frozen? ⟨g, 0, none⟩ = false ∧ w.frozen? ⟨g, 1, none⟩ = false ∧ w.frozen? ⟨g, 2, none⟩ = false ∧ w.frozen? ⟨g, 3, none⟩ = false ∧ w.frozen? ⟨g, 4, none⟩ = false ∧ w.frozen? ⟨g, 5, none⟩ = false ∧ w.frozen? ⟨g, 6, none⟩ = false ∧ w.frozen? ⟨g, 7, none⟩ = false :=
  ⟨(h 0 (by omega)).1, (h 1 (by omega)).1, (h 2 (by omega)).1, (h 3 (by omega)).1, (h 4 (by omega)).1, (h 5 (by omega)).1, (h 6 (by omega)).1, (h 7 (by omega)).1, (h 0 (by omega)).2, (h 1 (by omega)).2, (h 2 (by omega)).2, (h 3 (by omega)).2, (h 4 (by omega)).2, (h 5 (by omega)).2, (h 6 (by omega)).2, (h 7 (by omega)).2⟩
set_option maxRecDepth 100000 in
set_option maxHeartbeats 4000000 in
theorem rplus_any (a b : Int) (w : World) :
    Calls Tryd.prog 22 #[.agg #[.int .i64 (lb a 0), .int .i64 (lb a 1), .int .i64 (lb a 2), .int .i64 (lb a 3), .int .i64 (lb a 4), .int .i64 (lb a 5), .int .i64 (lb a 6), .int .i64 (lb a 7)], .agg #[.int .i64 (lb b 0), .int .i64 (lb b 1), .int .i64 (lb b 2), .int .i64 (lb b 3), .int .i64 (lb b 4), .int .i64 (lb b 5), .int .i64 (lb b 6), .int .i64 (lb b 7)]] w fun e w' => e = .returned (.agg #[.int .i64 (lb (a + b) 0), .int .i64 (lb (a + b) 1), .int .i64 (lb (a + b) 2), .int .i64 (lb (a + b) 3), .int .i64 (lb (a + b) 4), .int .i64 (lb (a + b) 5), .int .i64 (lb (a + b) 6), .int .i64 (lb (a + b) 7)]) ∧ Below w.heap.size w w' := by
  obtain ⟨W, hW⟩ : ∃ W, W = ((w.alloc (.cells #[.int .i64 (lb a 0), .int .i64 (lb a 1), .int .i64 (lb a 2), .int .i64 (lb a 3), .int .i64 (lb a 4), .int .i64 (lb a 5), .int .i64 (lb a 6), .int .i64 (lb a 7)] 28)).alloc (.cells #[.int .i64 (lb b 0), .int .i64 (lb b 1), .int .i64 (lb b 2), .int .i64 (lb b 3), .int .i64 (lb b 4), .int .i64 (lb b 5), .int .i64 (lb b 6), .int .i64 (lb b 7)] 28)).alloc (.cells #[.int .i64 0, .int .i64 0, .int .i64 0, .int .i64 0, .int .i64 0, .int .i64 0, .int .i64 0, .int .i64 0] 28) := ⟨_, rfl⟩
  have hB : Below w.heap.size w W := by rw [hW]; exact (((Below.refl _ _).alloc (Nat.le_refl _) _).alloc (by simp) _).alloc (by simp; omega) _
  have hs : W.heap.size = w.heap.size + 1 + 1 + 1 := by rw [hW]; simp
  have EA : Eight W w.heap.size (lb a) := by rw [hW]; exact ((Eight.new rfl _ (lb a)).al _).al _
  have EB : Eight W (w.heap.size + 1) (lb b) := by rw [hW]; exact (Eight.new (by simp) _ (lb b)).al _
  have EZ : Eight W (w.heap.size + 1 + 1) (fun _ => 0) := by rw [hW]; exact Eight.zero (by simp) _
  have HA := Lib.hid EA; clear EA
  have HBB := Lib.hid EB; clear EB
  have HZ := Lib.hid EZ; clear EZ
  have HS := Lib.hid hs
  have hsB : w.heap.size + 1 + 1 < W.heap.size := by omega
  clear hs
  go_enter Tryd.func22, Tryd.ntmps22
  go_wp2_with fail
  rw [← hW, ← HS.out]
  clear hW
  go_loopw [6, 7] (PlusRel W W.heap.size a b) (fun _ i _ => 8 - (intOf i).toNat)
  case atStart => exact ⟨0, by omega, rfl, rfl, (Below.refl _ _).alloc (Nat.le_refl _) _, (Eight.zero rfl _).congr (fun j hj => by simp)⟩
  case round =>
    obtain ⟨k, hk, rfl, rfl, hbel, HO⟩ := hrel
    by_cases hlt : k < 8
    · have x0 := cell_be hbel (HA.out k hlt).1
      have y0 := cell_be hbel (HBB.out k hlt).1
      have o0 := (HO k hlt).1
      have f0 := (HO k hlt).2
      have HOH := Lib.hid HO; clear HO
      have b1 := lb_bd a k
      have b2 := lb_bd b k
      have b3 := carry_bd a b k
      have ps := plus_part a b k
      have cs : (carry a b k + lb a k + lb b k) / 65536 = carry a b (k + 1) := rfl
      obtain ⟨p, hp⟩ : ∃ p, p = lb a k := ⟨_, rfl⟩
      obtain ⟨q, hq⟩ : ∃ q, q = lb b k := ⟨_, rfl⟩
      obtain ⟨c, hc⟩ : ∃ c, c = carry a b k := ⟨_, rfl⟩
      rw [← hp] at x0 b1 ps cs
      rw [← hq] at y0 b2 ps cs
      rw [← hc] at b3 ps cs ⊢
      clear hp hq hc
      obtain ⟨b10, b11⟩ := b1
      obtain ⟨b20, b21⟩ := b2
      obtain ⟨b30, b31⟩ := b3
      have t1 : IntKind.i64.wrap (c + p) = c + p := IntWalk.i64_in _ (by omega)
      have t2 : IntKind.i64.wrap (c + p + q) = c + p + q := IntWalk.i64_in _ (by omega)
      have i0 : (0 : Int) ≤ (k : Int) := Int.natCast_nonneg _
      have i1 : (k : Int) < 8 := by omega
      have PS := Lib.hid ps
      have CS := Lib.hid cs
      clear ps cs
      go_wp2_with fail
      go_quiet (fail)
      clear t1 t2
      go_wp2
      rw [PS.out, CS.out]
      refine ⟨⟨k + 1, by omega, by go_num, rfl, (bel_drewN hbel nq).setCell (Nat.le_refl _) _, ?_⟩, by simp [intOf]; omega⟩
      refine ((HOH.out.drN nq).set hlt (lb (a + b) k)).congr (fun j hj => ?_)
      by_cases e : j = k
      · subst e; simp
      · simp only [e, if_false]
        by_cases e2 : j < k
        · rw [if_pos e2, if_pos (by omega)]
        · rw [if_neg e2, if_neg (by omega)]
    · obtain rfl : k = 8 := by omega
      obtain ⟨o0, o1, o2, o3, o4, o5, o6, o7, _⟩ := eight_cells (HO.congr (f' := lb (a + b)) (fun j hj => by simp [hj]))
      have HZ2 := HZ.out.be hbel
      obtain ⟨z0, z1, z2, z3, z4, z5, z6, z7, f0, f1, f2, f3, f4, f5, f6, f7⟩ := eight_cells HZ2
      have HZH := Lib.hid HZ2
      clear HO HZ2
      go_wp2
      have hfin := eight_cells (eight_store HZH.out (lb (a + b)))
      obtain ⟨r0, r1, r2, r3, r4, r5, r6, r7, _⟩ := hfin
      exact bodyPost_ret (v := .agg #[.int .i64 (lb (a + b) 0), .int .i64 (lb (a + b) 1), .int .i64 (lb (a + b) 2), .int .i64 (lb (a + b) 3), .int .i64 (lb (a + b) 4), .int .i64 (lb (a + b) 5), .int .i64 (lb (a + b) 6), .int .i64 (lb (a + b) 7)]) (by simp only [results, Tryd.results22]; simp [go_sem, r0, r1, r2, r3, r4, r5, r6, r7]) rfl ⟨rfl, bel_store (hB.trans (hbel.mono hB.size)) (by omega) (lb (a + b))⟩
theorem rplus_one (a : Int) (w : World) :
    Calls Tryd.prog 22 #[.agg #[.int .i64 (lb a 0), .int .i64 (lb a 1), .int .i64 (lb a 2), .int .i64 (lb a 3), .int .i64 (lb a 4), .int .i64 (lb a 5), .int .i64 (lb a 6), .int .i64 (lb a 7)], .agg #[.int .i64 1, .int .i64 0, .int .i64 0, .int .i64 0, .int .i64 0, .int .i64 0, .int .i64 0, .int .i64 0]] w fun e w' => e = .returned (.agg #[.int .i64 (lb (a + 1) 0), .int .i64 (lb (a + 1) 1), .int .i64 (lb (a + 1) 2), .int .i64 (lb (a + 1) 3), .int .i64 (lb (a + 1) 4), .int .i64 (lb (a + 1) 5), .int .i64 (lb (a + 1) 6), .int .i64 (lb (a + 1) 7)]) ∧ Below w.heap.size w w' := by
  have h := rplus_any a 1 w
  rw [show lb 1 0 = 1 by decide, show lb 1 1 = 0 by decide, show lb 1 2 = 0 by decide, show lb 1 3 = 0 by decide, show lb 1 4 = 0 by decide, show lb 1 5 = 0 by decide, show lb 1 6 = 0 by decide, show lb 1 7 = 0 by decide] at h
  exact h
set_option maxRecDepth 100000 in
set_option maxHeartbeats 4000000 in
theorem rminus_any (a : Int) (w : World) :
    Calls Tryd.prog 19 #[.agg #[.int .i64 (lb a 0), .int .i64 (lb a 1), .int .i64 (lb a 2), .int .i64 (lb a 3), .int .i64 (lb a 4), .int .i64 (lb a 5), .int .i64 (lb a 6), .int .i64 (lb a 7)]] w fun e w' => e = .returned (.agg #[.int .i64 (lb (-a) 0), .int .i64 (lb (-a) 1), .int .i64 (lb (-a) 2), .int .i64 (lb (-a) 3), .int .i64 (lb (-a) 4), .int .i64 (lb (-a) 5), .int .i64 (lb (-a) 6), .int .i64 (lb (-a) 7)]) ∧ Below w.heap.size w w' := by
  obtain ⟨W, hW⟩ : ∃ W, W = (w.alloc (.cells #[.int .i64 (lb a 0), .int .i64 (lb a 1), .int .i64 (lb a 2), .int .i64 (lb a 3), .int .i64 (lb a 4), .int .i64 (lb a 5), .int .i64 (lb a 6), .int .i64 (lb a 7)] 28)).alloc (.cells #[.int .i64 0, .int .i64 0, .int .i64 0, .int .i64 0, .int .i64 0, .int .i64 0, .int .i64 0, .int .i64 0] 28) := ⟨_, rfl⟩
  have hB : Below w.heap.size w W := by rw [hW]; exact ((Below.refl _ _).alloc (Nat.le_refl _) _).alloc (by simp) _
  have hs : W.heap.size = w.heap.size + 1 + 1 := by rw [hW]; simp
  have EA : Eight W w.heap.size (lb a) := by rw [hW]; exact (Eight.new rfl _ (lb a)).al _
  have EZ : Eight W (w.heap.size + 1) (fun _ => 0) := by rw [hW]; exact Eight.zero (by simp) _
  have HA := Lib.hid EA; clear EA
  have HZ := Lib.hid EZ; clear EZ
  have HS := Lib.hid hs
  have hsB : w.heap.size + 1 < W.heap.size := by omega
  have HP := Lib.hid (fun w => rplus_one (-1 - a) w)
  rw [show -1 - a + 1 = -a by omega] at HP
  clear hs
  go_enter Tryd.func19, Tryd.ntmps19
  go_wp2_with fail
  rw [← hW, ← HS.out]
  clear hW
  go_loopw [4] (NotRel W W.heap.size a) (fun i _ => 8 - (intOf i).toNat)
  case atStart => exact ⟨0, by omega, rfl, (Below.refl _ _).alloc (Nat.le_refl _) _, (Eight.zero rfl _).congr (fun j hj => by simp)⟩
  case round =>
    obtain ⟨k, hk, rfl, hbel, HO⟩ := hrel
    by_cases hlt : k < 8
    · have x0 := cell_be hbel (HA.out k hlt).1
      have o0 := (HO k hlt).1
      have f0 := (HO k hlt).2
      have HOH := Lib.hid HO; clear HO
      have b1 := lb_bd a k
      have ps := not_part a k
      obtain ⟨p, hp⟩ : ∃ p, p = lb a k := ⟨_, rfl⟩
      rw [← hp] at x0 b1 ps
      clear hp
      obtain ⟨b10, b11⟩ := b1
      have i0 : (0 : Int) ≤ (k : Int) := Int.natCast_nonneg _
      have i1 : (k : Int) < 8 := by omega
      have PS := Lib.hid ps
      clear ps
      go_wp2
      rw [PS.out]
      refine ⟨⟨k + 1, by omega, by go_num, hbel.setCell (Nat.le_refl _) _, ?_⟩, by simp [intOf]; omega⟩
      refine (HOH.out.set hlt (lb (-1 - a) k)).congr (fun j hj => ?_)
      by_cases e : j = k
      · subst e; simp
      · simp only [e, if_false]
        by_cases e2 : j < k
        · rw [if_pos e2, if_pos (by omega)]
        · rw [if_neg e2, if_neg (by omega)]
    · obtain rfl : k = 8 := by omega
      obtain ⟨o0, o1, o2, o3, o4, o5, o6, o7, _⟩ := eight_cells (HO.congr (f' := lb (-1 - a)) (fun j hj => by simp [hj]))
      have hbw := hB.trans (hbel.mono hB.size)
      have HZ2 := HZ.out.be hbel
      clear HO hbel HZ
      go_wp2_with fail
      with_reducible refine (HP.out _).mono ?_
      rintro e w1 ⟨rfl, hb⟩
      have HZ3 := HZ2.be hb
      have hb1 := bel_step hbw (Nat.le_refl _) hb
      obtain ⟨z0, z1, z2, z3, z4, z5, z6, z7, f0, f1, f2, f3, f4, f5, f6, f7⟩ := eight_cells HZ3
      have HZH := Lib.hid HZ3
      clear HZ2 HZ3 hb hbw o0 o1 o2 o3 o4 o5 o6 o7
      go_wp2
      have hfin := eight_cells (eight_store HZH.out (lb (-a)))
      obtain ⟨r0, r1, r2, r3, r4, r5, r6, r7, _⟩ := hfin
      exact bodyPost_ret (v := .agg #[.int .i64 (lb (-a) 0), .int .i64 (lb (-a) 1), .int .i64 (lb (-a) 2), .int .i64 (lb (-a) 3), .int .i64 (lb (-a) 4), .int .i64 (lb (-a) 5), .int .i64 (lb (-a) 6), .int .i64 (lb (-a) 7)]) (by simp only [results, Tryd.results19]; simp [go_sem, r0, r1, r2, r3, r4, r5, r6, r7]) rfl ⟨rfl, bel_store hb1 (by omega) (lb (-a))⟩
theorem lb_sign (s : Int) : 32768 ≤ lb s 7 ↔ hiW s < 0 := by simp only [lb, qt, hiW]; omega
theorem lb_zero (k : Nat) : lb 0 k = 0 := by
  have : qt 0 k = 0 := by induction k with
    | zero => rfl
    | succ k ih => simp only [qt, ih]; decide
  unfold lb; rw [this]; decide
end Go.Proofs.YtohgpllonbplfaaDoor

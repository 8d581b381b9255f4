/- Contracts of asof.Join and its closure. -/
import Derived.Test.YtpblabpajliagaaAsofRising
namespace Go.Proofs.Ytpblabpajliagaa
open Go.RowKit
set_option linter.unusedVariables false

def nearP (b : Nat → Pt) (nx : Nat) (p : Pt) (tol : Int) : Prop := 0 < nx ∧ p.t - tol ≤ (b (nx - 1)).t
theorem near_any (p : Pt) (tol : Int) (nx m cb g gb gt : Nat) (B : Option Addr) (b : Nat → Pt) (w : World) (ok : Bool) (hok : ok = true ↔ nearP b nx p tol)
    (hg : w.cell? ⟨g, 0, none⟩ = some (.int .i64 nx)) (hgb : w.cell? ⟨gb, 0, none⟩ = some (.slice B m cb)) (hgt : w.cell? ⟨gt, 0, none⟩ = some (.int .i64 tol)) (hB : Pts w B m b) (hnx : nx ≤ m) (hm : m ≤ 1000000)
    (hp : isTime p.t) (ht0 : 0 ≤ tol) (ht1 : tol ≤ 1152921504606846976) :
    Calls Try.prog 12 #[.agg #[.int .i64 p.t, .int .i64 p.v, .int .i64 p.s], .pointer (some ⟨g, 0, none⟩), .pointer (some ⟨gb, 0, none⟩), .pointer (some ⟨gt, 0, none⟩)] w fun e w' => e = .returned (.bool ok) ∧ Below w.heap.size w w' := by
  have b1 : g < w.heap.size := World.block_lt_of_cell? w _ hg
  have b2 : gb < w.heap.size := World.block_lt_of_cell? w _ hgb
  have b3 : gt < w.heap.size := World.block_lt_of_cell? w _ hgt
  have HO := Lib.hid hok; clear hok
  obtain ⟨hp1, hp2⟩ := hp
  have es : IntKind.i64.wrap (p.t - tol) = p.t - tol := IntWalk.i64_in _ (by omega)
  by_cases h0 : 0 < nx
  · obtain ⟨n1, hn1⟩ : ∃ n1, nx = n1 + 1 := ⟨nx - 1, by omega⟩
    obtain ⟨bb, off, rfl, hbb, hc⟩ := hB (by omega)
    obtain ⟨q1, _, _⟩ := Pts.at_ hc (i := n1) (by omega)
    have en : IntKind.i64.wrap ((nx : Int) - 1) = (n1 : Int) := by rw [hn1]; rw [IntWalk.i64_in _ (by omega)]; omega
    have p0 : (0 : Int) < (nx : Int) := by omega
    have p1 : (0 : Int) ≤ (n1 : Int) := by omega
    have p2 : (n1 : Int) < (m : Int) := by omega
    have HN := Lib.hid hn1; clear hn1
    clear hc hB
    have key : ok = decide (p.t - tol ≤ (b n1).t) := by
      rw [Bool.eq_iff_iff, HO.out, decide_eq_true_eq]
      unfold nearP
      rw [HN.out, Nat.add_sub_cancel]
      exact ⟨fun h => h.2, fun h => ⟨by omega, h⟩⟩
    have KEY := Lib.hid key; clear key
    go_enter Try.func12, Try.ntmps12
    go_wp2_with fail
    go_quiet (fail)
    go_wp2
    go_ret
    refine ⟨?_, bel_drewN ((Below.refl _ _).alloc (Nat.le_refl _) _) _⟩
    rw [KEY.out]; first | rfl | exact ret_bool (by simp)
  · have hd : decide (0 < (nx : Int)) = false := by simp; omega
    have key : ok = false := by
      rcases Bool.eq_false_or_eq_true ok with h | h
      · exact absurd (HO.out.1 h).1 h0
      · exact h
    have KEY := Lib.hid key; clear key
    go_enter Try.func12, Try.ntmps12
    go_wp2_with fail
    go_quiet (fail)
    go_wp2
    go_ret
    refine ⟨?_, bel_drewN ((Below.refl _ _).alloc (Nat.le_refl _) _) _⟩
    rw [KEY.out]; first | rfl | exact ret_bool (by simp)
theorem pairElem : Elem Try.prog 24 31 (.agg #[.int .i64 0, .int .i64 0, .int .i64 0, .int .i64 0, .int .i64 0, .int .i64 0, .bool false]) 7 56 := Elem.mk' Try.underlying24 (by kernel_rfl) rfl (by decide)
/-- the round's state -/
def JoinRel (w3 : World) (n m : Nat) (a b : Nat → Pt) (tol : Int) (v i : Value) (wr : World) : Prop :=
  ∃ (k nx : Nat) (A : Option Addr) (c : Nat), k ≤ n ∧ i = .int .i64 k ∧ v = .slice A k c ∧ wr.ownsRow (w3.heap.size + 1) 31 7 (.slice A k c) k (cells7 (joinL a b m tol k)) ∧ Below w3.heap.size w3 wr ∧ w3.heap.size < wr.heap.size ∧
    wr.cell? ⟨w3.heap.size, 0, none⟩ = some (.int .i64 nx) ∧ wr.frozen? ⟨w3.heap.size, 0, none⟩ = false ∧ nx ≤ m ∧ ∀ j, j < nx → 0 < k ∧ (b j).t ≤ (a (k - 1)).t
def NextRel (w1 : World) (g m : Nat) (b : Nat → Pt) (t : Int) (wr : World) : Prop :=
  ∃ nx : Nat, w1.grownBy wr (some g) ∧ wr.cell? ⟨g, 0, none⟩ = some (.int .i64 nx) ∧ wr.frozen? ⟨g, 0, none⟩ = false ∧ nx ≤ m ∧ ∀ j, j < nx → (b j).t ≤ t
def JoinPost (w : World) (L : List Pr) (k : Int) (e : Ending) (w' : World) : Prop :=
  ∃ A c, e = .returned (.tuple #[.slice A L.length c, .int .i64 k]) ∧ w'.ownsRow w.heap.size 31 7 (.slice A L.length c) L.length (cells7 L) ∧ Below w.heap.size w w'
theorem kept_block {w w0 w1 : World} {row : Option Nat} (hg : w0.grownBy w1 row) {obj : Obj} (h0 : w0.heap = (w.alloc obj).heap) {g : Nat} (hlt : g < w.heap.size) (hne : row ≠ some g) : w1.heap[g]? = w.heap[g]? :=
  (hg.block g (by rw [h0]; simp; omega) hne.symm).trans (by rw [h0]; exact Below.heap_alloc w obj g hlt)
set_option maxRecDepth 100000 in
set_option maxHeartbeats 4000000 in
theorem join_yes (A B : Option Addr) (n ca m cb : Nat) (a b : Nat → Pt) (tol : Int) (w : World) (hA : Pts w A n a) (hB : Pts w B m b) (hn : n ≤ 1000000) (hm : m ≤ 1000000) (h : joinOk n a m b tol) :
    Calls Try.prog 6 #[.slice A n ca, .slice B m cb, .int .i64 tol] w (JoinPost w (joinL a b m tol n) 0) := by
  obtain ⟨hra, hrb, ht0, ht1⟩ := h
  have HRA := Lib.hid (fun w hA => rising_any A n ca a w hA hn true (by simpa using hra))
  have HRB := Lib.hid (fun w hB => rising_any B m cb b w hB hm true (by simpa using hrb))
  have HA := Lib.hid hA
  have HB := Lib.hid hB
  have RA := Lib.hid hra
  have RB := Lib.hid hrb
  clear hA hB hra hrb
  obtain ⟨W1, hW1⟩ : ∃ W1, W1 = (w.alloc (.cells #[.slice B m cb] 22)).alloc (.cells #[.int .i64 tol] 3) := ⟨_, rfl⟩
  have hb1 : Below w.heap.size w W1 := by rw [hW1]; exact ((Below.refl _ _).alloc (Nat.le_refl _) _).alloc (by simp) _
  have hs1 : W1.heap.size = w.heap.size + 2 := by rw [hW1]; simp
  have hc1 : W1.cell? ⟨w.heap.size, 0, none⟩ = some (.slice B m cb) := by rw [hW1]; simp
  have hc2 : W1.cell? ⟨w.heap.size + 1, 0, none⟩ = some (.int .i64 tol) := by rw [hW1]; simp
  have HW1 := Lib.hid hW1; clear hW1
  have HS1 := Lib.hid hs1; clear hs1
  have HC1 := Lib.hid hc1; clear hc1
  have HC2 := Lib.hid hc2; clear hc2
  go_enter Try.func6, Try.ntmps6
  go_wp2_with fail
  rw [← HW1.out]
  go_step3
  go_wp2_with fail
  with_reducible refine (HRA.out W1 (HA.out.below hb1)).mono ?_
  rintro e w2 ⟨rfl, hb2⟩
  have hb2' := bel_step hb1 (Nat.le_refl _) hb2
  have hs1 := HS1.out
  have d1 : w2.cell? ⟨w.heap.size, 0, none⟩ = some (.slice B m cb) := (hb2.cell (p := ⟨w.heap.size, 0, none⟩) (by simp; omega)).trans HC1.out
  go_wp2_with fail
  with_reducible refine (HRB.out w2 (HB.out.below hb2')).mono ?_
  rintro e w3 ⟨rfl, hb3⟩
  have hs2 := hb2.size
  have hs3 := hb3.size
  have hb3' := bel_step hb2' (Nat.le_refl _) hb3
  have hb13 := bel_step hb2 (Nat.le_refl _) hb3
  have d2 : w3.cell? ⟨w.heap.size, 0, none⟩ = some (.slice B m cb) := (hb13.cell (p := ⟨w.heap.size, 0, none⟩) (by simp; omega)).trans HC1.out
  have d3 : w3.cell? ⟨w.heap.size + 1, 0, none⟩ = some (.int .i64 tol) := (hb13.cell (p := ⟨w.heap.size + 1, 0, none⟩) (by simp; omega)).trans HC2.out
  have hA3 := HA.out.below hb3'
  have hB3 := HB.out.below hb3'
  have hw3 : w.heap.size + 1 < w3.heap.size := by omega
  clear d1 hb2 hb3 hb2' hb13 hb1 HRA HRB HA HB hs1 hs2 hs3 HS1 HC1 HC2 HW1
  go_wp2_with fail
  go_step3
  go_wp2_with fail
  go_loopw [8, 32] (JoinRel w3 n m a b tol) (fun _ i _ => n - (intOf i).toNat)
  case atStart => exact ⟨0, 0, none, 0, by omega, rfl, rfl, World.ownsRow_nil _ _ _ _, (Below.refl _ _).alloc (Nat.le_refl _) _, by simp, by simp, frozen_of_row _ _ _ _ _ (heap_alloc_new w3 _), by omega, fun j hj => by omega⟩
  case round =>
    obtain ⟨k, nx, A', c', hk, rfl, rfl, hown, hbel, hgs, hnc, hnf, hnx, hpre⟩ := hrel
    obtain ⟨wo, rfl⟩ : ∃ wo : World, wo = wr := ⟨_, rfl⟩
    by_cases hlt : k < n
    · obtain ⟨ba, oa, rfl, hba, hca⟩ := hA3 (by omega)
      obtain ⟨q1, q2, q3⟩ := Pts.at_ hca hlt
      have c1 : wo.cell? ⟨ba, oa + k * 3, none⟩ = some (.int .i64 (a k).t) := (hbel.cell (p := ⟨ba, oa + k * 3, none⟩) hba).trans q1
      have c2 : wo.cell? ⟨ba, oa + k * 3 + 1, none⟩ = some (.int .i64 (a k).v) := (hbel.cell (p := ⟨ba, oa + k * 3 + 1, none⟩) hba).trans q2
      have c3 : wo.cell? ⟨ba, oa + k * 3 + 2, none⟩ = some (.int .i64 (a k).s) := (hbel.cell (p := ⟨ba, oa + k * 3 + 2, none⟩) hba).trans q3
      clear q1 q2 q3 hca
      have hbna : ba < wo.heap.size := by omega
      have hpre2 : ∀ j, j < nx → (b j).t ≤ (a k).t := fun j hj => by
        obtain ⟨h0, h1⟩ := hpre j hj
        have := (RA.out k hlt).2 h0
        omega
      have htk : isTime (a k).t := (RA.out k hlt).1
      have HP := Lib.hid hpre2; clear hpre hpre2
      obtain ⟨p, hp⟩ : ∃ p, p = a k := ⟨_, rfl⟩
      rw [← hp] at c1 c2 c3 HP htk
      have HPE := Lib.hid hp; clear hp
      go_wp2_with fail
      obtain ⟨w4, hw4⟩ : ∃ w4, w4 = wo.alloc (.cells #[.int .i64 p.t, .int .i64 p.v, .int .i64 p.s] 29) := ⟨_, rfl⟩
      have hs4 : w4.heap.size = wo.heap.size + 1 := by rw [hw4]; simp
      have hown4 : w4.ownsRow (w3.heap.size + 1) 31 7 (.slice A' k c') k (cells7 (joinL a b m tol k)) := by rw [hw4]; exact hown.alloc _
      have hbel4 : Below w3.heap.size w3 w4 := by rw [hw4]; exact hbel.alloc (by omega) _
      have hnc4 : w4.cell? ⟨w3.heap.size, 0, none⟩ = some (.int .i64 nx) := by rw [hw4, World.cell?_alloc_lt _ _ _ (by simpa using hgs)]; exact hnc
      have hnf4 : w4.frozen? ⟨w3.heap.size, 0, none⟩ = false := by
        rw [hw4, World.frozen?_of_block (w := wo) (Below.heap_alloc wo _ _ (by simpa using hgs))]; exact hnf
      have hp4 : w4.cell? ⟨wo.heap.size, 0, none⟩ = some (.int .i64 p.t) ∧ w4.cell? ⟨wo.heap.size, 1, none⟩ = some (.int .i64 p.v) ∧ w4.cell? ⟨wo.heap.size, 2, none⟩ = some (.int .i64 p.s) := by rw [hw4]; simp
      rw [← hw4]
      have hob : ∀ g, g < w3.heap.size + 1 → (Value.slice A' k c').ownBlock ≠ some g := fun g hg => (own_not hown hg).symm
      have hneo : (Value.slice A' k c').ownBlock ≠ some wo.heap.size := fun e => by have := (hown.lt _ e).2; omega
      clear hw4 hown hbel hnc hnf c1 c2 c3
      go_loopw [36] (fun _ wr => NextRel w4 w3.heap.size m b p.t wr) (fun _ wr => m - (intOf ((wr.cell? ⟨w3.heap.size, 0, none⟩).getD undef)).toNat)
      case atStart => exact ⟨nx, grown_refl _ _, hnc4, hnf4, hnx, HP.out⟩
      case round =>
        obtain ⟨nx2, hgr, hnc5, hnf5, hnx2, hpre⟩ := hrel
        have HP2 := Lib.hid hpre; clear hpre
        have hsr := hgr.size
        have g1 : wr.cell? ⟨w.heap.size, 0, none⟩ = some (.slice B m cb) := by
          rw [grown_cell hgr (by omega) (by simp; omega), hbel4.cell (p := ⟨w.heap.size, 0, none⟩) (by simp; omega)]; exact d2
        have g2 : wr.cell? ⟨w.heap.size + 1, 0, none⟩ = some (.int .i64 tol) := by
          rw [grown_cell hgr (by omega) (by simp; omega), hbel4.cell (p := ⟨w.heap.size + 1, 0, none⟩) (by simp; omega)]; exact d3
        have g3 : wr.cell? ⟨wo.heap.size, 0, none⟩ = some (.int .i64 p.t) := by
          rw [grown_cell hgr (by omega) (by simp; omega)]; exact hp4.1
        have g4 : wr.cell? ⟨wo.heap.size, 1, none⟩ = some (.int .i64 p.v) := by
          rw [grown_cell hgr (by omega) (by simp; omega)]; exact hp4.2.1
        have g5 : wr.cell? ⟨wo.heap.size, 2, none⟩ = some (.int .i64 p.s) := by
          rw [grown_cell hgr (by omega) (by simp; omega)]; exact hp4.2.2
        by_cases hmore : nx2 < m
        · obtain ⟨bb, ob, hBB, hbb, hcb⟩ := hB3 (by omega)
          obtain ⟨q1, _, _⟩ := Pts.at_ hcb hmore
          rw [hBB] at g1
          have HBB := Lib.hid hBB; clear hBB
          have g6 : wr.cell? ⟨bb, ob + nx2 * 3, none⟩ = some (.int .i64 (b nx2).t) := by
            rw [grown_cell hgr (by omega) (by simp; omega), hbel4.cell (p := ⟨bb, ob + nx2 * 3, none⟩) hbb]; exact q1
          have i1 : (nx2 : Int) < (m : Int) := by omega
          have i0 : (0 : Int) ≤ (nx2 : Int) := Int.natCast_nonneg _
          by_cases hle : (b nx2).t ≤ p.t
          · have dd : decide ((b nx2).t ≤ p.t) = true := by simpa using hle
            have es : IntKind.i64.wrap ((nx2 : Int) + 1) = (nx2 : Int) + 1 := IntWalk.i64_in _ (by omega)
            clear hcb q1
            go_wp2
            go_quiet (fail)
            go_wp2
            refine ⟨⟨nx2 + 1, grown_set (grown_drewN hgr nq) _ _, ?_, by rw [World.frozen?_setCell]; exact hnf5, by omega, fun j hj => ?_⟩, ?_⟩
            · rw [World.cell?_setCell_same (wr.drewN nq) _ _ (u := .int .i64 nx2) hnc5]; simp
            · rcases Nat.lt_or_ge j nx2 with h | h
              · exact HP2.out j h
              · obtain rfl : j = nx2 := by omega
                exact hle
            · rw [World.cell?_setCell_same (wr.drewN nq) _ _ (u := .int .i64 nx2) hnc5, hnc5]; simp [intOf]; omega
          · have dd : decide ((b nx2).t ≤ p.t) = false := by simpa using hle
            have hpast : ∀ j, nx2 ≤ j → j < m → p.t < (b j).t := fun j h1 h2 => by
              rcases Nat.eq_or_lt_of_le h1 with h | h
              · rw [← h]; omega
              · have := rises_lt RB.out nx2 j h h2; omega
            have HNX  := Lib.hid (nxt_of b m nx2 p.t (by omega) (fun h => HP2.out _ (by omega)) hpast)
            clear hpast hcb q1
            go_wp2
            go_quiet (fail)
            go_wp2_with fail
            rw [← HBB.out] at g1
            clear HBB hbb g6
            obtain ⟨wn, hwn⟩ : ∃ wn : World, wn = wr.drewN nq := ⟨_, rfl⟩
            have hgn : w4.grownBy wn (some w3.heap.size) := by rw [hwn]; exact grown_drewN hgr nq
            have n1 : wn.cell? ⟨w.heap.size, 0, none⟩ = wr.cell? ⟨w.heap.size, 0, none⟩ := by rw [hwn]; rfl
            rw [g1] at n1
            have n2 : wn.cell? ⟨w.heap.size + 1, 0, none⟩ = some (.int .i64 tol) := by rw [hwn]; exact g2
            have n3 : wn.cell? ⟨wo.heap.size, 0, none⟩ = some (.int .i64 p.t) := by rw [hwn]; exact g3
            have n4 : wn.cell? ⟨wo.heap.size, 1, none⟩ = some (.int .i64 p.v) := by rw [hwn]; exact g4
            have n5 : wn.cell? ⟨wo.heap.size, 2, none⟩ = some (.int .i64 p.s) := by rw [hwn]; exact g5
            have nn : wn.cell? ⟨w3.heap.size, 0, none⟩ = some (.int .i64 nx2) := by rw [hwn]; exact hnc5
            have nf : wn.frozen? ⟨w3.heap.size, 0, none⟩ = false := by rw [hwn]; exact hnf5
            rw [← hwn]
            clear hwn hgr g1 g2 g3 g4 g5 hnc5 hnf5
            have hbn : Below w3.heap.size w3 wn := grown_below hbel4 hgn (by omega) (Nat.le_refl _)
            have hon := hown4.kept hgn (.inr (fun e => own_not hown4 (g := w3.heap.size) (by omega) e.symm))
            have hsn := hgn.size
            by_cases hnear : nearP b nx2 p tol
            · with_reducible refine (near_any p tol nx2 m cb _ _ _ _ b wn true (by simpa using hnear) nn n1 n2 (hB3.below hbn) hnx2 hm htk ht0 ht1).mono ?_
              rintro e w5 ⟨rfl, hb5⟩
              have hs5 := hb5.size
              have m1 := (hb5.cell (p := ⟨w.heap.size, 0, none⟩) (by simp; omega)).trans n1
              have m3 : w5.cell? ⟨wo.heap.size, 0, none⟩ = some (.int .i64 p.t) := (hb5.cell (p := ⟨wo.heap.size, 0, none⟩) (by simp; omega)).trans n3
              have m4 : w5.cell? ⟨wo.heap.size, 1, none⟩ = some (.int .i64 p.v) := (hb5.cell (p := ⟨wo.heap.size, 1, none⟩) (by simp; omega)).trans n4
              have m5 : w5.cell? ⟨wo.heap.size, 2, none⟩ = some (.int .i64 p.s) := (hb5.cell (p := ⟨wo.heap.size, 2, none⟩) (by simp; omega)).trans n5
              have mn : w5.cell? ⟨w3.heap.size, 0, none⟩ = some (.int .i64 nx2) := (hb5.cell (p := ⟨w3.heap.size, 0, none⟩) (by simp; omega)).trans nn
              have mf : w5.frozen? ⟨w3.heap.size, 0, none⟩ = false := (World.frozen?_of_block (hb5.block w3.heap.size (by omega))).trans nf
              have hbm := bel_step hbn (Nat.le_refl _) hb5
              have hom := own_below hon hb5
              clear n1 n2 n3 n4 n5 nn nf hbn hon hb5 hgn hown4 hbel4 hnc4 hnf4 hp4
              have hpos := hnear.1
              obtain ⟨n1, hn1⟩ : ∃ n1, nx2 = n1 + 1 := ⟨nx2 - 1, by omega⟩
              have en : IntKind.i64.wrap ((nx2 : Int) - 1) = (n1 : Int) := by rw [hn1]; rw [IntWalk.i64_in _ (by omega)]; omega
              have p1 : (0 : Int) ≤ (n1 : Int) := by omega
              have p2 : (n1 : Int) < (m : Int) := by omega
              have HJ := Lib.hid (show joinP b m tol p = ⟨p, b n1, true⟩ by
                unfold joinP
                rw [HNX.out, if_pos (show 0 < nx2 ∧ p.t - tol ≤ (b (nx2 - 1)).t from hnear), hn1, Nat.add_sub_cancel])
              have HN := Lib.hid hn1; clear hn1
              have HNEAR := Lib.hid hnear; clear hnear
              obtain ⟨bb, ob, hBB, hbb, hcb⟩ := hB3 (by omega)
              obtain ⟨q1, q2, q3⟩ := Pts.at_ hcb (i := n1) (by omega)
              rw [hBB] at m1
              have HBB := Lib.hid hBB; clear hBB
              have e1 : w5.cell? ⟨bb, ob + n1 * 3, none⟩ = some (.int .i64 (b n1).t) := (hbm.cell (p := ⟨bb, ob + n1 * 3, none⟩) hbb).trans q1
              have e2 : w5.cell? ⟨bb, ob + n1 * 3 + 1, none⟩ = some (.int .i64 (b n1).v) := (hbm.cell (p := ⟨bb, ob + n1 * 3 + 1, none⟩) hbb).trans q2
              have e3 : w5.cell? ⟨bb, ob + n1 * 3 + 2, none⟩ = some (.int .i64 (b n1).s) := (hbm.cell (p := ⟨bb, ob + n1 * 3 + 2, none⟩) hbb).trans q3
              clear hcb q1 q2 q3
              go_wp2_with fail
              go_region_held3 (fun w' => (w'.cell? ⟨wo.heap.size, 0, none⟩ = some (.int .i64 p.t) ∧ w'.cell? ⟨wo.heap.size, 1, none⟩ = some (.int .i64 p.v) ∧ w'.cell? ⟨wo.heap.size, 2, none⟩ = some (.int .i64 p.s)) ∧ w'.cell? ⟨w.heap.size, 0, none⟩ = some (.slice (some ⟨bb, ob, none⟩) m cb) ∧ w'.cell? ⟨w3.heap.size, 0, none⟩ = some (.int .i64 nx2) ∧ w'.cell? ⟨bb, ob + n1 * 3, none⟩ = some (.int .i64 (b n1).t) ∧ w'.cell? ⟨bb, ob + n1 * 3 + 1, none⟩ = some (.int .i64 (b n1).v) ∧ w'.cell? ⟨bb, ob + n1 * 3 + 2, none⟩ = some (.int .i64 (b n1).s))
                (first
                  | go_keep
                  | exact ⟨⟨(World.cell?_of_block (kept_block (g := wo.heap.size) hg1 rfl (by omega) hneo)).trans m3, (World.cell?_of_block (kept_block (g := wo.heap.size) hg1 rfl (by omega) hneo)).trans m4, (World.cell?_of_block (kept_block (g := wo.heap.size) hg1 rfl (by omega) hneo)).trans m5⟩, (World.cell?_of_block (kept_block (g := w.heap.size) hg1 rfl (by omega) (hob _ (by omega)))).trans m1, (World.cell?_of_block (kept_block (g := w3.heap.size) hg1 rfl (by omega) (hob _ (by omega)))).trans mn, (World.cell?_of_block (kept_block (g := bb) hg1 rfl (by omega) (hob _ (by omega)))).trans e1, (World.cell?_of_block (kept_block (g := bb) hg1 rfl (by omega) (hob _ (by omega)))).trans e2, (World.cell?_of_block (kept_block (g := bb) hg1 rfl (by omega) (hob _ (by omega)))).trans e3⟩)
                ((refine step_append_at pairElem (own_drew (hom.alloc _)) ((hbm.alloc (by omega) _).drew) (Nat.le_succ _) (by simp; omega) rfl _ _ rfl w5.heap.size (prCells ⟨p, b n1, true⟩) (heap_alloc_new w5 _) rfl rfl rfl (by simp [prCells, Value.oneCell']) (by unfold maxLen; omega) (by omega) ?_; intro A1 c1 w1 ho1 hb1 hg1))
              go_wp2
              refine ⟨⟨k + 1, nx2, A1, c1, by omega, by go_num, rfl, ?_, hb1, by have := hg1.size; ((try (simp at this)); omega), (World.cell?_of_block (kept_block (g := w3.heap.size) hg1 rfl (by omega) (hob _ (by omega)))).trans mn, (World.frozen?_of_block (kept_block (g := w3.heap.size) hg1 rfl (by omega) (hob _ (by omega)))).trans mf, hnx2, fun j hj => ⟨by omega, ?_⟩⟩, by simp [intOf]; omega⟩
              · rw [joinL_succ, cells7_append, cells7_one, ← HPE.out, HJ.out]; exact ho1
              · rw [Nat.add_sub_cancel, ← HPE.out]; exact HP2.out j hj
            · with_reducible refine (near_any p tol nx2 m cb _ _ _ _ b wn false (by simpa using hnear) nn n1 n2 (hB3.below hbn) hnx2 hm htk ht0 ht1).mono ?_
              rintro e w5 ⟨rfl, hb5⟩
              have hs5 := hb5.size
              have m1 := (hb5.cell (p := ⟨w.heap.size, 0, none⟩) (by simp; omega)).trans n1
              have m3 : w5.cell? ⟨wo.heap.size, 0, none⟩ = some (.int .i64 p.t) := (hb5.cell (p := ⟨wo.heap.size, 0, none⟩) (by simp; omega)).trans n3
              have m4 : w5.cell? ⟨wo.heap.size, 1, none⟩ = some (.int .i64 p.v) := (hb5.cell (p := ⟨wo.heap.size, 1, none⟩) (by simp; omega)).trans n4
              have m5 : w5.cell? ⟨wo.heap.size, 2, none⟩ = some (.int .i64 p.s) := (hb5.cell (p := ⟨wo.heap.size, 2, none⟩) (by simp; omega)).trans n5
              have mn : w5.cell? ⟨w3.heap.size, 0, none⟩ = some (.int .i64 nx2) := (hb5.cell (p := ⟨w3.heap.size, 0, none⟩) (by simp; omega)).trans nn
              have mf : w5.frozen? ⟨w3.heap.size, 0, none⟩ = false := (World.frozen?_of_block (hb5.block w3.heap.size (by omega))).trans nf
              have hbm := bel_step hbn (Nat.le_refl _) hb5
              have hom := own_below hon hb5
              clear n1 n2 n3 n4 n5 nn nf hbn hon hb5 hgn hown4 hbel4 hnc4 hnf4 hp4
              have HJ := Lib.hid (show joinP b m tol p = ⟨p, ⟨0, 0, 0⟩, false⟩ by
                unfold joinP
                rw [HNX.out, if_neg (show ¬ (0 < nx2 ∧ p.t - tol ≤ (b (nx2 - 1)).t) from hnear)])
              have HNEAR := Lib.hid hnear; clear hnear
              go_wp2_with (at_builtin; refine wpList_append_new pairElem hom hbm (Nat.le_succ _) (by omega) rfl _ _ rfl (prCells ⟨p, ⟨0, 0, 0⟩, false⟩) rfl rfl rfl (by simp [prCells, Value.oneCell']) (by unfold maxLen; omega) (by omega) ?_; intro A1 c1 w1 ho1 hb1 hg1)
              refine ⟨⟨k + 1, nx2, A1, c1, by omega, by go_num, rfl, ?_, hb1, by have := hg1.size; ((try (simp at this)); omega), (World.cell?_of_block (hg1.block w3.heap.size (by omega) (hob _ (by omega)).symm)).trans mn, (World.frozen?_of_block (hg1.block w3.heap.size (by omega) (hob _ (by omega)).symm)).trans mf, hnx2, fun j hj => ⟨by omega, ?_⟩⟩, by simp [intOf]; omega⟩
              · rw [joinL_succ, cells7_append, cells7_one, ← HPE.out, HJ.out]; exact ho1
              · rw [Nat.add_sub_cancel, ← HPE.out]; exact HP2.out j hj
        · have dd : decide ((nx2 : Int) < (m : Int)) = false := by simp; omega
          have HNX  := Lib.hid (nxt_of b m nx2 p.t (by omega) (fun h => HP2.out _ (by omega)) (fun j h1 h2 => by omega))
          go_wp2
          go_quiet (fail)
          go_wp2_with fail
          obtain ⟨wn, hwn⟩ : ∃ wn : World, wn = wr.drewN nq := ⟨_, rfl⟩
          have hgn : w4.grownBy wn (some w3.heap.size) := by rw [hwn]; exact grown_drewN hgr nq
          have n1 : wn.cell? ⟨w.heap.size, 0, none⟩ = wr.cell? ⟨w.heap.size, 0, none⟩ := by rw [hwn]; rfl
          rw [g1] at n1
          have n2 : wn.cell? ⟨w.heap.size + 1, 0, none⟩ = some (.int .i64 tol) := by rw [hwn]; exact g2
          have n3 : wn.cell? ⟨wo.heap.size, 0, none⟩ = some (.int .i64 p.t) := by rw [hwn]; exact g3
          have n4 : wn.cell? ⟨wo.heap.size, 1, none⟩ = some (.int .i64 p.v) := by rw [hwn]; exact g4
          have n5 : wn.cell? ⟨wo.heap.size, 2, none⟩ = some (.int .i64 p.s) := by rw [hwn]; exact g5
          have nn : wn.cell? ⟨w3.heap.size, 0, none⟩ = some (.int .i64 nx2) := by rw [hwn]; exact hnc5
          have nf : wn.frozen? ⟨w3.heap.size, 0, none⟩ = false := by rw [hwn]; exact hnf5
          rw [← hwn]
          clear hwn hgr g1 g2 g3 g4 g5 hnc5 hnf5
          have hbn : Below w3.heap.size w3 wn := grown_below hbel4 hgn (by omega) (Nat.le_refl _)
          have hon := hown4.kept hgn (.inr (fun e => own_not hown4 (g := w3.heap.size) (by omega) e.symm))
          have hsn := hgn.size
          by_cases hnear : nearP b nx2 p tol
          · with_reducible refine (near_any p tol nx2 m cb _ _ _ _ b wn true (by simpa using hnear) nn n1 n2 (hB3.below hbn) hnx2 hm htk ht0 ht1).mono ?_
            rintro e w5 ⟨rfl, hb5⟩
            have hs5 := hb5.size
            have m1 := (hb5.cell (p := ⟨w.heap.size, 0, none⟩) (by simp; omega)).trans n1
            have m3 : w5.cell? ⟨wo.heap.size, 0, none⟩ = some (.int .i64 p.t) := (hb5.cell (p := ⟨wo.heap.size, 0, none⟩) (by simp; omega)).trans n3
            have m4 : w5.cell? ⟨wo.heap.size, 1, none⟩ = some (.int .i64 p.v) := (hb5.cell (p := ⟨wo.heap.size, 1, none⟩) (by simp; omega)).trans n4
            have m5 : w5.cell? ⟨wo.heap.size, 2, none⟩ = some (.int .i64 p.s) := (hb5.cell (p := ⟨wo.heap.size, 2, none⟩) (by simp; omega)).trans n5
            have mn : w5.cell? ⟨w3.heap.size, 0, none⟩ = some (.int .i64 nx2) := (hb5.cell (p := ⟨w3.heap.size, 0, none⟩) (by simp; omega)).trans nn
            have mf : w5.frozen? ⟨w3.heap.size, 0, none⟩ = false := (World.frozen?_of_block (hb5.block w3.heap.size (by omega))).trans nf
            have hbm := bel_step hbn (Nat.le_refl _) hb5
            have hom := own_below hon hb5
            clear n1 n2 n3 n4 n5 nn nf hbn hon hb5 hgn hown4 hbel4 hnc4 hnf4 hp4
            have hpos := hnear.1
            obtain ⟨n1, hn1⟩ : ∃ n1, nx2 = n1 + 1 := ⟨nx2 - 1, by omega⟩
            have en : IntKind.i64.wrap ((nx2 : Int) - 1) = (n1 : Int) := by rw [hn1]; rw [IntWalk.i64_in _ (by omega)]; omega
            have p1 : (0 : Int) ≤ (n1 : Int) := by omega
            have p2 : (n1 : Int) < (m : Int) := by omega
            have HJ := Lib.hid (show joinP b m tol p = ⟨p, b n1, true⟩ by
              unfold joinP
              rw [HNX.out, if_pos (show 0 < nx2 ∧ p.t - tol ≤ (b (nx2 - 1)).t from hnear), hn1, Nat.add_sub_cancel])
            have HN := Lib.hid hn1; clear hn1
            have HNEAR := Lib.hid hnear; clear hnear
            obtain ⟨bb, ob, hBB, hbb, hcb⟩ := hB3 (by omega)
            obtain ⟨q1, q2, q3⟩ := Pts.at_ hcb (i := n1) (by omega)
            rw [hBB] at m1
            have HBB := Lib.hid hBB; clear hBB
            have e1 : w5.cell? ⟨bb, ob + n1 * 3, none⟩ = some (.int .i64 (b n1).t) := (hbm.cell (p := ⟨bb, ob + n1 * 3, none⟩) hbb).trans q1
            have e2 : w5.cell? ⟨bb, ob + n1 * 3 + 1, none⟩ = some (.int .i64 (b n1).v) := (hbm.cell (p := ⟨bb, ob + n1 * 3 + 1, none⟩) hbb).trans q2
            have e3 : w5.cell? ⟨bb, ob + n1 * 3 + 2, none⟩ = some (.int .i64 (b n1).s) := (hbm.cell (p := ⟨bb, ob + n1 * 3 + 2, none⟩) hbb).trans q3
            clear hcb q1 q2 q3
            go_wp2_with fail
            go_region_held3 (fun w' => (w'.cell? ⟨wo.heap.size, 0, none⟩ = some (.int .i64 p.t) ∧ w'.cell? ⟨wo.heap.size, 1, none⟩ = some (.int .i64 p.v) ∧ w'.cell? ⟨wo.heap.size, 2, none⟩ = some (.int .i64 p.s)) ∧ w'.cell? ⟨w.heap.size, 0, none⟩ = some (.slice (some ⟨bb, ob, none⟩) m cb) ∧ w'.cell? ⟨w3.heap.size, 0, none⟩ = some (.int .i64 nx2) ∧ w'.cell? ⟨bb, ob + n1 * 3, none⟩ = some (.int .i64 (b n1).t) ∧ w'.cell? ⟨bb, ob + n1 * 3 + 1, none⟩ = some (.int .i64 (b n1).v) ∧ w'.cell? ⟨bb, ob + n1 * 3 + 2, none⟩ = some (.int .i64 (b n1).s))
              (first
                | go_keep
                | exact ⟨⟨(World.cell?_of_block (kept_block (g := wo.heap.size) hg1 rfl (by omega) hneo)).trans m3, (World.cell?_of_block (kept_block (g := wo.heap.size) hg1 rfl (by omega) hneo)).trans m4, (World.cell?_of_block (kept_block (g := wo.heap.size) hg1 rfl (by omega) hneo)).trans m5⟩, (World.cell?_of_block (kept_block (g := w.heap.size) hg1 rfl (by omega) (hob _ (by omega)))).trans m1, (World.cell?_of_block (kept_block (g := w3.heap.size) hg1 rfl (by omega) (hob _ (by omega)))).trans mn, (World.cell?_of_block (kept_block (g := bb) hg1 rfl (by omega) (hob _ (by omega)))).trans e1, (World.cell?_of_block (kept_block (g := bb) hg1 rfl (by omega) (hob _ (by omega)))).trans e2, (World.cell?_of_block (kept_block (g := bb) hg1 rfl (by omega) (hob _ (by omega)))).trans e3⟩)
              ((refine step_append_at pairElem (own_drew (hom.alloc _)) ((hbm.alloc (by omega) _).drew) (Nat.le_succ _) (by simp; omega) rfl _ _ rfl w5.heap.size (prCells ⟨p, b n1, true⟩) (heap_alloc_new w5 _) rfl rfl rfl (by simp [prCells, Value.oneCell']) (by unfold maxLen; omega) (by omega) ?_; intro A1 c1 w1 ho1 hb1 hg1))
            go_wp2
            refine ⟨⟨k + 1, nx2, A1, c1, by omega, by go_num, rfl, ?_, hb1, by have := hg1.size; ((try (simp at this)); omega), (World.cell?_of_block (kept_block (g := w3.heap.size) hg1 rfl (by omega) (hob _ (by omega)))).trans mn, (World.frozen?_of_block (kept_block (g := w3.heap.size) hg1 rfl (by omega) (hob _ (by omega)))).trans mf, hnx2, fun j hj => ⟨by omega, ?_⟩⟩, by simp [intOf]; omega⟩
            · rw [joinL_succ, cells7_append, cells7_one, ← HPE.out, HJ.out]; exact ho1
            · rw [Nat.add_sub_cancel, ← HPE.out]; exact HP2.out j hj
          · with_reducible refine (near_any p tol nx2 m cb _ _ _ _ b wn false (by simpa using hnear) nn n1 n2 (hB3.below hbn) hnx2 hm htk ht0 ht1).mono ?_
            rintro e w5 ⟨rfl, hb5⟩
            have hs5 := hb5.size
            have m1 := (hb5.cell (p := ⟨w.heap.size, 0, none⟩) (by simp; omega)).trans n1
            have m3 : w5.cell? ⟨wo.heap.size, 0, none⟩ = some (.int .i64 p.t) := (hb5.cell (p := ⟨wo.heap.size, 0, none⟩) (by simp; omega)).trans n3
            have m4 : w5.cell? ⟨wo.heap.size, 1, none⟩ = some (.int .i64 p.v) := (hb5.cell (p := ⟨wo.heap.size, 1, none⟩) (by simp; omega)).trans n4
            have m5 : w5.cell? ⟨wo.heap.size, 2, none⟩ = some (.int .i64 p.s) := (hb5.cell (p := ⟨wo.heap.size, 2, none⟩) (by simp; omega)).trans n5
            have mn : w5.cell? ⟨w3.heap.size, 0, none⟩ = some (.int .i64 nx2) := (hb5.cell (p := ⟨w3.heap.size, 0, none⟩) (by simp; omega)).trans nn
            have mf : w5.frozen? ⟨w3.heap.size, 0, none⟩ = false := (World.frozen?_of_block (hb5.block w3.heap.size (by omega))).trans nf
            have hbm := bel_step hbn (Nat.le_refl _) hb5
            have hom := own_below hon hb5
            clear n1 n2 n3 n4 n5 nn nf hbn hon hb5 hgn hown4 hbel4 hnc4 hnf4 hp4
            have HJ := Lib.hid (show joinP b m tol p = ⟨p, ⟨0, 0, 0⟩, false⟩ by
              unfold joinP
              rw [HNX.out, if_neg (show ¬ (0 < nx2 ∧ p.t - tol ≤ (b (nx2 - 1)).t) from hnear)])
            have HNEAR := Lib.hid hnear; clear hnear
            go_wp2_with (at_builtin; refine wpList_append_new pairElem hom hbm (Nat.le_succ _) (by omega) rfl _ _ rfl (prCells ⟨p, ⟨0, 0, 0⟩, false⟩) rfl rfl rfl (by simp [prCells, Value.oneCell']) (by unfold maxLen; omega) (by omega) ?_; intro A1 c1 w1 ho1 hb1 hg1)
            refine ⟨⟨k + 1, nx2, A1, c1, by omega, by go_num, rfl, ?_, hb1, by have := hg1.size; ((try (simp at this)); omega), (World.cell?_of_block (hg1.block w3.heap.size (by omega) (hob _ (by omega)).symm)).trans mn, (World.frozen?_of_block (hg1.block w3.heap.size (by omega) (hob _ (by omega)).symm)).trans mf, hnx2, fun j hj => ⟨by omega, ?_⟩⟩, by simp [intOf]; omega⟩
            · rw [joinL_succ, cells7_append, cells7_one, ← HPE.out, HJ.out]; exact ho1
            · rw [Nat.add_sub_cancel, ← HPE.out]; exact HP2.out j hj
    · obtain rfl : k = n := by omega
      go_wp2
      rw [Exit.noGoto_ret]
      go_ret2
      have hlen := joinL_length a b m tol k
      exact ⟨A', c', by rw [hlen]; rfl, by rw [hlen]; exact own_less hown (by omega), hb3'.trans (hbel.mono (by omega))⟩
end Go.Proofs.Ytpblabpajliagaa

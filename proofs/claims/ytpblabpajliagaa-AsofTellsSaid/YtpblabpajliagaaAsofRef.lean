/- Contracts of tidemillref22.right and Join. -/
import Derived.Test.YtpblabpajliagaaAsofNo
import Derived.Test.YtpblabpajliagaaWideFns
namespace Go.Proofs.Ytpblabpajliagaa
open Go.RowKit
set_option linter.unusedVariables false

/-- a pair, by going through all -/
def scanP (b : Nat → Pt) (tol : Int) (p : Pt) : Nat → Pr
  | 0 => ⟨p, ⟨0, 0, 0⟩, false⟩
  | k + 1 => if (b k).t ≤ p.t ∧ p.t - tol ≤ (b k).t then ⟨p, b k, true⟩ else scanP b tol p k
theorem scan_none (b : Nat → Pt) (tol : Int) (p : Pt) (k : Nat) (h : ∀ j, j < k → (b j).t < p.t - tol) : scanP b tol p k = ⟨p, ⟨0, 0, 0⟩, false⟩ := by
  induction k with
  | zero => rfl
  | succ k ih =>
    have h1 := h k (by omega)
    rw [scanP, if_neg (by omega), ih (fun j hj => h j (by omega))]
theorem scan_join (b : Nat → Pt) (tol : Int) (p : Pt) (m : Nat) (hr : rises m b) : scanP b tol p m = joinP b m tol p := by
  induction m with
  | zero => unfold joinP; rw [if_neg (by simp [nxt])]; rfl
  | succ m ih =>
    have ih := ih (fun i hi => hr i (by omega))
    by_cases h1 : (b m).t ≤ p.t
    · have e : nxt b (m + 1) p.t = m + 1 := by simp [nxt, h1]
      by_cases h2 : p.t - tol ≤ (b m).t
      · rw [scanP, if_pos ⟨h1, h2⟩]
        unfold joinP
        rw [e, Nat.add_sub_cancel, if_pos ⟨by omega, h2⟩]
      · rw [scanP, if_neg (fun h => h2 h.2)]
        unfold joinP
        rw [e, Nat.add_sub_cancel, if_neg (fun h => h2 h.2)]
        exact scan_none b tol p m (fun j hj => by have := rises_lt hr j m hj (by omega); omega)
    · have e : nxt b (m + 1) p.t = nxt b m p.t := by simp [nxt, h1]
      rw [scanP, if_neg (fun h => h1 h.1), ih]
      unfold joinP
      rw [e]
theorem scanP_left (b : Nat → Pt) (tol : Int) (p : Pt) (k : Nat) : (scanP b tol p k).l = p := by
  induction k with
  | zero => rfl
  | succ k ih => rw [scanP]; split
                 · rfl
                 · exact ih
set_option maxHeartbeats 2000000 in
theorem refRight_any (A : Option Addr) (n c : Nat) (a : Nat → Pt) (w : World) (h : Pts w A n a) (hn : n ≤ 1000000) (ok : Bool) (hok : ok = true ↔ rises n a) :
    Calls Try.prog 13 #[.slice A n c] w fun e w' => e = .returned (.bool ok) ∧ Below w.heap.size w w' := by
  have HO := Lib.hid hok; clear hok
  go_enter Try.func13, Try.ntmps13
  go_wp2
  go_loopw [3] (fun i wr => ∃ k nn : Nat, k ≤ n ∧ i = .int .i64 k ∧ rises k a ∧ wr = w.drewN nn) (fun i _ => n - (intOf i).toNat)
  case atStart => exact ⟨0, 0, by omega, rfl, fun i hi => by omega, rfl⟩
  case round =>
    obtain ⟨k, nn, hk, rfl, hall, rfl⟩ := hrel
    have HA := Lib.hid hall; clear hall
    by_cases hlt : k < n
    · obtain ⟨b, off, rfl, hb, hc⟩ := h (by omega)
      obtain ⟨c1, c2, c3⟩ := Pts.at_ hc hlt
      have no : ¬ rises n a → Ending.returned (.bool false) = .returned (.bool ok) := fun hno => by
        rcases Bool.eq_false_or_eq_true ok with h | h
        · exact absurd (HO.out.1 h) hno
        · rw [h]
      have NO := Lib.hid no; clear no
      have i0 : (0 : Int) ≤ (k : Int) := Int.natCast_nonneg _
      have i1 : (k : Int) < (n : Int) := by omega
      by_cases g1 : (a k).t < -1152921504606846976
      · have d1 : decide ((a k).t < -1152921504606846976) = true := decide_eq_true g1
        clear hc h c2 c3
        go_wp2_with fail
        go_quiet (fail)
        go_wp2
        go_ret
        exact ⟨NO.out (fun hr => by have := (hr k hlt).1.1; omega), bel_drewN (bel_drewN (Below.refl _ _) _) _⟩
      · have d1 : decide ((a k).t < -1152921504606846976) = false := decide_eq_false g1
        by_cases g2 : 1152921504606846976 < (a k).t
        · have d2 : decide (1152921504606846976 < (a k).t) = true := decide_eq_true g2
          clear hc h c2 c3
          go_wp2_with fail
          go_quiet (fail)
          go_wp2
          go_ret
          exact ⟨NO.out (fun hr => by have := (hr k hlt).1.2; omega), bel_drewN (bel_drewN (Below.refl _ _) _) _⟩
        · have d2 : decide (1152921504606846976 < (a k).t) = false := decide_eq_false g2
          by_cases hk0 : 0 < k
          · obtain ⟨k1, hk1⟩ : ∃ k1, k = k1 + 1 := ⟨k - 1, by omega⟩
            obtain ⟨c4, _, _⟩ := Pts.at_ hc (i := k1) (by omega)
            have ek : IntKind.i64.wrap ((k : Int) - 1) = (k1 : Int) := by rw [hk1]; rw [IntWalk.i64_in _ (by omega)]; omega
            have p0 : (0 : Int) < (k : Int) := by omega
            have d0 : decide (0 < (k : Int)) = true := decide_eq_true p0
            have p1 : (0 : Int) ≤ (k1 : Int) := by omega
            have p2 : (k1 : Int) < (n : Int) := by omega
            have HK := Lib.hid hk1; clear hk1
            clear hc h c2 c3
            by_cases hf : (a k).t ≤ (a k1).t
            · have d3 : decide ((a k).t ≤ (a k1).t) = true := decide_eq_true hf
              go_wp2_with fail
              go_quiet (fail)
              go_wp2
              go_ret
              refine ⟨NO.out (fun hr => ?_), bel_drewN (bel_drewN (Below.refl _ _) _) _⟩
              have := (hr k hlt).2 hk0
              rw [HK.out] at this hf
              simp only [Nat.add_sub_cancel] at this
              omega
            · have d3 : decide ((a k).t ≤ (a k1).t) = false := decide_eq_false hf
              go_wp2_with fail
              go_quiet (fail)
              go_wp2
              refine ⟨⟨k + 1, _, by omega, by go_num, fun i hi => ?_, by first | rfl | (simp only [World.drewN_drewN]; rfl)⟩, by simp [intOf]; omega⟩
              rcases Nat.lt_or_ge i k with h | h
              · exact HA.out i h
              · obtain rfl : i = k := by omega
                exact ⟨⟨by omega, by omega⟩, fun _ => by rw [show i - 1 = k1 by have := HK.out; omega]; omega⟩
          · have d0 : decide (0 < (k : Int)) = false := by simp; omega
            clear hc h c2 c3
            go_wp2_with fail
            go_quiet (fail)
            go_wp2
            refine ⟨⟨k + 1, _, by omega, by go_num, fun i hi => ?_, by first | rfl | (simp only [World.drewN_drewN]; rfl)⟩, by simp [intOf]; omega⟩
            rcases Nat.lt_or_ge i k with h | h
            · exact HA.out i h
            · obtain rfl : i = k := by omega
              exact ⟨⟨by omega, by omega⟩, fun h => by omega⟩
    · have e : ok = true := HO.out.2 (fun i hi => HA.out i (by omega))
      have E := Lib.hid e; clear e
      go_wp2
      go_ret
      exact ⟨by rw [E.out]; rfl, bel_drewN (Below.refl _ _) _⟩
theorem rpairElem : Elem Try.prog 33 38 (.agg #[.int .i64 0, .int .i64 0, .int .i64 0, .int .i64 0, .int .i64 0, .int .i64 0, .bool false]) 7 56 := Elem.mk' Try.underlying33 (by kernel_rfl) rfl (by decide)
def RJoinPost (w : World) (L : List Pr) (k : Int) (e : Ending) (w' : World) : Prop :=
  ∃ A c, e = .returned (.tuple #[.slice A L.length c, .int .i64 k]) ∧ w'.ownsRow w.heap.size 38 7 (.slice A L.length c) L.length (cells7 L) ∧ Below w.heap.size w w'
def RJoinRel (w : World) (n m : Nat) (a b : Nat → Pt) (tol : Int) (v i : Value) (wr : World) : Prop :=
  ∃ (k : Nat) (A : Option Addr) (c : Nat), k ≤ n ∧ i = .int .i64 k ∧ v = .slice A k c ∧ wr.ownsRow w.heap.size 38 7 (.slice A k c) k (cells7 (joinL a b m tol k)) ∧ Below w.heap.size w wr
/-- the pair's cells -/
structure PairAt (g : Nat) (q : Pr) (wx : World) : Prop where
  c0 : wx.cell? ⟨g, 0, none⟩ = some (.int .i64 q.l.t)
  c1 : wx.cell? ⟨g, 1, none⟩ = some (.int .i64 q.l.v)
  c2 : wx.cell? ⟨g, 2, none⟩ = some (.int .i64 q.l.s)
  c3 : wx.cell? ⟨g, 3, none⟩ = some (.int .i64 q.r.t)
  c4 : wx.cell? ⟨g, 4, none⟩ = some (.int .i64 q.r.v)
  c5 : wx.cell? ⟨g, 5, none⟩ = some (.int .i64 q.r.s)
  c6 : wx.cell? ⟨g, 6, none⟩ = some (.bool q.has)
  fz : ∀ j, wx.frozen? ⟨g, j, none⟩ = false
theorem PairAt.new (w : World) (q : Pr) : PairAt w.heap.size q (w.alloc (.cells #[.int .i64 q.l.t, .int .i64 q.l.v, .int .i64 q.l.s, .int .i64 q.r.t, .int .i64 q.r.v, .int .i64 q.r.s, .bool q.has] 38)) :=
  ⟨by simp, by simp, by simp, by simp, by simp, by simp, by simp, fun j => frozen_of_row _ _ _ _ _ (heap_alloc_new w _)⟩
theorem PairAt.drN {g : Nat} {q : Pr} {wx : World} (h : PairAt g q wx) (n : Nat) : PairAt g q (wx.drewN n) := ⟨h.c0, h.c1, h.c2, h.c3, h.c4, h.c5, h.c6, h.fz⟩
theorem PairAt.set {g : Nat} {q : Pr} {wx : World} (h : PairAt g q wx) (r : Pt) : PairAt g ⟨q.l, r, true⟩ ((((wx.setCell ⟨g, 3, none⟩ (.int .i64 r.t)).setCell ⟨g, 4, none⟩ (.int .i64 r.v)).setCell ⟨g, 5, none⟩ (.int .i64 r.s)).setCell ⟨g, 6, none⟩ (.bool true)) := by
  obtain ⟨c0, c1, c2, c3, c4, c5, c6, fz⟩ := h
  have far : ∀ (j : Nat) (v : Value), j ≠ 3 → j ≠ 4 → j ≠ 5 → j ≠ 6 → wx.cell? ⟨g, j, none⟩ = some v → ((((wx.setCell ⟨g, 3, none⟩ (.int .i64 r.t)).setCell ⟨g, 4, none⟩ (.int .i64 r.v)).setCell ⟨g, 5, none⟩ (.int .i64 r.s)).setCell ⟨g, 6, none⟩ (.bool true)).cell? ⟨g, j, none⟩ = some v := by
    intro j v h3 h4 h5 h6 h
    rw [World.cell?_setCell_other _ _ _ _ (by simp <;> omega), World.cell?_setCell_other _ _ _ _ (by simp <;> omega), World.cell?_setCell_other _ _ _ _ (by simp <;> omega), World.cell?_setCell_other _ _ _ _ (by simp <;> omega)]
    exact h
  refine ⟨far 0 _ (by omega) (by omega) (by omega) (by omega) c0, far 1 _ (by omega) (by omega) (by omega) (by omega) c1, far 2 _ (by omega) (by omega) (by omega) (by omega) c2, ?_, ?_, ?_, ?_, fun j => by simp only [World.frozen?_setCell]; exact fz j⟩
  · rw [World.cell?_setCell_other _ _ _ _ (by simp), World.cell?_setCell_other _ _ _ _ (by simp), World.cell?_setCell_other _ _ _ _ (by simp)]
    exact World.cell?_setCell_same _ _ _ c3
  · rw [World.cell?_setCell_other _ _ _ _ (by simp), World.cell?_setCell_other _ _ _ _ (by simp)]
    refine World.cell?_setCell_same _ _ _ (u := .int .i64 q.r.v) ?_
    rw [World.cell?_setCell_other _ _ _ _ (by simp)]; exact c4
  · rw [World.cell?_setCell_other _ _ _ _ (by simp)]
    refine World.cell?_setCell_same _ _ _ (u := .int .i64 q.r.s) ?_
    rw [World.cell?_setCell_other _ _ _ _ (by simp), World.cell?_setCell_other _ _ _ _ (by simp)]; exact c5
  · refine World.cell?_setCell_same _ _ _ (u := .bool q.has) ?_
    rw [World.cell?_setCell_other _ _ _ _ (by simp), World.cell?_setCell_other _ _ _ _ (by simp), World.cell?_setCell_other _ _ _ _ (by simp)]; exact c6
def ScanRel (wo : World) (m : Nat) (b : Nat → Pt) (tol : Int) (p : Pt) (i : Value) (wr : World) : Prop :=
  ∃ k : Nat, k ≤ m ∧ i = .int .i64 k ∧ Below wo.heap.size wo wr ∧ PairAt wo.heap.size (scanP b tol p k) wr
set_option maxRecDepth 100000 in
set_option maxHeartbeats 4000000 in
theorem rjoin_yes (A B : Option Addr) (n ca m cb : Nat) (a b : Nat → Pt) (tol : Int) (w : World) (hA : Pts w A n a) (hB : Pts w B m b) (hn : n ≤ 1000000) (hm : m ≤ 1000000) (h : joinOk n a m b tol) :
    Calls Try.prog 7 #[.slice A n ca, .slice B m cb, .int .i64 tol] w (RJoinPost w (joinL a b m tol n) 0) := by
  obtain ⟨hra, hrb, ht0, ht1⟩ := h
  have HRA := Lib.hid (fun w hA => refRight_any A n ca a w hA hn true (by simpa using hra))
  have HRB := Lib.hid (fun w hB => refRight_any B m cb b w hB hm true (by simpa using hrb))
  have HA := Lib.hid hA
  have HB := Lib.hid hB
  have RA := Lib.hid hra
  have RB := Lib.hid hrb
  clear hA hB hra hrb
  go_enter Try.func7, Try.ntmps7
  go_wp2_with fail
  with_reducible refine (HRA.out w HA.out).mono ?_
  rintro e w1 ⟨rfl, hb1⟩
  go_wp2_with fail
  with_reducible refine (HRB.out w1 (HB.out.below hb1)).mono ?_
  rintro e w2 ⟨rfl, hb2⟩
  have hb := bel_step hb1 (Nat.le_refl _) hb2
  have PA := Lib.hid (HA.out.below hb)
  have PB := Lib.hid (HB.out.below hb)
  clear hb1 hb2 HRA HRB HA HB
  go_wp2_with fail
  go_loopw [8, 9] (RJoinRel w2 n m a b tol) (fun _ i _ => n - (intOf i).toNat)
  case atStart => exact ⟨0, none, 0, by omega, rfl, rfl, World.ownsRow_nil _ _ _ _, Below.refl _ _⟩
  case round =>
    obtain ⟨k, A', c', hk, rfl, rfl, hown, hbel⟩ := hrel
    obtain ⟨wo, rfl⟩ : ∃ wo : World, wo = wr := ⟨_, rfl⟩
    by_cases hlt : k < n
    · obtain ⟨ga, oa, hAA, hga, hca⟩ := PA.out (by omega)
      subst hAA
      obtain ⟨x0, x1, x2⟩ := Pts.at_ hca hlt
      have hti := (RA.out k hlt).1
      obtain ⟨p, hp⟩ : ∃ p, p = a k := ⟨_, rfl⟩
      rw [← hp] at x0 x1 x2 hti
      have HPE := Lib.hid hp; clear hp hca
      obtain ⟨ht2, ht3⟩ := hti
      have y0 := cell_be hbel x0
      have y1 := cell_be hbel x1
      have y2 := cell_be hbel x2
      have hso := hbel.size
      have i0 : (0 : Int) ≤ (k : Int) := Int.natCast_nonneg _
      have i1 : (k : Int) < (n : Int) := by omega
      have hga' : ga < wo.heap.size := by omega
      go_wp2_with fail
      go_loopw [11] (ScanRel wo m b tol p) (fun i _ => m - (intOf i).toNat)
      case atStart => exact ⟨0, by omega, rfl, (Below.refl _ _).alloc (Nat.le_refl _) _, PairAt.new wo ⟨p, ⟨0, 0, 0⟩, false⟩⟩
      case round =>
        obtain ⟨j, hj, rfl, hbs, HQ⟩ := hrel
        by_cases hjl : j < m
        · obtain ⟨gb, ob, hBB, hgb, hcb⟩ := PB.out (by omega)
          subst hBB
          obtain ⟨z0, z1, z2⟩ := Pts.at_ hcb hjl
          have q0 := cell_be hbs (cell_be hbel z0)
          have q1 := cell_be hbs (cell_be hbel z1)
          have q2 := cell_be hbs (cell_be hbel z2)
          have v0 := cell_be hbs y0
          obtain ⟨r, hr⟩ : ∃ r, r = b j := ⟨_, rfl⟩
          rw [← hr] at q0 q1 q2
          have HRE := Lib.hid hr; clear hr hcb z0 z1 z2
          have j0 : (0 : Int) ≤ (j : Int) := Int.natCast_nonneg _
          have j1 : (j : Int) < (m : Int) := by omega
          have es : IntKind.i64.wrap (p.t - tol) = p.t - tol := IntWalk.i64_in _ (by omega)
          obtain ⟨c0, c1, c2, c3, c4, c5, c6, fz⟩ := HQ
          have f3 := fz 3
          have f4 := fz 4
          have f5 := fz 5
          have f6 := fz 6
          have HQ := Lib.hid (show PairAt wo.heap.size (scanP b tol p j) wr from ⟨c0, c1, c2, c3, c4, c5, c6, fz⟩)
          clear fz c0 c1 c2
          by_cases h1 : r.t ≤ p.t
          · have d1 : decide (r.t ≤ p.t) = true := decide_eq_true h1
            by_cases h2 : p.t - tol ≤ r.t
            · have d2 : decide (p.t - tol ≤ r.t) = true := decide_eq_true h2
              have HN := Lib.hid (show scanP b tol p (j + 1) = ⟨(scanP b tol p j).l, r, true⟩ by rw [scanP, if_pos (by rw [← HRE.out]; exact ⟨h1, h2⟩), scanP_left, ← HRE.out])
              go_wp2_with fail
              go_quiet (fail)
              clear es
              go_wp2
              refine ⟨⟨j + 1, by omega, by go_num, ?_, ?_⟩, by simp [intOf]; omega⟩
              · exact ((((bel_drewN hbs nq).setCell (p := ⟨wo.heap.size, 3, none⟩) (Nat.le_refl _) _).setCell (p := ⟨wo.heap.size, 4, none⟩) (Nat.le_refl _) _).setCell (p := ⟨wo.heap.size, 5, none⟩) (Nat.le_refl _) _).setCell (p := ⟨wo.heap.size, 6, none⟩) (Nat.le_refl _) _
              · rw [HN.out]
                exact (HQ.out.drN nq).set r
            · have d2 : decide (p.t - tol ≤ r.t) = false := decide_eq_false h2
              have HN := Lib.hid (show scanP b tol p (j + 1) = scanP b tol p j by rw [scanP, if_neg (by rw [← HRE.out]; exact fun h => h2 h.2)])
              go_wp2_with fail
              go_quiet (fail)
              clear es
              go_wp2
              exact ⟨⟨j + 1, by omega, by go_num, bel_drewN hbs _, by rw [HN.out]; exact HQ.out.drN _⟩, by simp [intOf]; omega⟩
          · have d1 : decide (r.t ≤ p.t) = false := decide_eq_false h1
            have HN := Lib.hid (show scanP b tol p (j + 1) = scanP b tol p j by rw [scanP, if_neg (by rw [← HRE.out]; exact fun h => h1 h.1)])
            go_wp2_with fail
            go_quiet (fail)
            clear es
            go_wp2
            exact ⟨⟨j + 1, by omega, by go_num, bel_drewN hbs _, by rw [HN.out]; exact HQ.out.drN _⟩, by simp [intOf]; omega⟩
        · obtain rfl : j = m := by omega
          have HSJ := Lib.hid (scan_join b tol p j RB.out)
          obtain ⟨q, hq⟩ : ∃ q, q = scanP b tol p j := ⟨_, rfl⟩
          rw [← hq] at HQ HSJ
          clear hq
          obtain ⟨c0, c1, c2, c3, c4, c5, c6, fz⟩ := HQ
          have hown2 := own_below hown hbs
          have hbel2 := bel_step hbel (Nat.le_refl _) hbs
          have hs2 := hbel2.size
          clear fz hown hbel hbs
          go_wp2_with (at_builtin; refine wpList_append_new rpairElem hown2 hbel2 (Nat.le_refl _) hs2 rfl _ _ rfl (prCells q) rfl rfl rfl (by simp [prCells, Value.oneCell']) (by unfold maxLen; omega) (by omega) ?_; intro A1 c1 w1 ho1 hb1 hg1)
          refine ⟨⟨k + 1, A1, c1, by omega, by go_num, rfl, ?_, hb1⟩, by simp [intOf]; omega⟩
          rw [joinL_succ, cells7_append, cells7_one, ← HPE.out, ← HSJ.out]
          exact ho1
    · obtain rfl : k = n := by omega
      go_wp2
      go_ret2
      have hlen := joinL_length a b m tol k
      exact ⟨A', c', by rw [hlen]; rfl, by rw [hlen]; exact own_less hown hb.size, hb.trans (hbel.mono hb.size)⟩
end Go.Proofs.Ytpblabpajliagaa

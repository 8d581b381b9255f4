/- The walk of AsofTells: it returns true for any two lists and tolerance. -/
import Derived.Test.YtpblabpajliagaaAsofTellsParts
namespace Go.Proofs.Ytpblabpajliagaa
open Go.RowKit
set_option linter.unusedVariables false

theorem joinR_len (n : Nat) (a : Nat → Pt) (m : Nat) (b : Nat → Pt) (tol : Int) : (joinR n a m b tol).length ≤ n := by
  unfold joinR; split
  · rw [joinL_length]; exact Nat.le_refl _
  · simp
theorem joinR_at (n : Nat) (a : Nat → Pt) (m : Nat) (b : Nat → Pt) (tol : Int) (hA : ∀ j, j < n → in64 (a j).t ∧ in64 (a j).v ∧ in64 (a j).s) (hB : ∀ j, j < m → in64 (b j).t ∧ in64 (b j).v ∧ in64 (b j).s) :
    ∃ q : Nat → Pr, ∀ i, i < (joinR n a m b tol).length → (joinR n a m b tol)[i]? = some (q i) ∧ in64 (q i).r.v ∧ in64 (q i).l.v := by
  refine ⟨fun i => joinP b m tol (a i), fun i hi => ?_⟩
  unfold joinR at hi ⊢
  split at hi
  · rename_i h
    rw [joinL_length] at hi
    rw [if_pos h]
    refine ⟨joinL_at a b m tol n i hi, ?_, ?_⟩
    · show in64 (joinP b m tol (a i)).r.v
      unfold joinP
      split
      · rename_i h2
        have := nxt_le b m (a i).t
        exact (hB _ (by omega)).2.1
      · show in64 0; unfold in64; omega
    · rw [joinP_left]; exact (hA i hi).2.1
  · simp at hi
theorem join_four (A B : Option Addr) (w : World) (hA : Pts w A 1 (fun _ => ⟨5, 0, 0⟩)) (hB : Pts w B 1 (fun _ => ⟨4, 0, 0⟩)) :
    Calls Try.prog 6 #[.slice A 1 1, .slice B 1 1, .int .i64 2] w (JoinPost w [⟨⟨5, 0, 0⟩, ⟨4, 0, 0⟩, true⟩] 0) := by
  have h := join_yes A B 1 1 1 1 (fun _ => ⟨5, 0, 0⟩) (fun _ => ⟨4, 0, 0⟩) 2 w hA hB (by omega) (by omega) ⟨rises_c _ ⟨by decide, by decide⟩, rises_c _ ⟨by decide, by decide⟩, by omega, by omega⟩
  have e : joinL (fun _ => ⟨5, 0, 0⟩) (fun _ => ⟨4, 0, 0⟩) 1 2 1 = [⟨⟨5, 0, 0⟩, ⟨4, 0, 0⟩, true⟩] := by
    simp [joinL, joinP, nxt]
  rw [e] at h
  exact h
def TellRel (w : World) (N : Nat) (i : Value) (wr : World) : Prop := ∃ k : Nat, k ≤ N ∧ i = .int .i64 k ∧ Below w.heap.size w wr
def CutRel (w : World) (A : Option Addr) (x : Nat → Pt) (t : Value) (wx : World) : Prop := ∃ n c, t = .slice A n c ∧ n ≤ 150 ∧ Pts w A n x ∧ (∀ j, j < n → in64 (x j).t ∧ in64 (x j).v ∧ in64 (x j).s) ∧ w = wx
set_option maxRecDepth 100000 in
set_option maxHeartbeats 8000000 in
theorem asofTells_walk (w : World) (A : Option Addr) (n0 ca0 : Nat) (a : Nat → Pt) (hA : PtsArg w A n0 ca0 a) (B : Option Addr) (m0 cb0 : Nat) (b : Nat → Pt) (hB : PtsArg w B m0 cb0 b) (tol : Int) (htol : -9223372036854775808 ≤ tol ∧ tol ≤ 9223372036854775807) :
    Calls Try.prog 4 #[.slice A n0 ca0, .slice B m0 cb0, .int .i64 tol] w fun e w' => e = .returned (.bool true) ∧ Below w.heap.size w w' := by
  have QA := Lib.hid hA
  have QB := Lib.hid hB
  obtain ⟨_, lA, mA, _⟩ := hA
  obtain ⟨_, lB, mB, _⟩ := hB
  go_enter Try.func4, Try.ntmps4
  go_upto_if 19 with fail
  go_cut [0] (CutRel w A a)
  case first =>
    rcases Nat.lt_or_ge 150 n0 with h | h
    · have d0 : decide (150 < (n0 : Int)) = true := by simp; omega
      have d1 : (150 : Int) ≤ (ca0 : Int) := by omega
      have d2 : 150 ≤ ca0 := by omega
      go_wp2_with fail
      go_meet
      exact ⟨150, ca0, rfl, by omega, Cells.take QA.out.pts (by omega), fun j hj => QA.out.bd j (by omega), rfl⟩
    · have d0 : decide (150 < (n0 : Int)) = false := by simp; omega
      go_wp2_with fail
      go_meet
      exact ⟨n0, ca0, rfl, h, QA.out.pts, QA.out.bd, rfl⟩
  case rest =>
  obtain ⟨n, ca, rfl, hn, hPA, hDA, rfl⟩ := hcut
  have PA := Lib.hid hPA; clear hPA
  have DA := Lib.hid hDA; clear hDA
  go_upto_if 24 with fail
  go_cut [1] (CutRel w B b)
  case first =>
    rcases Nat.lt_or_ge 150 m0 with h | h
    · have d0 : decide (150 < (m0 : Int)) = true := by simp; omega
      have d1 : (150 : Int) ≤ (cb0 : Int) := by omega
      have d2 : 150 ≤ cb0 := by omega
      go_wp2_with fail
      go_meet
      exact ⟨150, cb0, rfl, by omega, Cells.take QB.out.pts (by omega), fun j hj => QB.out.bd j (by omega), rfl⟩
    · have d0 : decide (150 < (m0 : Int)) = false := by simp; omega
      go_wp2_with fail
      go_meet
      exact ⟨m0, cb0, rfl, h, QB.out.pts, QB.out.bd, rfl⟩
  case rest =>
  obtain ⟨m, cb, rfl, hm, hPB, hDB, rfl⟩ := hcut
  have PB := Lib.hid hPB; clear hPB
  have DB := Lib.hid hDB; clear hDB
  clear QA QB lA mA lB mB
  go_wp2_with fail
  with_reducible refine (join_any A B n ca m cb a b tol w PA.out PB.out (by omega) (by omega)).mono ?_
  rintro e w1 ⟨Ax, cx, rfl, hx, hb1⟩
  go_wp2_with fail
  with_reducible refine (rjoin_any A B n ca m cb a b tol w1 (PA.out.below hb1) (PB.out.below hb1) (by omega) (by omega)).mono ?_
  rintro e w2 ⟨Ay, cy, rfl, hy, hb2⟩
  have hx2 := own_below hx hb2
  have hbw2 := bel_step hb1 (Nat.le_refl _) hb2
  clear hx hb1 hb2
  have hle := joinR_len n a m b tol
  obtain ⟨q, hq⟩ := joinR_at n a m b tol DA.out DB.out
  obtain ⟨M, hM⟩ : ∃ M, M = joinR n a m b tol := ⟨_, rfl⟩
  obtain ⟨E, hE⟩ : ∃ E, E = joinE n a m b tol := ⟨_, rfl⟩
  rw [← hM] at hx2 hy hle hq ⊢
  rw [← hE]
  clear hM hE
  obtain ⟨N, hN⟩ : ∃ N, N = M.length := ⟨_, rfl⟩
  rw [← hN] at hx2 hy hle hq ⊢
  have PX := Lib.hid (show Prs w2 Ax N q from Prs.of_own (fun i hi => (hq i hi).1) hx2)
  have PY := Lib.hid (show Prs w2 Ay N q from Prs.of_own (fun i hi => (hq i hi).1) hy)
  have HQB := Lib.hid (fun i (hi : i < N) => (hq i hi).2)
  clear hx2 hy hq hN
  go_wp2_with fail
  with_reducible refine (rows_any Ax N cx q w2 PX.out (by omega) HQB.out).mono ?_
  rintro e w3 ⟨Ar, cr, rfl, hr, hb3⟩
  have hbw3 := bel_step hbw2 (Nat.le_refl _) hb3
  have PX3 := Lib.hid (PX.out.below hb3)
  have PY3 := Lib.hid (PY.out.below hb3)
  have PR3 := Lib.hid (show Rws w3 Ar N (fun i => rowOf (q i)) from Rws.of_own (fun i hi => rowsL_at _ N i hi) hr)
  clear PX PY hr hb3 hbw2
  go_wp2_with fail
  go_loopw [12] (TellRel w3 N) (fun i _ => N - (intOf i).toNat)
  case atStart => exact ⟨0, by omega, rfl, Below.refl _ _⟩
  case round =>
    obtain ⟨k, hk, rfl, hbel⟩ := hrel
    by_cases hlt : k < N
    · obtain ⟨gx, ox, hAX, hgx, hcx⟩ := PX3.out (by omega)
      obtain ⟨gy, oy, hAY, hgy, hcy⟩ := PY3.out (by omega)
      obtain ⟨gr, or_, hAR, hgr, hcr⟩ := PR3.out (by omega)
      subst hAX hAY hAR
      obtain ⟨x0, x1, x2, x3, x4, x5, x6⟩ := Prs.at_ hcx hlt
      obtain ⟨y0, y1, y2, y3, y4, y5, y6⟩ := Prs.at_ hcy hlt
      obtain ⟨r0, r1, r2, r3, r4⟩ := Rws.at_ hcr hlt
      obtain ⟨vb1, vb2⟩ := HQB.out k hlt
      clear hcx hcy hcr
      have i0 : (0 : Int) ≤ (k : Int) := Int.natCast_nonneg _
      have i1 : (k : Int) < (N : Int) := by omega
      obtain ⟨p, hp⟩ : ∃ p, p = q k := ⟨_, rfl⟩
      simp only [← hp] at x0 x1 x2 x3 x4 x5 x6 y0 y1 y2 y3 y4 y5 y6 r0 r1 r2 r3 r4 vb1 vb2
      clear hp
      replace x0 := cell_be hbel x0
      replace x1 := cell_be hbel x1
      replace x2 := cell_be hbel x2
      replace x3 := cell_be hbel x3
      replace x4 := cell_be hbel x4
      replace x5 := cell_be hbel x5
      replace x6 := cell_be hbel x6
      replace y0 := cell_be hbel y0
      replace y1 := cell_be hbel y1
      replace y2 := cell_be hbel y2
      replace y3 := cell_be hbel y3
      replace y4 := cell_be hbel y4
      replace y5 := cell_be hbel y5
      replace y6 := cell_be hbel y6
      replace r0 := cell_be hbel r0
      replace r1 := cell_be hbel r1
      replace r2 := cell_be hbel r2
      replace r3 := cell_be hbel r3
      replace r4 := cell_be hbel r4
      by_cases hh : p.has = true
      · have er : rowOf p = ⟨p.l.t, p.r.t, false, p.r.v - p.l.v⟩ := by unfold rowOf; rw [if_pos hh]
        rw [er] at r0 r1 r2 r3 r4
        rw [hh] at x6 y6
        simp only at r0 r1 r2 r3 r4
        clear er hh
        go_upto_region 15 with fail
        go_cut [99] (fun t wx => t = .bool false ∧ ∃ nn, wx = wr.drewN nn)
        case first =>
          go_quiet (fail)
          go_wp2_with fail
          go_meet
          exact ⟨rfl, _, rfl⟩
        case rest =>
        obtain ⟨rfl, nq, rfl⟩ := hcut
        obtain ⟨W, hW⟩ : ∃ W, W = wr.drewN nq := ⟨_, rfl⟩
        replace x0 := cell_drN (n := nq) x0
        replace x1 := cell_drN (n := nq) x1
        replace x2 := cell_drN (n := nq) x2
        replace x3 := cell_drN (n := nq) x3
        replace x4 := cell_drN (n := nq) x4
        replace x5 := cell_drN (n := nq) x5
        replace x6 := cell_drN (n := nq) x6
        replace y0 := cell_drN (n := nq) y0
        replace y1 := cell_drN (n := nq) y1
        replace y2 := cell_drN (n := nq) y2
        replace y3 := cell_drN (n := nq) y3
        replace y4 := cell_drN (n := nq) y4
        replace y5 := cell_drN (n := nq) y5
        replace y6 := cell_drN (n := nq) y6
        replace r0 := cell_drN (n := nq) r0
        replace r1 := cell_drN (n := nq) r1
        replace r2 := cell_drN (n := nq) r2
        replace r3 := cell_drN (n := nq) r3
        replace r4 := cell_drN (n := nq) r4
        rw [← hW] at x0 x1 x2 x3 x4 x5 x6 y0 y1 y2 y3 y4 y5 y6 r0 r1 r2 r3 r4
        have hbW : Below w3.heap.size w3 W := by rw [hW]; exact bel_drewN hbel nq
        rw [← hW]
        clear hW hbel
        go_wp2_with fail
        go_upto_region 18 with fail
        refine tells18 gy oy N cy k p W _ _ _ _ _ _ _ _ _ _ _ _ _ _ _ _ _ _ _ _ _ _ _ _ _ _ _ _ _ _ _ _ _ _ _ _ _ _ _ _ _ _ _ _ _ _ _ _ _ _ _ _ _ _ _ _ _ _ _ _ _ _ _ _ _ _ _ _ _ _ _ _ _ _ _ _ _ _ _ _ _ _ _ _ _ _ _ _ _ _ _ _ _ _ _ _ _ _ _ _ _ _ _ _ _ _ _ _ _ _ _ _ _ _ _ _ _ _ _ _ _ _ _ _ _ _ _ _ _ _ _ _ _ _ _ _ _ _ _ _ _ _ _ _ _ _ _ _ _ _ _ _ _ _ _ _ _ _ _ _ _ _ _ _ _ _ _ _ _ _ _ _ _ _ _ _ _ _ _ _ _ _ _ _ _ _ _ _ _ _ _ _ _ _ _ _ _ _ _ _ _ _ _ _ _ _ _ _ _ _ vb1 vb2 i0 i1 y1 y4 (Lib.hid ?_)
        intro u14 u105 u106 u107 u108 u109 u110 u111 u112 u113 u114 u115 u116 u117 u118 u119 u120 u121 u122 u123 u124 u125 u126 u127 u128 u129 u130 u131 u132 u133 u134 u135 u136 u137 u138 g wx hbg HG
        replace r1 := cell_be hbg r1
        replace r3 := cell_be hbg r3
        replace r4 := cell_be hbg r4
        replace y3 := cell_be hbg y3
        have hbc := bel_step hbW (Nat.le_refl _) hbg
        clear hbW hbg x0 x1 x2 x3 x4 x5 x6 y0 y1 y2 y4 y5 y6 r0 r2
        go_upto_region 19 with fail
        refine tells19 gy oy N cy gr or_ cr k g p.r.t (p.r.v - p.l.v) wx _ _ _ _ _ _ _ _ _ _ _ _ _ _ _ _ _ _ _ _ _ _ _ _ _ _ _ _ _ _ _ _ _ _ _ _ _ _ _ _ _ _ _ _ _ _ _ _ _ _ _ _ _ _ _ _ _ _ _ _ _ _ _ _ _ _ _ _ _ _ _ _ _ _ _ _ _ _ _ _ _ _ _ _ _ _ _ _ _ _ _ _ _ _ _ _ _ _ _ _ _ _ _ _ _ _ _ _ _ _ _ _ _ _ _ _ _ _ _ _ _ _ _ _ _ _ _ _ _ _ _ _ _ _ _ _ _ _ _ _ _ _ _ _ _ _ _ _ _ _ _ _ _ _ _ _ _ _ _ _ _ _ _ _ _ _ _ _ _ _ _ _ _ _ _ _ _ _ _ _ _ _ _ _ _ _ _ _ _ _ _ _ _ _ _ _ _ _ _ _ _ _ _ _ _ _ _ _ i0 i1 r1 r3 r4 y3 HG (Lib.hid ?_)
        intro u139 u140 u141 u142 u143 u144 u145 u146 u147 u148 u149 u150 u151 u152 u153 u154 u155 u156 u157 u158 u159 u160 u161 u162 u163 u164 u165 u166 wy hby
        replace hbc := bel_step hbc (Nat.le_refl _) hby
        clear hby HG r1 r3 r4 y3
        go_wp2
        exact ⟨⟨k + 1, by omega, by go_num, hbc⟩, by simp [intOf]; omega⟩
      · have hh' : p.has = false := by simpa using hh
        have er : rowOf p = ⟨p.l.t, p.l.t, true, 0⟩ := by unfold rowOf; rw [if_neg hh]
        rw [er] at r0 r1 r2 r3 r4
        rw [hh'] at x6 y6
        simp only [hiW_zero, loW_zero] at r0 r1 r2 r3 r4
        clear er hh hh'
        go_upto_region 15 with fail
        go_cut [99] (fun t wx => t = .bool false ∧ ∃ nn, wx = wr.drewN nn)
        case first =>
          go_quiet (fail)
          go_wp2_with fail
          go_meet
          exact ⟨rfl, _, rfl⟩
        case rest =>
        obtain ⟨rfl, nq, rfl⟩ := hcut
        go_upto_region 21 with fail
        go_cut [188] (fun t wx => t = .bool false ∧ ∃ nn, wx = (wr.drewN nq).drewN nn)
        case first =>
          go_quiet (fail)
          go_wp2_with fail
          go_meet
          exact ⟨rfl, _, rfl⟩
        case rest =>
        obtain ⟨rfl, nm, rfl⟩ := hcut
        go_wp2
        exact ⟨⟨k + 1, by omega, by go_num, by first | exact bel_drewN (bel_drewN hbel _) _ | exact bel_drewN hbel _⟩, by simp [intOf]; omega⟩
    · have hbw := bel_step hbw3 (Nat.le_refl _) hbel
      go_wp2_with fail
      obtain ⟨W, hW⟩ : ∃ W, W = (wr.alloc (.cells #[.int .i64 5, .int .i64 0, .int .i64 0] 29)).alloc (.cells #[.int .i64 4, .int .i64 0, .int .i64 0] 29) := ⟨_, rfl⟩
      have hbW : Below wr.heap.size wr W := by rw [hW]; exact ((Below.refl _ _).alloc (Nat.le_refl _) _).alloc (by simp) _
      have pa : Pts W (some ⟨wr.heap.size, 0, none⟩) 1 (fun _ => ⟨5, 0, 0⟩) := by rw [hW]; exact (pt_one wr 5 0 0).below ((Below.refl _ _).alloc (Nat.le_refl _) _)
      have pb : Pts W (some ⟨wr.heap.size + 1, 0, none⟩) 1 (fun _ => ⟨4, 0, 0⟩) := by
        rw [hW]
        have := pt_one (wr.alloc (.cells #[.int .i64 5, .int .i64 0, .int .i64 0] 29)) 4 0 0
        simpa using this
      rw [← hW]
      clear hW
      with_reducible refine (join_four _ _ W pa pb).mono ?_
      rintro e w4 ⟨Ao, co, rfl, ho, hb4⟩
      have hbw4 := bel_step hbw (Nat.le_refl _) (bel_step hbW (Nat.le_refl _) hb4)
      have o0 := own_cells ho (fun j => ((prCells ⟨⟨5, 0, 0⟩, ⟨4, 0, 0⟩, true⟩)[j]?).getD undef) (fun j hj => by rcases (show j = 0 ∨ j = 1 ∨ j = 2 ∨ j = 3 ∨ j = 4 ∨ j = 5 ∨ j = 6 by simp at hj; omega) with rfl | rfl | rfl | rfl | rfl | rfl | rfl <;> rfl) (by decide)
      obtain ⟨go, oo, hAo, hgo, hco⟩ := o0
      obtain rfl := hAo
      have o6 : w4.cell? ⟨go, oo + 6, none⟩ = some (.bool true) := hco 6 (by decide)
      clear hco hgo ho hb4 hbW pa pb hbw
      simp only [List.length_cons, List.length_nil, Nat.zero_add]
      go_wp2
      go_ret
      exact ⟨rfl, hbw4⟩
end Go.Proofs.Ytpblabpajliagaa

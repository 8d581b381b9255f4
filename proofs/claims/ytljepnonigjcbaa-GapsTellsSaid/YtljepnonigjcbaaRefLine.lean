/- The contract of tidemillref23.line. -/
import Derived.Test.YtljepnonigjcbaaRefLineA
import Derived.Test.YtljepnonigjcbaaRefDiv
import Derived.Test.YtljepnonigjcbaaGRows
namespace Go.Proofs.Ytljepnonigjcbaa
open Go Go.RowKit
set_option linter.unusedVariables false

def lineOk (d t : Int) : Bool := decide (fits d ∧ fits (d * t))
def lineV (pv d t D : Int) : Int := if fits d ∧ fits (d * t) then sumOf (pv + d * t / D) else 0
theorem fits_ediv (x D : Int) (h : fits x) (hD : 0 < D) : fits (x / D) := by
  unfold fits at *
  have h1 : x / D ≤ 170141183460469231731687303715884105727 / D := Int.ediv_le_ediv hD h.2
  have h2 : -170141183460469231731687303715884105728 / D ≤ x / D := Int.ediv_le_ediv hD h.1
  have h3 : (170141183460469231731687303715884105727 : Int) / D ≤ 170141183460469231731687303715884105727 := Int.ediv_le_self _ (by decide)
  have h4 : (-170141183460469231731687303715884105728 : Int) ≤ -170141183460469231731687303715884105728 / D := (Int.le_ediv_iff_mul_le hD).2 (by omega)
  omega
/-- the two rows, and the result -/
structure LineAt (w : World) (pf pv nf nv : Int) (wx : World) : Prop where
  bel : Below w.heap.size w wx
  p0 : wx.cell? ⟨w.heap.size, 0, none⟩ = some (.int .i64 pf)
  p3 : wx.cell? ⟨w.heap.size, 3, none⟩ = some (.int .i64 (hiW pv))
  p4 : wx.cell? ⟨w.heap.size, 4, none⟩ = some (.int .u64 (loW pv))
  n0 : wx.cell? ⟨w.heap.size + 1, 0, none⟩ = some (.int .i64 nf)
  n3 : wx.cell? ⟨w.heap.size + 1, 3, none⟩ = some (.int .i64 (hiW nv))
  n4 : wx.cell? ⟨w.heap.size + 1, 4, none⟩ = some (.int .u64 (loW nv))
  r : TwoZ wx (w.heap.size + 1 + 1) (.int .i64 0) (.int .u64 0)
theorem LineAt.step {w wx wy : World} {pf pv nf nv : Int} (h : LineAt w pf pv nf nv wx) (hb : Below wx.heap.size wx wy) : LineAt w pf pv nf nv wy :=
  ⟨h.bel.trans (hb.mono h.bel.size), cell_be hb h.p0, cell_be hb h.p3, cell_be hb h.p4, cell_be hb h.n0, cell_be hb h.n3, cell_be hb h.n4, h.r.be hb⟩
set_option maxRecDepth 100000 in
set_option maxHeartbeats 4000000 in
theorem rline_any (pf pt : Int) (pz : Bool) (pv nf nt : Int) (nz : Bool) (nv at_ : Int) (w : World) (hpv : fits pv) (hnv : fits nv) (hD0 : 0 < nf - pf) (hD1 : nf - pf ≤ 9223372036854775807) (ht0 : -9223372036854775808 ≤ at_ - pf) (ht1 : at_ - pf ≤ 9223372036854775807) :
    Calls Try.prog 18 #[.agg #[.int .i64 pf, .int .i64 pt, .bool pz, .int .i64 (hiW pv), .int .u64 (loW pv)], .agg #[.int .i64 nf, .int .i64 nt, .bool nz, .int .i64 (hiW nv), .int .u64 (loW nv)], .int .i64 at_] w fun e w' => e = .returned (.tuple #[.agg #[.int .i64 (hiW (lineV pv (nv - pv) (at_ - pf) (nf - pf))), .int .u64 (loW (lineV pv (nv - pv) (at_ - pf) (nf - pf)))], .bool (lineOk (nv - pv) (at_ - pf))]) ∧ Below w.heap.size w w' := by
  have e1 : IntKind.i64.wrap (at_ - pf) = at_ - pf := IntWalk.i64_in _ (by omega)
  have e2 : IntKind.i64.wrap (nf - pf) = nf - pf := IntWalk.i64_in _ (by omega)
  obtain ⟨W0, hW0⟩ : ∃ W0, W0 = ((w.alloc (.cells #[.int .i64 pf, .int .i64 pt, .bool pz, .int .i64 (hiW pv), .int .u64 (loW pv)] 39)).alloc (.cells #[.int .i64 nf, .int .i64 nt, .bool nz, .int .i64 (hiW nv), .int .u64 (loW nv)] 39)).alloc (.cells #[.int .i64 0, .int .u64 0] 37) := ⟨_, rfl⟩
  have LA : LineAt w pf pv nf nv W0 := by
    rw [hW0]
    refine ⟨(((Below.refl _ _).alloc (Nat.le_refl _) _).alloc (by simp) _).alloc (by simp; omega) _, cell_al (cell_al (cell_newk rfl rfl)), cell_al (cell_al (cell_newk rfl rfl)), cell_al (cell_al (cell_newk rfl rfl)), cell_al (cell_newk (by simp) rfl), cell_al (cell_newk (by simp) rfl), cell_al (cell_newk (by simp) rfl), TwoZ.new (by simp) _ _ _⟩
  have HH := Lib.hid hW0; clear hW0
  obtain ⟨t, ht⟩ : ∃ t, t = at_ - pf := ⟨_, rfl⟩
  obtain ⟨D, hD⟩ : ∃ D, D = nf - pf := ⟨_, rfl⟩
  obtain ⟨dd, hd⟩ : ∃ dd, dd = nv - pv := ⟨_, rfl⟩
  replace e1 := e1.trans ht.symm
  replace e2 := e2.trans hD.symm
  rw [← ht] at ht0 ht1 ⊢
  rw [← hD] at hD0 hD1 ⊢
  rw [← hd]
  replace ht := Lib.hid ht; replace hD := Lib.hid hD
  go_enter Try.func18, Try.ntmps18
  go_upto_region 1 with fail
  rw [← HH.out]
  clear HH
  refine line1 W0 w.heap.size (w.heap.size + 1) pv nv _ _ _ _ _ _ _ _ _ _ _ _ _ _ _ _ _ _ _ _ _ _ _ _ _ _ _ _ _ _ _ _ _ _ _ _ _ _ _ _ _ _ _ _ _ _ _ _ _ _ _ _ _ _ _ _ _ _ _ _ _ _ _ _ _ _ _ _ hpv hnv LA.p3 LA.p4 LA.n3 LA.n4 (Lib.hid ?_)
  intro u17 u18 u19 u20 u21 u22 u23 u24 u25 u26 g wx hbx hgl E1
  replace LA := LA.step hbx
  clear hbx
  rw [← hd] at E1 ⊢
  replace hd := Lib.hid hd
  by_cases hf : fits dd
  · rw [sumOf_yes hf] at E1
    rw [decide_eq_true hf]
    have HT := Lib.hid (fun w => rtimes_any dd t w hf ht0 ht1)
    have a0 := (E1 0 (by omega)).1
    have a1 := (E1 1 (by omega)).1
    have a2 := (E1 2 (by omega)).1
    have a3 := (E1 3 (by omega)).1
    have a4 := (E1 4 (by omega)).1
    have a5 := (E1 5 (by omega)).1
    have a6 := (E1 6 (by omega)).1
    have a7 := (E1 7 (by omega)).1
    obtain ⟨p0, p3, p4, n0, n3, n4⟩ := (show _ ∧ _ ∧ _ ∧ _ ∧ _ ∧ _ from ⟨LA.p0, LA.p3, LA.p4, LA.n0, LA.n3, LA.n4⟩)
    replace LA := Lib.hid LA
    replace E1 := Lib.hid E1
    go_wp2_with fail
    with_reducible refine (HT.out _).mono ?_
    rintro e w1 ⟨rfl, hb1⟩
    have LB := LA.out.step hb1
    clear hb1 LA E1 p0 p3 p4 n0 n3 n4 HT
    clear a0 a1 a2 a3 a4 a5 a6 a7
    by_cases hx : fits (dd * t)
    · rw [sumOf_yes hx, decide_eq_true hx]
      have E0 : Hid (lineOk dd t = true ∧ lineV pv dd t D = sumOf (pv + dd * t / D)) := Lib.hid ⟨decide_eq_true ⟨hf, hx⟩, if_pos ⟨hf, hx⟩⟩
      have HDV := Lib.hid (fun w => rdiv_any (dd * t) D w hx hD0 hD1)
      have hq := fits_ediv (dd * t) D hx hD0
      obtain ⟨X, hX⟩ : ∃ X, X = dd * t := ⟨_, rfl⟩
      rw [← hX] at HDV hq E0 ⊢
      clear hX
      obtain ⟨q, hqq⟩ : ∃ q, q = X / D := ⟨_, rfl⟩
      rw [← hqq] at HDV hq E0
      clear hqq
      go_upto_region 5 with fail
      obtain ⟨w2, hw2⟩ : ∃ w2, w2 = w1.alloc (.cells #[.int .i64 (lb (X) 0), .int .i64 (lb (X) 1), .int .i64 (lb (X) 2), .int .i64 (lb (X) 3), .int .i64 (lb (X) 4), .int .i64 (lb (X) 5), .int .i64 (lb (X) 6), .int .i64 (lb (X) 7)] 44) := ⟨_, rfl⟩
      rw [← hw2]
      have EX : Eight w2 w1.heap.size (lb X) := by rw [hw2]; exact Eight.new rfl _ (lb X)
      have LC : LineAt w pf pv nf nv w2 := LB.step (by rw [hw2]; exact (Below.refl _ _).alloc (Nat.le_refl _) _)
      clear hw2 LB
      have a0 := (EX 0 (by omega)).1
      have a1 := (EX 1 (by omega)).1
      have a2 := (EX 2 (by omega)).1
      have a3 := (EX 3 (by omega)).1
      have a4 := (EX 4 (by omega)).1
      have a5 := (EX 5 (by omega)).1
      have a6 := (EX 6 (by omega)).1
      have a7 := (EX 7 (by omega)).1
      have p0 := LC.p0
      have n0 := LC.n0
      replace LC := Lib.hid LC; replace EX := Lib.hid EX
      go_wp2_with fail
      with_reducible refine (HDV.out _).mono ?_
      rintro e w3 ⟨rfl, hb3⟩
      have LD := LC.out.step hb3
      clear hb3 LC EX p0 n0 HDV
      clear a0 a1 a2 a3 a4 a5 a6 a7
      go_upto_region 8 with fail
      obtain ⟨w4, hw4⟩ : ∃ w4, w4 = w3.alloc (.cells #[.int .i64 (lb (q) 0), .int .i64 (lb (q) 1), .int .i64 (lb (q) 2), .int .i64 (lb (q) 3), .int .i64 (lb (q) 4), .int .i64 (lb (q) 5), .int .i64 (lb (q) 6), .int .i64 (lb (q) 7)] 44) := ⟨_, rfl⟩
      rw [← hw4]
      have EQ : Eight w4 w3.heap.size (lb q) := by rw [hw4]; exact Eight.new rfl _ (lb q)
      have LE : LineAt w pf pv nf nv w4 := LD.step (by rw [hw4]; exact (Below.refl _ _).alloc (Nat.le_refl _) _)
      clear hw4 LD
      refine line8 w4 w.heap.size w3.heap.size pv q _ _ _ _ _ _ _ _ _ _ _ _ _ _ _ _ _ _ _ _ _ _ _ _ _ _ _ _ _ _ _ _ _ _ _ _ _ _ _ _ _ _ _ _ _ _ _ _ _ _ _ _ _ _ _ _ _ _ _ _ _ _ _ _ _ _ _ _ hpv hq LE.p3 LE.p4 EQ (Lib.hid ?_)
      intro v52 v53 v54 v55 v56 v57 v58 v59 g8 wy hby hgy E8
      replace LE := LE.step hby
      clear hby EQ
      have HW := Lib.hid (fun w => whole_any (sumOf (pv + q)) w)
      obtain ⟨V, hV⟩ : ∃ V, V = sumOf (pv + q) := ⟨_, rfl⟩
      rw [← hV] at HW E8 E0
      replace hV := Lib.hid hV
      have a0 := (E8 0 (by omega)).1
      have a1 := (E8 1 (by omega)).1
      have a2 := (E8 2 (by omega)).1
      have a3 := (E8 3 (by omega)).1
      have a4 := (E8 4 (by omega)).1
      have a5 := (E8 5 (by omega)).1
      have a6 := (E8 6 (by omega)).1
      have a7 := (E8 7 (by omega)).1
      replace LE := Lib.hid LE; replace E8 := Lib.hid E8
      go_wp2_with fail
      with_reducible refine (HW.out _).mono ?_
      rintro e w5 ⟨rfl, hb5⟩
      have LF := LE.out.step hb5
      clear hb5 LE E8 HW
      clear a0 a1 a2 a3 a4 a5 a6 a7
      obtain ⟨z0, z1, zf0, zf1⟩ := LF.r
      replace LF := Lib.hid LF
      go_wp2_with fail
      have t2 := two_set (x := .int .i64 (hiW V)) (y := .int .u64 (loW V)) LF.out.r.1 LF.out.r.2.1
      exact bodyPost_ret (v := .tuple #[.agg #[.int .i64 (hiW (V)), .int .u64 (loW (V))], .bool true]) (by simp only [results, Try.results18]; simp [go_sem, t2.1, t2.2]) rfl ⟨by rw [E0.out.1, E0.out.2], (LF.out.bel.setCell (p := ⟨w.heap.size + 1 + 1, 0, none⟩) (show w.heap.size ≤ w.heap.size + 1 + 1 by omega) _).setCell (p := ⟨w.heap.size + 1 + 1, 1, none⟩) (show w.heap.size ≤ w.heap.size + 1 + 1 by omega) _⟩
    · rw [decide_eq_false hx]
      have E0 : Hid (lineOk dd t = false ∧ lineV pv dd t D = 0) := Lib.hid ⟨decide_eq_false (fun h => hx h.2), if_neg (fun h => hx h.2)⟩
      rw [sumOf_no hx]
      go_upto_region 5 with fail
      obtain ⟨w2, hw2⟩ : ∃ w2, w2 = w1.alloc (.cells #[.int .i64 (lb (0) 0), .int .i64 (lb (0) 1), .int .i64 (lb (0) 2), .int .i64 (lb (0) 3), .int .i64 (lb (0) 4), .int .i64 (lb (0) 5), .int .i64 (lb (0) 6), .int .i64 (lb (0) 7)] 44) := ⟨_, rfl⟩
      rw [← hw2]
      have LA : LineAt w pf pv nf nv w2 := LB.step (by rw [hw2]; exact (Below.refl _ _).alloc (Nat.le_refl _) _)
      clear hw2 LB
      obtain ⟨z0, z1, zf0, zf1⟩ := LA.r
      have LL := Lib.hid LA; clear LA
      go_wp2_with fail
      have t2 := two_set (x := .int .i64 0) (y := .int .u64 0) LL.out.r.1 LL.out.r.2.1
      exact bodyPost_ret (v := .tuple #[.agg #[.int .i64 0, .int .u64 0], .bool false]) (by simp only [results, Try.results18]; simp [go_sem, t2.1, t2.2]) rfl ⟨by rw [E0.out.1, E0.out.2]; rfl, (LL.out.bel.setCell (p := ⟨w.heap.size + 1 + 1, 0, none⟩) (show w.heap.size ≤ w.heap.size + 1 + 1 by omega) _).setCell (p := ⟨w.heap.size + 1 + 1, 1, none⟩) (show w.heap.size ≤ w.heap.size + 1 + 1 by omega) _⟩
  · rw [decide_eq_false hf]
    have E0 : Hid (lineOk dd t = false ∧ lineV pv dd t D = 0) := Lib.hid ⟨decide_eq_false (fun h => hf h.1), if_neg (fun h => hf h.1)⟩
    clear E1
    obtain ⟨z0, z1, zf0, zf1⟩ := LA.r
    have LL := Lib.hid LA; clear LA
    go_wp2_with fail
    have t2 := two_set (x := .int .i64 0) (y := .int .u64 0) LL.out.r.1 LL.out.r.2.1
    exact bodyPost_ret (v := .tuple #[.agg #[.int .i64 0, .int .u64 0], .bool false]) (by simp only [results, Try.results18]; simp [go_sem, t2.1, t2.2]) rfl ⟨by rw [E0.out.1, E0.out.2]; rfl, (LL.out.bel.setCell (p := ⟨w.heap.size + 1 + 1, 0, none⟩) (show w.heap.size ≤ w.heap.size + 1 + 1 by omega) _).setCell (p := ⟨w.heap.size + 1 + 1, 1, none⟩) (show w.heap.size ≤ w.heap.size + 1 + 1 by omega) _⟩
end Go.Proofs.Ytljepnonigjcbaa

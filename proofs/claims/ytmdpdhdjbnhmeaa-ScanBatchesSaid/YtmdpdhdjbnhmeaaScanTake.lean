/- Contract of scan.Take. -/
import Derived.Test.YtmdpdhdjbnhmeaaScanMore
namespace Go.Proofs.Ytmdpdhdjbnhmeaa
open Go.RowKit
set_option linter.unusedVariables false

theorem cell_same {w : World} {g k : Nat} {x u : Value} (h : w.cell? ⟨g, k, none⟩ = some u) : (w.setCell ⟨g, k, none⟩ x).cell? ⟨g, k, none⟩ = some x := World.cell?_setCell_same' _ _ _ (by rw [h]; rfl)
theorem cell_other {w : World} {g k g' k' : Nat} {x u : Value} (h : w.cell? ⟨g, k, none⟩ = some u) (hne : g ≠ g' ∨ k ≠ k') : (w.setCell ⟨g', k', none⟩ x).cell? ⟨g, k, none⟩ = some u := by
  rw [World.cell?_setCell_other _ _ _ _ (by simp; omega)]; exact h
theorem three_set {w : World} {g : Nat} {x y z u v t : Value} (h0 : w.cell? ⟨g, 0, none⟩ = some u) (h1 : w.cell? ⟨g, 1, none⟩ = some v) (h2 : w.cell? ⟨g, 2, none⟩ = some t) :
    (((w.setCell ⟨g, 0, none⟩ x).setCell ⟨g, 1, none⟩ y).setCell ⟨g, 2, none⟩ z).cell? ⟨g, 0, none⟩ = some x ∧ (((w.setCell ⟨g, 0, none⟩ x).setCell ⟨g, 1, none⟩ y).setCell ⟨g, 2, none⟩ z).cell? ⟨g, 1, none⟩ = some y ∧ (((w.setCell ⟨g, 0, none⟩ x).setCell ⟨g, 1, none⟩ y).setCell ⟨g, 2, none⟩ z).cell? ⟨g, 2, none⟩ = some z :=
  ⟨cell_other (cell_other (cell_same h0) (.inr (by decide))) (.inr (by decide)), cell_other (cell_same (cell_other h1 (.inr (by decide)))) (.inr (by decide)), cell_same (cell_other (cell_other h2 (.inr (by decide))) (.inr (by decide)))⟩
/-- a slice that reads as a list of ints, in a block from base on -/
def LFrom (base : Nat) (w : World) (A : Option Addr) (L : List Int) : Prop := 0 < L.length → ∃ b off, A = some ⟨b, off, none⟩ ∧ base ≤ b ∧ b < w.heap.size ∧ ∀ j, j < L.length → w.cell? ⟨b, off + j, none⟩ = some (.int .i64 (L.getD j 0))
theorem LFrom.ints {base : Nat} {w : World} {A : Option Addr} {L : List Int} (h : LFrom base w A L) : LInts w A L := fun hm => by
  obtain ⟨b, off, e, _, hl, hc⟩ := h hm
  exact ⟨b, off, e, hl, hc⟩
theorem LFrom.of_own {w : World} {base : Nat} {e : TypeId} {A : Option Addr} {c : Nat} {L : List Int} (h : w.ownsRow base e 1 (.slice A L.length c) L.length (cells1 L)) : LFrom base w A L := fun hm => by
  obtain ⟨b, off, ha, hl, hc⟩ := LInts.of_own h hm
  subst ha
  rcases h.2 with ⟨hv, h0⟩ | ⟨g, cap, cur, hv, hb, _⟩
  · omega
  · injection hv with hA
    injection hA with hA
    injection hA with hA
    exact ⟨b, off, rfl, by omega, hl, hc⟩
theorem LFrom.below {base : Nat} {w w' : World} {A : Option Addr} {L : List Int} (h : LFrom base w A L) (hb : Below w.heap.size w w') : LFrom base w' A L := fun hm => by
  obtain ⟨b, off, ha, h1, hl, hc⟩ := h hm
  exact ⟨b, off, ha, h1, Nat.lt_of_lt_of_le hl hb.size, fun j hj => cell_be hb (hc j hj)⟩
theorem LFrom.set {base : Nat} {w : World} {A : Option Addr} {L : List Int} (h : LFrom base w A L) {g k : Nat} (hg : g < base) (v : Value) : LFrom base (w.setCell ⟨g, k, none⟩ v) A L := fun hm => by
  obtain ⟨b, off, ha, h1, hl, hc⟩ := h hm
  exact ⟨b, off, ha, h1, by simpa using hl, fun j hj => cell_other (hc j hj) (.inl (by omega))⟩
/-- a batch is handed back, with a code -/
def TakePost (w : World) (X Y Z : List Int) (code : Int) (e : Ending) (w' : World) : Prop :=
  ∃ A B C ca cb cc, e = .returned (.tuple #[.agg #[.slice A X.length ca, .slice B Y.length cb, .slice C Z.length cc], .int .i64 code]) ∧ LInts w' A X ∧ LInts w' B Y ∧ LInts w' C Z ∧ Below w.heap.size w w'
/-- what lies at places -/
def takeL (x : Nat → Int) (L : List Int) : List Int := L.map fun u => x u.toNat
theorem takeL_length (x : Nat → Int) (L : List Int) : (takeL x L).length = L.length := by simp [takeL]
def inside (n : Nat) (u : Int) : Prop := 0 ≤ u ∧ u < n
/-- what Take holds -/
structure TakeAt (w0 : World) (A B C R S T : Value) (w : World) : Prop where
  bel : Below w0.heap.size w0 w
  c0 : w.cell? ⟨w0.heap.size, 0, none⟩ = some A
  c1 : w.cell? ⟨w0.heap.size, 1, none⟩ = some B
  c2 : w.cell? ⟨w0.heap.size, 2, none⟩ = some C
  r0 : w.cell? ⟨w0.heap.size + 1, 0, none⟩ = some R
  r1 : w.cell? ⟨w0.heap.size + 1, 1, none⟩ = some S
  r2 : w.cell? ⟨w0.heap.size + 1, 2, none⟩ = some T
  f0 : w.frozen? ⟨w0.heap.size + 1, 0, none⟩ = false
  f1 : w.frozen? ⟨w0.heap.size + 1, 1, none⟩ = false
  f2 : w.frozen? ⟨w0.heap.size + 1, 2, none⟩ = false
theorem TakeAt.lt {w0 w : World} {A B C R S T : Value} (h : TakeAt w0 A B C R S T w) : w0.heap.size + 1 < w.heap.size := World.block_lt_of_cell? w _ h.r0
theorem TakeAt.step {w0 w w' : World} {A B C R S T : Value} (h : TakeAt w0 A B C R S T w) (hb : Below w.heap.size w w') : TakeAt w0 A B C R S T w' :=
  ⟨h.bel.trans (hb.mono h.bel.size), cell_be hb h.c0, cell_be hb h.c1, cell_be hb h.c2, cell_be hb h.r0, cell_be hb h.r1, cell_be hb h.r2, frozen_be hb h.lt h.f0, frozen_be hb h.lt h.f1, frozen_be hb h.lt h.f2⟩

set_option maxHeartbeats 1000000 in
theorem take_no (A B C P : Option Addr) (n m k ca cb cc lp cp : Nat) (w : World) (hr : ¬ (n = m ∧ n = k)) :
    Calls Try.prog 9 #[.agg #[.slice A n ca, .slice B m cb, .slice C k cc], .slice P lp cp] w (TakePost w [] [] [] 2) := by
  have HR := Lib.hid (fun w => right_any A B C n m k ca cb cc w false (by simp; omega))
  clear hr
  obtain ⟨W, hW⟩ : ∃ W, W = (w.alloc (.cells #[.slice A n ca, .slice B m cb, .slice C k cc] 25)).alloc (.cells #[.slice none 0 0, .slice none 0 0, .slice none 0 0] 25) := ⟨_, rfl⟩
  have HT : TakeAt w (.slice A n ca) (.slice B m cb) (.slice C k cc) (.slice none 0 0) (.slice none 0 0) (.slice none 0 0) W := by
    rw [hW]; exact ⟨((Below.refl _ _).alloc (Nat.le_refl _) _).alloc (by simp) _, cell_al (cell_newk rfl rfl), cell_al (cell_newk rfl rfl), cell_al (cell_newk rfl rfl), cell_newk (by simp) rfl, cell_newk (by simp) rfl, cell_newk (by simp) rfl, frozen_newk (by simp) _, frozen_newk (by simp) _, frozen_newk (by simp) _⟩
  have HH := Lib.hid hW; clear hW
  go_enter Try.func9, Try.ntmps9
  go_wp2_with fail
  rw [← HH.out]
  with_reducible refine (HR.out W).mono ?_
  rintro e w1 ⟨rfl, hb1⟩
  replace HT := HT.step hb1
  clear HH hb1
  have hz := HT.lt
  obtain ⟨bel, c0, c1, c2, r0, r1, r2, f0, f1, f2⟩ := HT
  clear c0 c1 c2
  have t := three_set (x := .slice none 0 0) (y := .slice none 0 0) (z := .slice none 0 0) r0 r1 r2
  have TH := Lib.hid t; clear t
  go_wp2
  obtain ⟨t0, t1, t2⟩ := TH.out
  exact bodyPost_ret (v := .tuple #[.agg #[.slice none 0 0, .slice none 0 0, .slice none 0 0], .int .i64 2]) (by simp [results, Try.results9, go_sem, t0, t1, t2]) rfl ⟨none, none, none, 0, 0, 0, rfl, Cells.zero _ _ _, Cells.zero _ _ _, Cells.zero _ _ _, ((bel.setCell (by simp) _).setCell (by simp) _).setCell (by simp) _⟩
set_option maxHeartbeats 2000000 in
theorem take_bad (A B C P : Option Addr) (n m k ca cb cc cp : Nat) (L : List Int) (w : World) (hr : n = m ∧ n = k) (h : LInts w P L) (hn : L.length ≤ 1000000) (hb : ¬ ∀ j, j < L.length → inside n (L.getD j 0)) :
    Calls Try.prog 9 #[.agg #[.slice A n ca, .slice B m cb, .slice C k cc], .slice P L.length cp] w (TakePost w [] [] [] 2) := by
  have HR := Lib.hid (fun w => right_any A B C n m k ca cb cc w true (by simp; exact hr))
  clear hr
  have HB := Lib.hid hb; clear hb
  obtain ⟨W, hW⟩ : ∃ W, W = (w.alloc (.cells #[.slice A n ca, .slice B m cb, .slice C k cc] 25)).alloc (.cells #[.slice none 0 0, .slice none 0 0, .slice none 0 0] 25) := ⟨_, rfl⟩
  have HT : TakeAt w (.slice A n ca) (.slice B m cb) (.slice C k cc) (.slice none 0 0) (.slice none 0 0) (.slice none 0 0) W := by
    rw [hW]; exact ⟨((Below.refl _ _).alloc (Nat.le_refl _) _).alloc (by simp) _, cell_al (cell_newk rfl rfl), cell_al (cell_newk rfl rfl), cell_al (cell_newk rfl rfl), cell_newk (by simp) rfl, cell_newk (by simp) rfl, cell_newk (by simp) rfl, frozen_newk (by simp) _, frozen_newk (by simp) _, frozen_newk (by simp) _⟩
  have HH := Lib.hid hW; clear hW
  go_enter Try.func9, Try.ntmps9
  go_wp2_with fail
  rw [← HH.out]
  with_reducible refine (HR.out W).mono ?_
  rintro e w1 ⟨rfl, hb1⟩
  replace HT := HT.step hb1
  clear HH hb1
  have hP : LInts w1 P L := h.below HT.bel
  clear h
  go_wp2_with fail
  go_loop [14] (fun i => ∃ q : Nat, q ≤ L.length ∧ i = .int .i64 q ∧ ∀ j, j < q → inside n (L.getD j 0)) (fun i => L.length - (intOf i).toNat)
  case atStart => exact ⟨0, by omega, rfl, fun j hj => by omega⟩
  case round =>
    obtain ⟨q, hq, rfl, hall⟩ := hrel
    have HA := Lib.hid hall; clear hall
    have hz := HT.lt
    obtain ⟨bel, c0, c1, c2, r0, r1, r2, f0, f1, f2⟩ := HT
    clear c1 c2
    by_cases hlt : q < L.length
    · obtain ⟨b, off, rfl, hb, hc⟩ := hP (by omega)
      obtain ⟨u, hu⟩ : ∃ u, u = L.getD q 0 := ⟨_, rfl⟩
      have hck : w1.cell? ⟨b, off + q, none⟩ = some (.int .i64 u) := by rw [hu]; exact hc q hlt
      have HU := Lib.hid hu
      clear hc hP hu
      have t := three_set (x := .slice none 0 0) (y := .slice none 0 0) (z := .slice none 0 0) r0 r1 r2
      have TH := Lib.hid t; clear t
      by_cases h1 : u < 0
      · go_wp2
        obtain ⟨t0, t1, t2⟩ := TH.out
        exact bodyPost_ret (v := .tuple #[.agg #[.slice none 0 0, .slice none 0 0, .slice none 0 0], .int .i64 2]) (by simp [results, Try.results9, go_sem, t0, t1, t2]) rfl ⟨none, none, none, 0, 0, 0, rfl, Cells.zero _ _ _, Cells.zero _ _ _, Cells.zero _ _ _, ((bel.setCell (by simp) _).setCell (by simp) _).setCell (by simp) _⟩
      · by_cases h2 : (n : Int) ≤ u
        · go_wp2
          obtain ⟨t0, t1, t2⟩ := TH.out
          exact bodyPost_ret (v := .tuple #[.agg #[.slice none 0 0, .slice none 0 0, .slice none 0 0], .int .i64 2]) (by simp [results, Try.results9, go_sem, t0, t1, t2]) rfl ⟨none, none, none, 0, 0, 0, rfl, Cells.zero _ _ _, Cells.zero _ _ _, Cells.zero _ _ _, ((bel.setCell (by simp) _).setCell (by simp) _).setCell (by simp) _⟩
        · go_wp2
          exact ⟨⟨q + 1, by omega, by go_num, fun j hj => by
            rcases Nat.lt_or_ge j q with h | h
            · exact HA.out j h
            · obtain rfl : j = q := by omega
              rw [← HU.out]; exact ⟨by omega, by omega⟩⟩, by simp [intOf]; omega⟩
    · exact absurd (fun j hj => HA.out j (by omega)) HB.out
set_option maxHeartbeats 4000000 in
theorem take_yes (A B C P : Option Addr) (n ca cb cc cp : Nat) (x y z : Nat → Int) (L : List Int) (w : World) (hA : Ints w A n x) (hB : Ints w B n y) (hC : Ints w C n z) (h : LInts w P L) (hn : L.length ≤ 1000000) (hb : ∀ j, j < L.length → inside n (L.getD j 0)) :
    Calls Try.prog 9 #[.agg #[.slice A n ca, .slice B n cb, .slice C n cc], .slice P L.length cp] w (TakePost w (takeL x L) (takeL y L) (takeL z L) 0) := by
  have HR := Lib.hid (fun w => right_any A B C n n n ca cb cc w true (by simp))
  have HB := Lib.hid hb; clear hb
  have KA := Lib.hid hA; clear hA
  have KB := Lib.hid hB; clear hB
  have KC := Lib.hid hC; clear hC
  obtain ⟨W, hW⟩ : ∃ W, W = (w.alloc (.cells #[.slice A n ca, .slice B n cb, .slice C n cc] 25)).alloc (.cells #[.slice none 0 0, .slice none 0 0, .slice none 0 0] 25) := ⟨_, rfl⟩
  have HT : TakeAt w (.slice A n ca) (.slice B n cb) (.slice C n cc) (.slice none 0 0) (.slice none 0 0) (.slice none 0 0) W := by
    rw [hW]; exact ⟨((Below.refl _ _).alloc (Nat.le_refl _) _).alloc (by simp) _, cell_al (cell_newk rfl rfl), cell_al (cell_newk rfl rfl), cell_al (cell_newk rfl rfl), cell_newk (by simp) rfl, cell_newk (by simp) rfl, cell_newk (by simp) rfl, frozen_newk (by simp) _, frozen_newk (by simp) _, frozen_newk (by simp) _⟩
  have HH := Lib.hid hW; clear hW
  go_enter Try.func9, Try.ntmps9
  go_wp2_with fail
  rw [← HH.out]
  with_reducible refine (HR.out W).mono ?_
  rintro e w1 ⟨rfl, hb1⟩
  replace HT := HT.step hb1
  clear HH hb1 HR
  have hP : LInts w1 P L := h.below HT.bel
  clear h
  go_wp2_with fail
  go_loop [14] (fun i => ∃ q : Nat, q ≤ L.length ∧ i = .int .i64 q) (fun i => L.length - (intOf i).toNat)
  case atStart => exact ⟨0, by omega, rfl⟩
  case round =>
    obtain ⟨q, hq, rfl⟩ := hrel
    by_cases hlt : q < L.length
    · obtain ⟨bel, c0, c1, c2, r0, r1, r2, f0, f1, f2⟩ := HT
      clear c1 c2 r0 r1 r2 f0 f1 f2
      obtain ⟨b, off, rfl, hb, hc⟩ := hP (by omega)
      obtain ⟨u, hu⟩ : ∃ u, u = L.getD q 0 := ⟨_, rfl⟩
      have hck : w1.cell? ⟨b, off + q, none⟩ = some (.int .i64 u) := by rw [hu]; exact hc q hlt
      obtain ⟨u0, u1⟩ : inside n u := by rw [hu]; exact HB.out q hlt
      clear hc hP hu
      go_wp2
      exact ⟨⟨q + 1, by omega, by go_num⟩, by simp [intOf]; omega⟩
    · have G1 : ∀ W2, TakeAt w (.slice A n ca) (.slice B n cb) (.slice C n cc) (.slice none 0 0) (.slice none 0 0) (.slice none 0 0) W2 → LInts W2 P L → Calls Try.prog 23 #[.slice P L.length cp, .func (.func 24) #[] #[.pointer (some ⟨w.heap.size, 0, none⟩)]] W2 (ListPost W2 (takeL x L)) :=
        fun W2 T2 hp => column_1 P L cp _ _ (inside n) (fun u => x u.toNat) W2 hp hn HB.out ⟨enters_of Try.func24 (by kernel_rfl) rfl, fun u wr hu hb => by
          obtain ⟨j, rfl⟩ : ∃ j : Nat, u = j := ⟨u.toNat, by have := hu.1; omega⟩
          have T3 := T2.step hb
          exact take1_any j A n ca _ x wr T3.c0 (Cells.below KA.out T3.bel) (by have := hu.2; omega)⟩
      have G2 : ∀ W2, TakeAt w (.slice A n ca) (.slice B n cb) (.slice C n cc) (.slice none 0 0) (.slice none 0 0) (.slice none 0 0) W2 → LInts W2 P L → Calls Try.prog 23 #[.slice P L.length cp, .func (.func 25) #[] #[.pointer (some ⟨w.heap.size, 0, none⟩)]] W2 (ListPost W2 (takeL y L)) :=
        fun W2 T2 hp => column_1 P L cp _ _ (inside n) (fun u => y u.toNat) W2 hp hn HB.out ⟨enters_of Try.func25 (by kernel_rfl) rfl, fun u wr hu hb => by
          obtain ⟨j, rfl⟩ : ∃ j : Nat, u = j := ⟨u.toNat, by have := hu.1; omega⟩
          have T3 := T2.step hb
          exact take2_any j B n cb _ y wr T3.c1 (Cells.below KB.out T3.bel) (by have := hu.2; omega)⟩
      have G3 : ∀ W2, TakeAt w (.slice A n ca) (.slice B n cb) (.slice C n cc) (.slice none 0 0) (.slice none 0 0) (.slice none 0 0) W2 → LInts W2 P L → Calls Try.prog 23 #[.slice P L.length cp, .func (.func 26) #[] #[.pointer (some ⟨w.heap.size, 0, none⟩)]] W2 (ListPost W2 (takeL z L)) :=
        fun W2 T2 hp => column_1 P L cp _ _ (inside n) (fun u => z u.toNat) W2 hp hn HB.out ⟨enters_of Try.func26 (by kernel_rfl) rfl, fun u wr hu hb => by
          obtain ⟨j, rfl⟩ : ∃ j : Nat, u = j := ⟨u.toNat, by have := hu.1; omega⟩
          have T3 := T2.step hb
          exact take3_any j C n cc _ z wr T3.c2 (Cells.below KC.out T3.bel) (by have := hu.2; omega)⟩
      have H1 := Lib.hid G1; clear G1
      have H2 := Lib.hid G2; clear G2
      have H3 := Lib.hid G3; clear G3
      clear KA KB KC HB
      have z1 := HT.lt
      go_wp2_with fail
      with_reducible refine (H1.out w1 HT hP).mono ?_
      rintro e w2 ⟨A2, c2, rfl, ho1, hb2⟩
      have hL1 := LFrom.of_own ho1
      clear ho1
      replace HT := HT.step hb2
      replace hP := hP.below hb2
      clear hb2
      have z2 := HT.lt
      go_wp2_with fail
      with_reducible refine (H2.out w2 HT hP).mono ?_
      rintro e w3 ⟨A3, c3, rfl, ho2, hb3⟩
      have hL2 := LFrom.of_own ho2
      clear ho2
      replace HT := HT.step hb3
      replace hP := hP.below hb3
      replace hL1 := hL1.below hb3
      clear hb3
      have z3 := HT.lt
      go_wp2_with fail
      with_reducible refine (H3.out w3 HT hP).mono ?_
      rintro e w4 ⟨A4, c4, rfl, ho3, hb4⟩
      have hL3 := LFrom.of_own ho3
      clear ho3
      replace HT := HT.step hb4
      replace hL1 := hL1.below hb4
      replace hL2 := hL2.below hb4
      clear hb4 hP H1 H2 H3
      have K1 := Lib.hid hL1; clear hL1
      have K2 := Lib.hid hL2; clear hL2
      have K3 := Lib.hid hL3; clear hL3
      have hz := HT.lt
      obtain ⟨bel, c0, c1, c2', r0, r1, r2, f0, f1, f2⟩ := HT
      clear c0 c1 c2'
      have t := three_set (x := .slice A2 (takeL x L).length c2) (y := .slice A3 (takeL y L).length c3) (z := .slice A4 (takeL z L).length c4) r0 r1 r2
      have TH := Lib.hid t; clear t
      go_wp2
      obtain ⟨t0, t1, t2⟩ := TH.out
      exact bodyPost_ret (v := .tuple #[.agg #[.slice A2 (takeL x L).length c2, .slice A3 (takeL y L).length c3, .slice A4 (takeL z L).length c4], .int .i64 0]) (by simp [results, Try.results9, go_sem, t0, t1, t2]) rfl ⟨A2, A3, A4, c2, c3, c4, rfl, (((K1.out.set z1 _).set z1 _).set z1 _).ints, (((K2.out.set z2 _).set z2 _).set z2 _).ints, (((K3.out.set z3 _).set z3 _).set z3 _).ints, ((bel.setCell (by simp) _).setCell (by simp) _).setCell (by simp) _⟩
end Go.Proofs.Ytmdpdhdjbnhmeaa

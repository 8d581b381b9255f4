/- Contract of tidemillref20.Take. -/
import Derived.Test.YtmdpdhdjbnhmeaaScanRef
import Derived.Deep.RegionLaw
import Derived.Deep.DeepCutAuto
namespace Go.Proofs.Ytmdpdhdjbnhmeaa
open Go.RowKit
set_option linter.unusedVariables false

/-- one element more on a row of the call's own, in a region that draws its order: and where the new row lies -/
theorem step_append_lie {P : Program} {t e : TypeId} {z : Value} {size bytes : Nat} (E : Elem P t e z size bytes) {w : World} {base : Nat} {A : Option Addr} {c0 n : Nat} {xs : List Value}
    (hown : w.ownsRow base e size (.slice A n c0) n xs) (hbase : base ≤ w.heap.size)
    {ops : Array Oper} {o : Oper} {a : Act} {K : Act → World → Prop} {Q : Exit → Act → World → Prop} {E' : Prop} (hgd : o.guard = none) (s x : Operand)
    (ho : o.op = .call { callee := .builtin .append, args := #[s, x], argTypes := #[t, t] })
    (g : Nat) (cs : List Value) (hg : w.heap[g]? = some (.cells cs.toArray e (0, 0))) (hs : a.eval s = .slice A n c0) (hx : a.eval x = .slice (some ⟨g, 0, none⟩) 1 1)
    (hl : cs.length = size) (h1 : ∀ u ∈ cs, u.oneCell' = true) (h63 : n + 1 ≤ maxLen) (hbytes : (n + 1) * bytes ≤ 140737488355328)
    (h : ∀ g' c' w1, w1.ownsRow base e size (.slice (some ⟨g', 0, none⟩) (n + 1) c') (n + 1) (xs ++ cs) → w.grownBy w1 (Value.ownBlock (.slice A n c0)) → (Value.ownBlock (.slice A n c0) = some g' ∨ g' = w.heap.size) → K (a.put o.dst (.slice (some ⟨g', 0, none⟩) (n + 1) c')) w1) :
    if Region.wanted o (yielded ops a.tmps) = true then Oper.wp P o a w K Q else E' := by
  obtain ⟨i, hi, hz, hsz, hby⟩ := E.info
  refine step_append_lies w hgd s x t ho base e i z size bytes E.slice hi hz hsz hby E.zs E.pos _ n xs hs hown ⟨g, 0, none⟩ 1 1 cs hx (by omega) ?_ h1 (by decide) h63 hbytes hbase _ rfl ?_
  · intro j u hu
    exact World.news_of_block hg j u (by simpa using hu)
  · intro g' cap w' h1 h2 h3 h4
    exact h g' cap w' h1 h2 h3
/-- in a plain region -/
theorem wpList_append_lie {P : Program} {t e : TypeId} {z : Value} {size bytes : Nat} (E : Elem P t e z size bytes) {w : World} {base : Nat} {A : Option Addr} {c0 n : Nat} {xs : List Value}
    (hown : w.ownsRow base e size (.slice A n c0) n xs) (hbase : base ≤ w.heap.size)
    {ops : Array Oper} {rest : List Oper} {o : Oper} {a : Act} {Q : Exit → Act → World → Prop} (hgd : o.guard = none) (s x : Operand)
    (ho : o.op = .call { callee := .builtin .append, args := #[s, x], argTypes := #[t, t] })
    (g : Nat) (cs : List Value) (hg : w.heap[g]? = some (.cells cs.toArray e (0, 0))) (hs : a.eval s = .slice A n c0) (hx : a.eval x = .slice (some ⟨g, 0, none⟩) 1 1)
    (hl : cs.length = size) (h1 : ∀ u ∈ cs, u.oneCell' = true) (h63 : n + 1 ≤ maxLen) (hbytes : (n + 1) * bytes ≤ 140737488355328)
    (h : ∀ g' c' w1, w1.ownsRow base e size (.slice (some ⟨g', 0, none⟩) (n + 1) c') (n + 1) (xs ++ cs) → w.grownBy w1 (Value.ownBlock (.slice A n c0)) → (Value.ownBlock (.slice A n c0) = some g' ∨ g' = w.heap.size) → wpList P ops Q rest (a.put o.dst (.slice (some ⟨g', 0, none⟩) (n + 1) c')) w1) :
    wpList P ops Q (o :: rest) a w := by
  obtain ⟨i, hi, hz, hsz, hby⟩ := E.info
  refine wpList_append_lies w hgd s x t ho base e i z size bytes E.slice hi hz hsz hby E.zs E.pos _ n xs hs hown ⟨g, 0, none⟩ 1 1 cs hx (by omega) ?_ h1 (by decide) h63 hbytes hbase _ rfl ?_
  · intro j u hu
    exact World.news_of_block hg j u (by simpa using hu)
  · intro g' cap w' h1 h2 h3 h4
    exact h g' cap w' h1 h2 h3

theorem Cols.as {base go : Nat} {w : World} {A B C : Value} {X Y Z X' Y' Z' : List Int} (h : Cols base go w A B C X Y Z) (eX : X = X') (eY : Y = Y') (eZ : Z = Z') : Cols base go w A B C X' Y' Z' := by subst eX eY eZ; exact h
theorem takeL_succ (x : Nat → Int) (L : List Int) (q : Nat) (h : q < L.length) : takeL x (L.take (q + 1)) = takeL x (L.take q) ++ [x (L.getD q 0).toNat] := take_map_succ L _ q h
def RTRel (w1 : World) (n : Nat) (x y z : Nat → Int) (L : List Int) (i : Value) (wr : World) : Prop :=
  ∃ (q : Nat) (A B C : Option Addr) (ka kb kc : Nat), q ≤ L.length ∧ i = .int .i64 q ∧ (∀ j, j < q → inside n (L.getD j 0)) ∧
    Cols (w1.heap.size + 1) w1.heap.size wr (.slice A q ka) (.slice B q kb) (.slice C q kc) (takeL x (L.take q)) (takeL y (L.take q)) (takeL z (L.take q)) ∧ Below w1.heap.size w1 wr ∧ w1.heap.size < wr.heap.size
set_option maxHeartbeats 4000000 in
theorem rtake_core (A B C P : Option Addr) (n m k ca cb cc cp : Nat) (x y z : Nat → Int) (L : List Int) (w : World) (Q : Ending → World → Prop) (hr : n = m ∧ n = k) (hA : Ints w A n x) (hB : Ints w B n y) (hC : Ints w C n z) (h : LInts w P L) (hn : L.length ≤ 1000000)
    (hQ1 : (∀ j, j < L.length → inside n (L.getD j 0)) → ∀ e w', TakePost w (takeL x L) (takeL y L) (takeL z L) 0 e w' → Q e w') (hQ2 : (¬ ∀ j, j < L.length → inside n (L.getD j 0)) → ∀ e w', TakePost w [] [] [] 2 e w' → Q e w') :
    Calls Try.prog 19 #[.agg #[.slice A n ca, .slice B m cb, .slice C k cc], .slice P L.length cp] w Q := by
  have HR := Lib.hid (fun w => rright_any A B C n m k ca cb cc w true (by simp; exact hr))
  obtain ⟨hr1, hr2⟩ := hr
  have hm' : m ≤ n := by omega
  have hk' : k ≤ n := by omega
  have hm2 : n ≤ m := by omega
  have hk2 : n ≤ k := by omega
  clear hr1 hr2
  have HQ1 := Lib.hid hQ1; clear hQ1
  have HQ2 := Lib.hid hQ2; clear hQ2
  obtain ⟨W, hW⟩ : ∃ W, W = (w.alloc (.cells #[.slice A n ca, .slice B m cb, .slice C k cc] 41)).alloc (.cells #[.slice none 0 0, .slice none 0 0, .slice none 0 0] 41) := ⟨_, rfl⟩
  have HT : TakeAt w (.slice A n ca) (.slice B m cb) (.slice C k cc) (.slice none 0 0) (.slice none 0 0) (.slice none 0 0) W := by
    rw [hW]; exact ⟨((Below.refl _ _).alloc (Nat.le_refl _) _).alloc (by simp) _, cell_al (cell_newk rfl rfl), cell_al (cell_newk rfl rfl), cell_al (cell_newk rfl rfl), cell_newk (by simp) rfl, cell_newk (by simp) rfl, cell_newk (by simp) rfl, frozen_newk (by simp) _, frozen_newk (by simp) _, frozen_newk (by simp) _⟩
  have HH := Lib.hid hW; clear hW
  go_enter Try.func19, Try.ntmps19
  go_wp2_with fail
  rw [← HH.out]
  with_reducible refine (HR.out W).mono ?_
  rintro e w1 ⟨rfl, hb1⟩
  replace HT := HT.step hb1
  clear HH hb1 HR
  have hP : LInts w1 P L := h.below HT.bel
  have KA : Ints w1 A n x := Cells.below hA HT.bel
  have KB : Ints w1 B n y := Cells.below hB HT.bel
  have KC : Ints w1 C n z := Cells.below hC HT.bel
  clear h hA hB hC
  have hz := HT.lt
  obtain ⟨W1, hW1⟩ : ∃ W1, W1 = w1.alloc (.cells #[.slice none 0 0, .slice none 0 0, .slice none 0 0] 41) := ⟨_, rfl⟩
  have hC0 : Cols (w1.heap.size + 1) w1.heap.size W1 (.slice none 0 0) (.slice none 0 0) (.slice none 0 0) [] [] [] := by
    rw [hW1]; exact Cols.start (by omega) (cell_newk rfl rfl) (cell_newk rfl rfl) (cell_newk rfl rfl) (frozen_newk rfl _) (frozen_newk rfl _) (frozen_newk rfl _)
  have hB1 : Below w1.heap.size w1 W1 := by rw [hW1]; exact (Below.refl _ _).alloc (Nat.le_refl _) _
  have hS1 : w1.heap.size < W1.heap.size := by rw [hW1]; simp
  have HW1 := Lib.hid hW1; clear hW1
  go_wp2_with fail
  rw [← HW1.out]
  go_loopw [7] (RTRel w1 n x y z L) (fun i _ => L.length - (intOf i).toNat)
  case atStart => exact ⟨0, none, none, none, 0, 0, 0, by omega, rfl, fun j hj => by omega, by simpa [takeL] using hC0, hB1, hS1⟩
  case round =>
    clear hC0 hB1 hS1 HW1
    obtain ⟨q, RA, RB, RC, ka, kb, kc, hq, rfl, hall, HC, hbl, hsz⟩ := hrel
    have HA := Lib.hid hall; clear hall
    have HT' := HT.step hbl
    have bel := HT'.bel
    have c0 := HT'.c0
    have c1 := HT'.c1
    have c2 := HT'.c2
    by_cases hlt : q < L.length
    · obtain ⟨b, off, rfl, hb, hc⟩ := hP (by omega)
      obtain ⟨u, hu⟩ : ∃ u, u = L.getD q 0 := ⟨_, rfl⟩
      have hck : wr.cell? ⟨b, off + q, none⟩ = some (.int .i64 u) := by rw [hu]; exact (hbl.cell (p := ⟨b, off + q, none⟩) hb).trans (hc q hlt)
      have HU := Lib.hid hu
      clear hc hP hu
      by_cases h1 : u < 0
      · have r0 := HT'.r0
        have r1 := HT'.r1
        have r2 := HT'.r2
        have f0 := HT'.f0
        have f1 := HT'.f1
        have f2 := HT'.f2
        have t := three_set (x := .slice none 0 0) (y := .slice none 0 0) (z := .slice none 0 0) r0 r1 r2
        have TH := Lib.hid t; clear t
        go_wp2
        obtain ⟨t0, t1, t2⟩ := TH.out
        refine bodyPost_ret (v := .tuple #[.agg #[.slice none 0 0, .slice none 0 0, .slice none 0 0], .int .i64 2]) (by simp [results, Try.results19, go_sem, t0, t1, t2]) rfl (HQ2.out ?_ _ _ ⟨none, none, none, 0, 0, 0, rfl, Cells.zero _ _ _, Cells.zero _ _ _, Cells.zero _ _ _, ((bel.setCell (by simp) _).setCell (by simp) _).setCell (by simp) _⟩)
        intro hall
        have h := hall q hlt
        rw [← HU.out] at h
        unfold inside at h
        omega
      · by_cases h2 : (n : Int) ≤ u
        · have r0 := HT'.r0
          have r1 := HT'.r1
          have r2 := HT'.r2
          have f0 := HT'.f0
          have f1 := HT'.f1
          have f2 := HT'.f2
          have t := three_set (x := .slice none 0 0) (y := .slice none 0 0) (z := .slice none 0 0) r0 r1 r2
          have TH := Lib.hid t; clear t
          go_wp2
          obtain ⟨t0, t1, t2⟩ := TH.out
          refine bodyPost_ret (v := .tuple #[.agg #[.slice none 0 0, .slice none 0 0, .slice none 0 0], .int .i64 2]) (by simp [results, Try.results19, go_sem, t0, t1, t2]) rfl (HQ2.out ?_ _ _ ⟨none, none, none, 0, 0, 0, rfl, Cells.zero _ _ _, Cells.zero _ _ _, Cells.zero _ _ _, ((bel.setCell (by simp) _).setCell (by simp) _).setCell (by simp) _⟩)
          intro hall
          have h := hall q hlt
          rw [← HU.out] at h
          unfold inside at h
          omega
        · obtain ⟨j, hj⟩ : ∃ j : Nat, u = j := ⟨u.toNat, by omega⟩
          subst hj
          have hj1 : j < n := by omega
          have i0 : (0 : Int) ≤ (j : Int) := by omega
          have i1 : (j : Int) < (n : Int) := by omega
          have i2 : (j : Int) < (m : Int) := by omega
          have i3 : (j : Int) < (k : Int) := by omega
          obtain ⟨ba, oa, rfl, hba, hca⟩ := KA (by omega)
          obtain ⟨bb, ob, rfl, hbb, hcb⟩ := KB (by omega)
          obtain ⟨bc, oc, rfl, hbc, hcc⟩ := KC (by omega)
          have xa : wr.cell? ⟨ba, oa + j, none⟩ = some (.int .i64 (x j)) := (hbl.cell (p := ⟨ba, oa + j, none⟩) hba).trans (hca j hj1)
          have xb : wr.cell? ⟨bb, ob + j, none⟩ = some (.int .i64 (y j)) := (hbl.cell (p := ⟨bb, ob + j, none⟩) hbb).trans (hcb j hj1)
          have xc : wr.cell? ⟨bc, oc + j, none⟩ = some (.int .i64 (z j)) := (hbl.cell (p := ⟨bc, oc + j, none⟩) hbc).trans (hcc j hj1)
          have HXA := Lib.hid (hca j hj1)
          have HXB := Lib.hid (hcb j hj1)
          have HXC := Lib.hid (hcc j hj1)
          clear hca hcb hcc KA KB KC
          have lx : Hid ((takeL x (L.take q)).length = q) := Lib.hid (by rw [takeL_length, List.length_take]; omega)
          have ly : Hid ((takeL y (L.take q)).length = q) := Lib.hid (by rw [takeL_length, List.length_take]; omega)
          have lz : Hid ((takeL z (L.take q)).length = q) := Lib.hid (by rw [takeL_length, List.length_take]; omega)
          clear h1 h2
          have o0 := HC.o0
          have CW : Cols (w1.heap.size + 1) w1.heap.size (wr.alloc (.cells #[.int .i64 (x j)] 3)).drew (.slice RA q ka) (.slice RB q kb) (.slice RC q kc) (takeL x (L.take q)) (takeL y (L.take q)) (takeL z (L.take q)) := HC.below ((Below.refl _ wr).alloc (Nat.le_refl _) _).drew
          have rr : (wr.alloc (.cells #[.int .i64 (x j)] 3)).drew.ownsRow (w1.heap.size + 1) 3 1 (.slice RA q ka) q (cells1 (takeL x (L.take q))) := by have := CW.a; rw [lx.out] at this; exact this
          go_upto_region 10 with fail
          go_cut [8] (fun s8 wx => s8 = .int .i64 j ∧ ∃ g1 cap1, Cols (w1.heap.size + 1) w1.heap.size wx (.slice (some ⟨g1, 0, none⟩) (q + 1) cap1) (.slice RB q kb) (.slice RC q kc) (takeL x (L.take q) ++ [x j]) (takeL y (L.take q)) (takeL z (L.take q)) ∧ Below w1.heap.size w1 wx ∧ w1.heap.size < wx.heap.size)
          case first =>
            go_region_law ((refine step_append_lie intElem rr (by simp; omega) (by rfl) _ _ (by rfl) wr.heap.size [.int .i64 (x j)] (heap_alloc_new wr _) (by rfl) (by rfl) rfl (by simp [Value.oneCell']) (by unfold maxLen; omega) (by omega) ?_; intro g1 cap1 w2 ho hg hat; have mm := CW.mid0 hg; have m0 := mm.1; have m1 := mm.2; clear mm))
            all_goals
              go_wp2_with fail
              go_meet
              have P1 := CW.push0 lx.out ho hg hat
              have hgs := hg.size
              exact ⟨rfl, _, _, P1, bel_push ((hbl.alloc hbl.size _).drew) hg (Nat.le_refl _) (fun j' hj' => by have := rr.lt j' hj'; omega) (Nat.le_refl _), by simp at hgs ⊢; omega⟩
          case rest =>
          obtain ⟨rfl, g0, cap0, HC0, hbl0, hsz0⟩ := hcut
          clear CW rr o0 HC hbl hsz hck c0 c1 c2 xa xb xc bel HT'
          have HC := HC0; clear HC0
          have hbl := hbl0; clear hbl0
          have hsz := hsz0; clear hsz0
          have HT' := HT.step hbl
          have bel := HT'.bel
          have c0 := HT'.c0
          have c1 := HT'.c1
          have c2 := HT'.c2
          have xa : wc.cell? ⟨ba, oa + j, none⟩ = some (.int .i64 (x j)) := (hbl.cell (p := ⟨ba, oa + j, none⟩) hba).trans (HXA.out)
          have xb : wc.cell? ⟨bb, ob + j, none⟩ = some (.int .i64 (y j)) := (hbl.cell (p := ⟨bb, ob + j, none⟩) hbb).trans (HXB.out)
          have xc : wc.cell? ⟨bc, oc + j, none⟩ = some (.int .i64 (z j)) := (hbl.cell (p := ⟨bc, oc + j, none⟩) hbc).trans (HXC.out)
          have hck : True := trivial
          obtain ⟨v0, hv⟩ : ∃ v, v = wc := ⟨_, rfl⟩
          rw [← hv] at HC hbl hsz HT' bel c0 c1 c2 xa xb xc ⊢
          clear hv
          have o1 := HC.o1
          have CW : Cols (w1.heap.size + 1) w1.heap.size (v0.alloc (.cells #[.int .i64 (y j)] 3)).drew (.slice (some ⟨g0, 0, none⟩) (q + 1) cap0) (.slice RB q kb) (.slice RC q kc) (takeL x (L.take q) ++ [x j]) (takeL y (L.take q)) (takeL z (L.take q)) := HC.below ((Below.refl _ v0).alloc (Nat.le_refl _) _).drew
          have rr : (v0.alloc (.cells #[.int .i64 (y j)] 3)).drew.ownsRow (w1.heap.size + 1) 3 1 (.slice RB q kb) q (cells1 (takeL y (L.take q))) := by have := CW.b; rw [ly.out] at this; exact this
          go_upto_region 11 with fail
          go_cut [8] (fun s8 wx => s8 = .int .i64 j ∧ ∃ g1 cap1, Cols (w1.heap.size + 1) w1.heap.size wx (.slice (some ⟨g0, 0, none⟩) (q + 1) cap0) (.slice (some ⟨g1, 0, none⟩) (q + 1) cap1) (.slice RC q kc) (takeL x (L.take q) ++ [x j]) (takeL y (L.take q) ++ [y j]) (takeL z (L.take q)) ∧ Below w1.heap.size w1 wx ∧ w1.heap.size < wx.heap.size)
          case first =>
            go_region_law ((refine step_append_lie intElem rr (by simp; omega) (by rfl) _ _ (by rfl) v0.heap.size [.int .i64 (y j)] (heap_alloc_new v0 _) (by rfl) (by rfl) rfl (by simp [Value.oneCell']) (by unfold maxLen; omega) (by omega) ?_; intro g1 cap1 w2 ho hg hat; have mm := CW.mid1 hg; have m0 := mm.1; have m1 := mm.2; clear mm))
            all_goals
              go_wp2_with fail
              go_meet
              have P1 := CW.push1 ly.out ho hg hat
              have hgs := hg.size
              exact ⟨rfl, _, _, P1, bel_push ((hbl.alloc hbl.size _).drew) hg (Nat.le_refl _) (fun j' hj' => by have := rr.lt j' hj'; omega) (Nat.le_refl _), by simp at hgs ⊢; omega⟩
          case rest =>
          obtain ⟨rfl, g1, cap1, HC1, hbl1, hsz1⟩ := hcut
          clear CW rr o1 HC hbl hsz hck c0 c1 c2 xa xb xc bel HT'
          have HC := HC1; clear HC1
          have hbl := hbl1; clear hbl1
          have hsz := hsz1; clear hsz1
          have HT' := HT.step hbl
          have bel := HT'.bel
          have c0 := HT'.c0
          have c1 := HT'.c1
          have c2 := HT'.c2
          have xa : wc.cell? ⟨ba, oa + j, none⟩ = some (.int .i64 (x j)) := (hbl.cell (p := ⟨ba, oa + j, none⟩) hba).trans (HXA.out)
          have xb : wc.cell? ⟨bb, ob + j, none⟩ = some (.int .i64 (y j)) := (hbl.cell (p := ⟨bb, ob + j, none⟩) hbb).trans (HXB.out)
          have xc : wc.cell? ⟨bc, oc + j, none⟩ = some (.int .i64 (z j)) := (hbl.cell (p := ⟨bc, oc + j, none⟩) hbc).trans (HXC.out)
          have hck : True := trivial
          obtain ⟨v1, hv⟩ : ∃ v, v = wc := ⟨_, rfl⟩
          rw [← hv] at HC hbl hsz HT' bel c0 c1 c2 xa xb xc ⊢
          clear hv
          have o2 := HC.o2
          have CW : Cols (w1.heap.size + 1) w1.heap.size (v1.alloc (.cells #[.int .i64 (z j)] 3)).drew (.slice (some ⟨g0, 0, none⟩) (q + 1) cap0) (.slice (some ⟨g1, 0, none⟩) (q + 1) cap1) (.slice RC q kc) (takeL x (L.take q) ++ [x j]) (takeL y (L.take q) ++ [y j]) (takeL z (L.take q)) := HC.below ((Below.refl _ v1).alloc (Nat.le_refl _) _).drew
          have rr : (v1.alloc (.cells #[.int .i64 (z j)] 3)).drew.ownsRow (w1.heap.size + 1) 3 1 (.slice RC q kc) q (cells1 (takeL z (L.take q))) := by have := CW.c; rw [lz.out] at this; exact this
          go_wp2_with fail
          go_region_law ((refine step_append_lie intElem rr (by simp; omega) (by rfl) _ _ (by rfl) v1.heap.size [.int .i64 (z j)] (heap_alloc_new v1 _) (by rfl) (by rfl) rfl (by simp [Value.oneCell']) (by unfold maxLen; omega) (by omega) ?_; intro g1 cap1 w2 ho hg hat; have mm := CW.mid2 hg; have m0 := mm.1; have m1 := mm.2; clear mm))
          all_goals
            have P1 := CW.push2 lz.out ho hg hat
            have hgs := hg.size
            have hbf := bel_push (go := w1.heap.size) (k := 2) (v := .slice (some ⟨g1, 0, none⟩) (q + 1) cap1) ((hbl.alloc hbl.size _).drew) hg (Nat.le_refl _) (fun j' hj' => by have := rr.lt j' hj'; omega) (Nat.le_refl _)
            have PH := Lib.hid P1; clear P1
            go_wp2
            have PH2 := PH.out.as (X' := takeL x (L.take (q + 1))) (Y' := takeL y (L.take (q + 1))) (Z' := takeL z (L.take (q + 1))) (by rw [takeL_succ x L q hlt, ← HU.out]; rfl) (by rw [takeL_succ y L q hlt, ← HU.out]; rfl) (by rw [takeL_succ z L q hlt, ← HU.out]; rfl)
            have HA2 : ∀ j', j' < q + 1 → inside n (L.getD j' 0) := fun j' hj' => by
              rcases Nat.lt_or_ge j' q with h | h
              · exact HA.out j' h
              · obtain rfl : j' = q := by omega
                rw [← HU.out]; exact ⟨by omega, by omega⟩
            exact ⟨⟨q + 1, _, _, _, _, _, _, by omega, by go_num, HA2, PH2, hbf, by simp at hgs ⊢; omega⟩, by simp [intOf]; omega⟩
    · have hq' : q = L.length := by omega
      have hall : ∀ j, j < L.length → inside n (L.getD j 0) := fun j hj => HA.out j (by omega)
      have HL := Lib.hid hall; clear hall
      subst hq'
      rw [List.take_length] at HC
      have o0 := HC.o0
      have o1 := HC.o1
      have o2 := HC.o2
      have ra := HC.a
      have rb := HC.b
      have rc := HC.c
      rw [takeL_length] at ra rb rc
      have r0 := HT'.r0
      have r1 := HT'.r1
      have r2 := HT'.r2
      have f0 := HT'.f0
      have f1 := HT'.f1
      have f2 := HT'.f2
      have KK1 := Lib.hid (LFrom.of_own (L := takeL x L) (by rw [takeL_length]; exact ra))
      have KK2 := Lib.hid (LFrom.of_own (L := takeL y L) (by rw [takeL_length]; exact rb))
      have KK3 := Lib.hid (LFrom.of_own (L := takeL z L) (by rw [takeL_length]; exact rc))
      have HTL := Lib.hid (takeL_length x L)
      have HTM := Lib.hid (takeL_length y L)
      have HTN := Lib.hid (takeL_length z L)
      have z1 : w.heap.size + 1 < w1.heap.size + 1 := by omega
      clear ra rb rc HC hP KA KB KC HA
      have t := three_set (x := .slice RA L.length ka) (y := .slice RB L.length kb) (z := .slice RC L.length kc) r0 r1 r2
      have TH := Lib.hid t; clear t
      go_wp2
      obtain ⟨t0, t1, t2⟩ := TH.out
      exact bodyPost_ret (v := .tuple #[.agg #[.slice RA L.length ka, .slice RB L.length kb, .slice RC L.length kc], .int .i64 0]) (by simp [results, Try.results19, go_sem, t0, t1, t2]) rfl (HQ1.out HL.out _ _ ⟨RA, RB, RC, ka, kb, kc, by rw [HTL.out, HTM.out, HTN.out], (((KK1.out.set z1 _).set z1 _).set z1 _).ints, (((KK2.out.set z1 _).set z1 _).set z1 _).ints, (((KK3.out.set z1 _).set z1 _).set z1 _).ints, ((bel.setCell (by simp) _).setCell (by simp) _).setCell (by simp) _⟩)
set_option maxHeartbeats 1000000 in
theorem rtake_no (A B C P : Option Addr) (n m k ca cb cc lp cp : Nat) (w : World) (hr : ¬ (n = m ∧ n = k)) :
    Calls Try.prog 19 #[.agg #[.slice A n ca, .slice B m cb, .slice C k cc], .slice P lp cp] w (TakePost w [] [] [] 2) := by
  have HR := Lib.hid (fun w => rright_any A B C n m k ca cb cc w false (by simp; omega))
  clear hr
  obtain ⟨W, hW⟩ : ∃ W, W = (w.alloc (.cells #[.slice A n ca, .slice B m cb, .slice C k cc] 41)).alloc (.cells #[.slice none 0 0, .slice none 0 0, .slice none 0 0] 41) := ⟨_, rfl⟩
  have HT : TakeAt w (.slice A n ca) (.slice B m cb) (.slice C k cc) (.slice none 0 0) (.slice none 0 0) (.slice none 0 0) W := by
    rw [hW]; exact ⟨((Below.refl _ _).alloc (Nat.le_refl _) _).alloc (by simp) _, cell_al (cell_newk rfl rfl), cell_al (cell_newk rfl rfl), cell_al (cell_newk rfl rfl), cell_newk (by simp) rfl, cell_newk (by simp) rfl, cell_newk (by simp) rfl, frozen_newk (by simp) _, frozen_newk (by simp) _, frozen_newk (by simp) _⟩
  have HH := Lib.hid hW; clear hW
  go_enter Try.func19, Try.ntmps19
  go_wp2_with fail
  rw [← HH.out]
  with_reducible refine (HR.out W).mono ?_
  rintro e w1 ⟨rfl, hb1⟩
  replace HT := HT.step hb1
  clear HH hb1
  have hz := HT.lt
  obtain ⟨bel, c0, c1, c2, r0, r1, r2, f0, f1, f2⟩ := HT
  clear c0 c1 c2
  have t := three_set (x := .slice none 0 0) (y := .slice none 0 0) (z := .slice none 0 0) r0 r1 r2
  have TH := Lib.hid t; clear t
  go_wp2
  obtain ⟨t0, t1, t2⟩ := TH.out
  exact bodyPost_ret (v := .tuple #[.agg #[.slice none 0 0, .slice none 0 0, .slice none 0 0], .int .i64 2]) (by simp [results, Try.results19, go_sem, t0, t1, t2]) rfl ⟨none, none, none, 0, 0, 0, rfl, Cells.zero _ _ _, Cells.zero _ _ _, Cells.zero _ _ _, ((bel.setCell (by simp) _).setCell (by simp) _).setCell (by simp) _⟩
end Go.Proofs.Ytmdpdhdjbnhmeaa

/- The walk of ScanSpans: it returns true for any steps and span. -/
import Derived.Test.YtmdpdhdjbnhmeaaScanSelectsWalk
import Derived.Test.YtmdpdhdjbnhmeaaWordMath
namespace Go.Proofs.Ytmdpdhdjbnhmeaa
open Go.RowKit
set_option linter.unusedVariables false

/-- the three columns that are laid -/
def colT (s : Nat → Int) (k : Nat) : List Int := (List.range k).map fun i => tsum s (i + 1)
def colV (k : Nat) : List Int := (List.range k).map fun (i : Nat) => (i : Int)
def colS (k : Nat) : List Int := (List.range k).map fun _ => (0 : Int)
theorem colT_succ (s : Nat → Int) (k : Nat) : colT s (k + 1) = colT s k ++ [tsum s (k + 1)] := by simp [colT, List.range_succ]
theorem colV_succ (k : Nat) : colV (k + 1) = colV k ++ [(k : Int)] := by simp [colV, List.range_succ]
theorem colS_succ (k : Nat) : colS (k + 1) = colS k ++ [0] := by simp [colS, List.range_succ]
theorem colT_len (s : Nat → Int) (k : Nat) : (colT s k).length = k := by simp [colT]
theorem colV_len (k : Nat) : (colV k).length = k := by simp [colV]
theorem colS_len (k : Nat) : (colS k).length = k := by simp [colS]
theorem Ints.of_col {w : World} {base : Nat} {e : TypeId} {A : Option Addr} {c k : Nat} {L : List Int} {x : Nat → Int} (hl : L.length = k) (h : w.ownsRow base e 1 (.slice A k c) k (cells1 L)) (hx : ∀ j, j < k → L.getD j 0 = x j) : Ints w A k x := by
  subst hl
  exact Cells.congr (LInts.of_own h) (fun j hj => congrArg (Value.int .i64) (hx j hj))
theorem span_one (A B C : Option Addr) (w : World) (h : Ints w A 1 (fun _ => 1)) :
    Calls Try.prog 7 #[.agg #[.slice A 1 1, .slice B 1 1, .slice C 1 1], .int .i64 0, .int .i64 5] w (ListsPost w [0] 0) := by
  have := span_yes A B C 1 1 1 1 1 1 (fun _ => 1) 0 5 w h (by omega) ⟨rfl, rfl⟩
  rw [show whereL (fun _ => 1) (inSpan 0 5) 1 = [0] by decide] at this
  exact this
/-- a list of ints is handed back, with a code; nil has no capacity -/
def NilPost (w : World) (L : List Int) (code : Int) (e : Ending) (w' : World) : Prop :=
  ∃ A c, e = .returned (.tuple #[.slice A L.length c, .int .i64 code]) ∧ LInts w' A L ∧ (A = none → c = 0) ∧ Below w.heap.size w w'
theorem own_nil {w : World} {base : Nat} {e : TypeId} {size : Nat} {A : Option Addr} {n c : Nat} {xs : List Value} (h : w.ownsRow base e size (.slice A n c) n xs) : A = none → c = 0 := by
  intro hA
  rcases h.2 with ⟨hv, _⟩ | ⟨g, cap, cur, hv, _⟩
  · injection hv
  · injection hv with h1; rw [hA] at h1; cases h1
theorem Ints.below {w w' : World} {A : Option Addr} {n : Nat} {x : Nat → Int} (h : Ints w A n x) (hb : Below w.heap.size w w') : Ints w' A n x := Cells.below h hb
theorem wpList_wanted {P : Program} {ops : Array Oper} {Q : Exit → Act → World → Prop} {a : Act} {w : World} {rest : List Oper} {o : Oper} (hw : Region.wanted o (yielded ops a.tmps) = true)
    (h : ∀ K : Act → World → Prop, (∀ a w, wpList P ops Q rest a w → K a w) → o.wp P a w K Q) : wpList P ops Q (o :: rest) a w :=
  wpList_step fun K hK => by rw [if_pos hw]; exact h K hK
/-- 'append(own, list...)' -/
theorem wpList_append_list {P : Program} {t e : TypeId} {z : Value} {bytes : Nat} (E : Elem P t e z 1 bytes) {w0 w : World} {B base : Nat} {A : Option Addr} {c0 n : Nat} {xs : List Value}
    (hown : w.ownsRow base e 1 (.slice A n c0) n xs) (hb : Below B w0 w) (hB : B ≤ base) (hbase : base ≤ w.heap.size)
    {ops : Array Oper} {rest : List Oper} {o : Oper} {a : Act} {Q : Exit → Act → World → Prop} (hw : Region.wanted o (yielded ops a.tmps) = true) (s x : Operand)
    (ho : o.op = .call { callee := .builtin .append, args := #[s, x], argTypes := #[t, t] }) (S : Option Addr) (L : List Int) (c : Nat)
    (hs : a.eval s = .slice A n c0) (hx : a.eval x = .slice S L.length c) (hL : LInts w S L) (hc : S = none → c = 0)
    (h63 : n + L.length ≤ maxLen) (hbytes : (n + L.length) * bytes ≤ 140737488355328)
    (h : ∀ A' c' w1, w1.ownsRow base e 1 (.slice A' (n + L.length) c') (n + L.length) (xs ++ cells1 L) → Below B w0 w1 → w.grownBy w1 (Value.ownBlock (.slice A n c0)) → wpList P ops Q rest (a.put o.dst (.slice A' (n + L.length) c')) w1) :
    wpList P ops Q (o :: rest) a w := by
  obtain ⟨i, hi, hz, hsz, hby⟩ := E.info
  refine wpList_wanted hw fun K hK => ?_
  cases S with
  | none =>
    have hc' : c = 0 := hc rfl
    have hl : L = [] := by
      cases L with
      | nil => rfl
      | cons u L => obtain ⟨b, off, e, _⟩ := hL (by simp); cases e
    subst hc' hl
    have hrun := run_append_owned_none (P := P) (w := w) base t o.type e i 1 E.slice hi _ n xs hown
    unfold Oper.wp
    simp [execOp, ho, resolve, invoke, builtin, hs, hx, hrun, Result.andThen]
    refine hK _ _ ?_
    have := h A c0 w (by simpa [cells1] using hown) hb ⟨rfl, rfl, rfl, Nat.le_refl _, fun _ _ _ => rfl⟩
    simpa using this
  | some ad =>
    refine wp_append_own _ s x t ho base e i z 1 bytes E.slice hi hz hsz hby E.zs E.pos _ n xs hs hown ad L.length c (cells1 L) hx (by simp [cells1]) ?_ (by intro u hu; simp [cells1] at hu; obtain ⟨v, _, rfl⟩ := hu; rfl) h63 hbytes hbase ?_
    · intro j u hu
      have hj : j < L.length := by
        rcases Nat.lt_or_ge j L.length with h | h
        · exact h
        · simp [cells1, List.getElem?_eq_none h] at hu
      obtain ⟨b, off, e, _, hcell⟩ := hL (by omega)
      injection e with e
      subst e
      rw [Addr.add_lit, hcell j hj, ← hu]
      simp [cells1, List.getElem?_eq_getElem hj]
    · intro v' w1 ho' hg _
      obtain ⟨A', c', rfl⟩ := own_form ho'
      refine hK _ _ (h A' c' w1 ho' (hb.grown hg (Nat.le_trans hB hbase) ?_) hg)
      intro k hk
      have := hown.lt k hk
      omega
theorem own_empty (w : World) (base : Nat) (e : TypeId) (h : base ≤ w.heap.size) : (w.alloc (.cells #[] e)).ownsRow base e 1 (.slice (some ⟨w.heap.size, 0, none⟩) 0 0) 0 [] :=
  ⟨rfl, .inr ⟨w.heap.size, 0, #[], rfl, h, heap_alloc_new w _, Nat.le_refl _, Nat.zero_le _, rfl, rfl⟩⟩
set_option maxHeartbeats 1000000 in
theorem span_nil (A B C : Option Addr) (n m k ca cb cc : Nat) (x : Nat → Int) (a b : Int) (w : World) (h : Ints w A n x) (hn : n ≤ 1000000) (hr : n = m ∧ n = k) :
    Calls Try.prog 7 #[.agg #[.slice A n ca, .slice B m cb, .slice C k cc], .int .i64 a, .int .i64 b] w (NilPost w (whereL x (inSpan a b) n) 0) := by
  have HR := Lib.hid (fun w => right_any A B C n m k ca cb cc w true (by simp; exact hr))
  clear hr
  obtain ⟨W, hW⟩ : ∃ W, W = ((w.alloc (.cells #[.slice A n ca, .slice B m cb, .slice C k cc] 25)).alloc (.cells #[.int .i64 a] 3)).alloc (.cells #[.int .i64 b] 3) := ⟨_, rfl⟩
  have HW : BatchAt w w.heap.size (.slice A n ca) (.slice B m cb) (.slice C k cc) W := by
    rw [hW]; exact ⟨(((Below.refl _ _).alloc (Nat.le_refl _) _).alloc (by simp) _).alloc (by simp; omega) _, cell_al (cell_al (cell_newk rfl rfl)), cell_al (cell_al (cell_newk rfl rfl)), cell_al (cell_al (cell_newk rfl rfl))⟩
  have e1 : W.cell? ⟨w.heap.size + 1, 0, none⟩ = some (.int .i64 a) := by rw [hW]; exact cell_al (cell_newk (by simp) rfl)
  have e2 : W.cell? ⟨w.heap.size + 1 + 1, 0, none⟩ = some (.int .i64 b) := by rw [hW]; exact cell_newk (by simp) rfl
  have HH := Lib.hid hW; clear hW
  obtain ⟨_, d0, d1, d2⟩ := HW
  go_enter Try.func7, Try.ntmps7
  go_wp2_with fail
  rw [← HH.out]
  with_reducible refine (HR.out W).mono ?_
  rintro e w1 ⟨rfl, hb1⟩
  replace d0 := cell_be hb1 d0
  replace e1 := cell_be hb1 e1
  replace e2 := cell_be hb1 e2
  have hbel : Below w.heap.size w w1 := by
    have hB : Below w.heap.size w W := by rw [HH.out]; exact (((Below.refl _ _).alloc (Nat.le_refl _) _).alloc (by simp) _).alloc (by simp; omega) _
    exact hB.trans (hb1.mono hB.size)
  have HC := Lib.hid (where_2 A n ca x 22 (.pointer (some ⟨w.heap.size + 1, 0, none⟩)) (.pointer (some ⟨w.heap.size + 1 + 1, 0, none⟩)) (inSpan a b) w1 (Cells.below h hbel) hn ⟨enters_of Try.func22 (by kernel_rfl) rfl, fun t wr hb => span1_any t a b _ _ wr (cell_be hb e1) (cell_be hb e2)⟩)
  clear hb1 e1 e2 d1 d2
  go_wp2_with fail
  with_reducible refine HC.out.mono ?_
  rintro e w2 ⟨A', c', rfl, hown, hb2⟩
  go_wp2
  go_ret2
  exact ⟨A', c', rfl, LInts.of_own hown, own_nil hown, hbel.trans (hb2.mono hbel.size)⟩
theorem span_as (A B C : Option Addr) (n ca cb cc : Nat) (x : Nat → Int) (a b : Int) (w : World) (L : List Int) (hL : L = whereL x (inSpan a b) n) (h : Ints w A n x) (hn : n ≤ 1000000) :
    Calls Try.prog 7 #[.agg #[.slice A n ca, .slice B n cb, .slice C n cc], .int .i64 a, .int .i64 b] w (NilPost w L 0) := by
  rw [hL]; exact span_nil A B C n n n ca cb cc x a b w h hn ⟨rfl, rfl⟩
theorem ints_yz (A : Option Addr) (c : Nat) (L Y Z : List Int) (hL : L = Y ++ Z) (hn : L.length ≤ 1000000) (A' : Option Addr) (c' : Nat) (w : World) (h : LInts w A L) (h' : LInts w A' (Y ++ Z)) :
    Calls Try.prog 8 #[.slice A L.length c, .slice A' (Y.length + Z.length) c'] w fun e w' => e = .returned (.bool true) ∧ Below w.heap.size w w' := by
  rw [← hL] at h'
  have e : Y.length + Z.length = L.length := by rw [hL, List.length_append]
  rw [e]
  exact lints_same A c A' c' L w h h' hn
/-- the span's numbers -/
structure SpanAt (w0 : World) (n0 n1 n2 : Int) (w : World) : Prop where
  bel : Below w0.heap.size w0 w
  m0 : w.cell? ⟨w0.heap.size, 0, none⟩ = some (.int .i64 n0)
  m1 : w.cell? ⟨w0.heap.size, 1, none⟩ = some (.int .i64 n1)
  m2 : w.cell? ⟨w0.heap.size, 2, none⟩ = some (.int .i64 n2)
theorem SpanAt.step {w0 w w' : World} {n0 n1 n2 : Int} (h : SpanAt w0 n0 n1 n2 w) (hb : Below (w0.heap.size + 1) w w') : SpanAt w0 n0 n1 n2 w' := by
  refine ⟨h.bel.trans (hb.mono (by omega)), ?_, ?_, ?_⟩
  · rw [hb.cell (p := ⟨w0.heap.size, 0, none⟩) (by simp)]; exact h.m0
  · rw [hb.cell (p := ⟨w0.heap.size, 1, none⟩) (by simp)]; exact h.m1
  · rw [hb.cell (p := ⟨w0.heap.size, 2, none⟩) (by simp)]; exact h.m2
/-- the steps, cut to four bits -/
def low4 (x : Nat → Int) (i : Nat) : Int := x i % 16
theorem low4_bd (x : Nat → Int) (i : Nat) : 0 ≤ low4 x i ∧ low4 x i ≤ 15 := by unfold low4; omega
def SpansAt (w W : World) (K : Nat) (s : Nat → Int) (t i : Value) (wr : World) : Prop :=
  ∃ (k : Nat) (A B C : Option Addr) (ka kb kc : Nat), k ≤ K ∧ i = .int .i64 k ∧ t = .int .i64 (tsum s k) ∧
    Cols (w.heap.size + 2) (w.heap.size + 1) wr (.slice A k ka) (.slice B k kb) (.slice C k kc) (colT s k) (colV k) (colS k) ∧ Below (w.heap.size + 1) W wr ∧ w.heap.size + 2 ≤ wr.heap.size
theorem spans_push {w W wr w1 : World} {o : Obj} {row : Option Nat} {k : Nat} {v : Value} (hb : Below (w.heap.size + 1) W wr) (hW : w.heap.size + 1 ≤ W.heap.size) (hg : (wr.alloc o).grownBy w1 row) (hrow : ∀ j, row = some j → w.heap.size + 2 ≤ j) :
    Below (w.heap.size + 1) W (w1.setCell ⟨w.heap.size + 1, k, none⟩ v) :=
  bel_push (hb.alloc (Nat.le_trans hW hb.size) o) hg hW (fun j hj => by have := hrow j hj; omega) (Nat.le_refl _)
set_option maxRecDepth 100000 in
set_option maxHeartbeats 8000000 in
theorem scanSpans_walk (w : World) (A0 : Option Addr) (n c : Nat) (x0 : Nat → Int) (h : IntArg w A0 n c x0) (n0 : Int) (b0 : -9223372036854775808 ≤ n0 ∧ n0 ≤ 9223372036854775807) (n1 : Int) (b1 : -9223372036854775808 ≤ n1 ∧ n1 ≤ 9223372036854775807) (n2 : Int) (b2 : -9223372036854775808 ≤ n2 ∧ n2 ≤ 9223372036854775807) :
    Calls Try.prog 3 #[.slice A0 n c, .agg #[.int .i64 n0, .int .i64 n1, .int .i64 n2]] w fun e w' => e = .returned (.bool true) ∧ Below w.heap.size w w' := by
  have KA := Lib.hid h.ints
  have KD := Lib.hid h.bd
  have hnc := h.le
  have hmax := h.max
  clear h b0 b1 b2
  obtain ⟨K, hK⟩ : ∃ K, K = min n 60 := ⟨_, rfl⟩
  have hK1 : K ≤ n := by omega
  have hK2 : K ≤ 60 := by omega
  have hK3 : K < n → 60 ≤ K := by omega
  clear hK
  obtain ⟨W, hW⟩ : ∃ W, W = (w.alloc (.cells #[.int .i64 n0, .int .i64 n1, .int .i64 n2] 23)).alloc (.cells #[.slice none 0 0, .slice none 0 0, .slice none 0 0] 25) := ⟨_, rfl⟩
  have hC0 : Cols (w.heap.size + 2) (w.heap.size + 1) W (.slice none 0 0) (.slice none 0 0) (.slice none 0 0) [] [] [] := by
    rw [hW]; exact Cols.start (by omega) (cell_newk (by simp) rfl) (cell_newk (by simp) rfl) (cell_newk (by simp) rfl) (frozen_newk (by simp) _) (frozen_newk (by simp) _) (frozen_newk (by simp) _)
  have HS : SpanAt w n0 n1 n2 W := by
    rw [hW]; exact ⟨((Below.refl _ _).alloc (Nat.le_refl _) _).alloc (by simp) _, cell_al (cell_newk rfl rfl), cell_al (cell_newk rfl rfl), cell_al (cell_newk rfl rfl)⟩
  have hsW : w.heap.size + 2 ≤ W.heap.size := by rw [hW]; simp
  have HH := Lib.hid hW; clear hW
  go_enter Try.func3, Try.ntmps3
  go_wp2_with fail
  rw [← HH.out]
  clear HH
  go_loopw [6, 7] (SpansAt w W K (low4 x0)) (fun _ i _ => K - (intOf i).toNat)
  case atStart => exact ⟨0, none, none, none, 0, 0, 0, by omega, rfl, rfl, by simpa [colT, colV, colS] using hC0, Below.refl _ _, hsW⟩
  case round =>
    clear hC0
    obtain ⟨k, A, B, C, ka, kb, kc, hk, rfl, rfl, HC, hbl, hsz⟩ := hrel
    have HS' := HS.step hbl
    obtain ⟨t0, t1⟩ := tsum_bd (low4 x0) (low4_bd x0) k
    by_cases hlt : k < K
    · obtain ⟨b, off, rfl, hb, hc⟩ := KA.out (by omega)
      obtain ⟨u, hu⟩ : ∃ u, u = x0 k := ⟨_, rfl⟩
      have hck : wr.cell? ⟨b, off + k, none⟩ = some (.int .i64 u) := by rw [hu]; exact (HS'.bel.cell (p := ⟨b, off + k, none⟩) hb).trans (hc k (by omega))
      obtain ⟨v, hv⟩ : ∃ v, v = low4 x0 k := ⟨_, rfl⟩
      have em : bits .and .i64 u 15 = v := by rw [hv, hu]; exact WordMath.and_mask_i64 (x0 k) 15 4 (by omega) (by decide)
      obtain ⟨v0, v1⟩ : 0 ≤ v ∧ v ≤ 15 := by rw [hv]; exact low4_bd x0 k
      obtain ⟨T, hT⟩ : ∃ T, T = tsum (low4 x0) k + v := ⟨_, rfl⟩
      have HT := Lib.hid (show T = tsum (low4 x0) (k + 1) by rw [hT, hv]; rfl)
      have eT : IntKind.i64.wrap (tsum (low4 x0) k + v) = T := by rw [hT]; exact IntWalk.i64_in _ (by omega)
      clear hc hu hv hT
      have q0 : decide ((k : Int) < 60) = true := by simp; omega
      have o0 := HC.o0
      have r0 := HC.a
      rw [colT_len (low4 x0) k] at r0
      go_upto_region 7 with fail
      go_cut [6, 7] (fun s6 s7 wx => s6 = .int .i64 T ∧ s7 = .int .i64 k ∧ ∃ g1 cap1, Cols (w.heap.size + 2) (w.heap.size + 1) wx (.slice (some ⟨g1, 0, none⟩) (k + 1) cap1) (.slice B k kb) (.slice C k kc) (colT (low4 x0) k ++ [T]) (colV k) (colS k) ∧ Below (w.heap.size + 1) W wx ∧ w.heap.size + 2 ≤ wx.heap.size)
      case first =>
        go_wp2_with (at_builtin; refine wpList_append_lie intElem (r0.alloc _) (by simp; omega) rfl _ _ rfl wr.heap.size [.int .i64 T] (heap_alloc_new wr _) rfl rfl rfl (by simp [Value.oneCell']) (by unfold maxLen; omega) (by omega) ?_; intro g1 cap1 w2 ho hg hat; have CW := HC.below (bel_al wr (.cells #[.int .i64 T] 3)); have mm := CW.mid0 hg; have m0 := mm.1; have m1 := mm.2; clear mm)
        go_meet
        have P1 := CW.push0 (colT_len (low4 x0) k) ho hg hat
        have hB1 := spans_push (k := 0) (v := .slice (some ⟨g1, 0, none⟩) (k + 1) cap1) hbl (by omega) hg (fun j hj => (r0.lt j hj).1)
        have hz := hg.size
        simp at hz
        exact ⟨rfl, rfl, _, _, P1, hB1, by simp; omega⟩
      case rest =>
      obtain ⟨rfl, rfl, g0, cap0, HC0, hbl0, hsz0⟩ := hcut
      clear o0 r0 HC hbl hsz HS'
      clear hck em eT q0
      have HC := HC0; clear HC0
      have hbl := hbl0; clear hbl0
      have hsz := hsz0; clear hsz0
      have HS' := HS.step hbl
      obtain ⟨v0, hv⟩ : ∃ v, v = wc := ⟨_, rfl⟩
      rw [← hv] at HC hbl hsz HS' ⊢
      clear hv
      have o1 := HC.o1
      have r1 := HC.b
      rw [colV_len k] at r1
      go_upto_region 8 with fail
      go_cut [6, 7] (fun s6 s7 wx => s6 = .int .i64 T ∧ s7 = .int .i64 k ∧ ∃ g1 cap1, Cols (w.heap.size + 2) (w.heap.size + 1) wx (.slice (some ⟨g0, 0, none⟩) (k + 1) cap0) (.slice (some ⟨g1, 0, none⟩) (k + 1) cap1) (.slice C k kc) (colT (low4 x0) k ++ [T]) (colV k ++ [(k : Int)]) (colS k) ∧ Below (w.heap.size + 1) W wx ∧ w.heap.size + 2 ≤ wx.heap.size)
      case first =>
        go_wp2_with (at_builtin; refine wpList_append_lie intElem (r1.alloc _) (by simp; omega) rfl _ _ rfl v0.heap.size [.int .i64 (k : Int)] (heap_alloc_new v0 _) rfl rfl rfl (by simp [Value.oneCell']) (by unfold maxLen; omega) (by omega) ?_; intro g1 cap1 w2 ho hg hat; have CW := HC.below (bel_al v0 (.cells #[.int .i64 (k : Int)] 3)); have mm := CW.mid1 hg; have m0 := mm.1; have m1 := mm.2; clear mm)
        go_meet
        have P1 := CW.push1 (colV_len k) ho hg hat
        have hB1 := spans_push (k := 1) (v := .slice (some ⟨g1, 0, none⟩) (k + 1) cap1) hbl (by omega) hg (fun j hj => (r1.lt j hj).1)
        have hz := hg.size
        simp at hz
        exact ⟨rfl, rfl, _, _, P1, hB1, by simp; omega⟩
      case rest =>
      obtain ⟨rfl, rfl, g1, cap1, HC1, hbl1, hsz1⟩ := hcut
      clear o1 r1 HC hbl hsz HS'
      have HC := HC1; clear HC1
      have hbl := hbl1; clear hbl1
      have hsz := hsz1; clear hsz1
      have HS' := HS.step hbl
      obtain ⟨v1, hv⟩ : ∃ v, v = wc := ⟨_, rfl⟩
      rw [← hv] at HC hbl hsz HS' ⊢
      clear hv
      have o2 := HC.o2
      have r2 := HC.c
      rw [colS_len k] at r2
      go_wp2_with (at_builtin; refine wpList_append_lie intElem (r2.alloc _) (by simp; omega) rfl _ _ rfl v1.heap.size [.int .i64 0] (heap_alloc_new v1 _) rfl rfl rfl (by simp [Value.oneCell']) (by unfold maxLen; omega) (by omega) ?_; intro g1 cap1 w2 ho hg hat; have CW := HC.below (bel_al v1 (.cells #[.int .i64 0] 3)); have mm := CW.mid2 hg; have m0 := mm.1; have m1 := mm.2; clear mm)
      have P1 := CW.push2 (colS_len k) ho hg hat
      have hB2 := spans_push (k := 2) (v := .slice (some ⟨g1, 0, none⟩) (k + 1) cap1) hbl (by omega) hg (fun j hj => (r2.lt j hj).1)
      have hz := hg.size
      simp at hz
      have PH := Lib.hid P1; clear P1
      refine ⟨⟨k + 1, _, _, _, _, _, _, by omega, by go_num, by rw [← HT.out], PH.out.as (X' := colT (low4 x0) (k + 1)) (Y' := colV (k + 1)) (Z' := colS (k + 1)) (by rw [colT_succ, ← HT.out]) (by rw [colV_succ]) (by rw [colS_succ]), hB2, by simp; omega⟩, by simp [intOf]; omega⟩
    · have hk' : k = K := by omega
      subst hk'
      clear hK1
      go_upto_region 4 with fail
      go_cut [31] (fun t wx => t = .bool false ∧ wr = wx)
      case first =>
        by_cases hkn : k < n
        · have q0 : decide ((k : Int) < 60) = false := by simp; have := hK3 hkn; omega
          go_wp2_with fail
          go_meet
          exact ⟨rfl, rfl⟩
        · go_wp2_with fail
          go_meet
          exact ⟨rfl, rfl⟩
      case rest =>
      obtain ⟨rfl, rfl⟩ := hcut
      have m0 := HS'.m0
      have m1 := HS'.m1
      have m2 := HS'.m2
      obtain ⟨fr, hfr⟩ : ∃ v, v = n0 % 256 := ⟨_, rfl⟩
      obtain ⟨d1, hd1⟩ : ∃ v, v = n1 % 128 := ⟨_, rfl⟩
      obtain ⟨d2, hd2⟩ : ∃ v, v = n2 % 128 := ⟨_, rfl⟩
      have e0 : bits .and .i64 n0 255 = fr := by rw [hfr]; exact WordMath.and_mask_i64 n0 255 8 (by omega) (by decide)
      have e1 : bits .and .i64 n1 127 = d1 := by rw [hd1]; exact WordMath.and_mask_i64 n1 127 7 (by omega) (by decide)
      have e2 : bits .and .i64 n2 127 = d2 := by rw [hd2]; exact WordMath.and_mask_i64 n2 127 7 (by omega) (by decide)
      have f0 : 0 ≤ fr ∧ fr ≤ 255 := by omega
      have f1 : 0 ≤ d1 ∧ d1 ≤ 127 := by omega
      have f2 : 0 ≤ d2 ∧ d2 ≤ 127 := by omega
      clear hfr hd1 hd2
      obtain ⟨f0a, f0b⟩ := f0
      obtain ⟨f1a, f1b⟩ := f1
      obtain ⟨f2a, f2b⟩ := f2
      have GC : Three (w.heap.size + 1) (.slice A k ka) (.slice B k kb) (.slice C k kc) wr := ⟨HC.o0, HC.o1, HC.o2⟩
      have jA : Ints wr A k (fun i => tsum (low4 x0) (i + 1)) := Ints.of_col (colT_len _ k) (by have := HC.a; rw [colT_len] at this; exact this) (fun j hj => by simp [colT, hj])
      have jB : Ints wr B k (fun i => (i : Int)) := Ints.of_col (colV_len k) (by have := HC.b; rw [colV_len] at this; exact this) (fun j hj => by simp [colV, hj])
      have jC : Ints wr C k (fun _ => 0) := Ints.of_col (colS_len k) (by have := HC.c; rw [colS_len] at this; exact this) (fun j hj => by simp [colS, hj])
      have hB := HS'.bel
      obtain ⟨x, hx⟩ : ∃ x, x = fun i => tsum (low4 x0) (i + 1) := ⟨_, rfl⟩
      rw [← hx] at jA
      have HX := Lib.hid (show ∀ i j, i ≤ j → j < k → x i ≤ x j by intro i j hij _; rw [hx]; exact tsum_mono _ (fun i => (low4_bd x0 i).1) (by omega))
      have HXB := Lib.hid (show ∀ i, i < k → -9223372036854775808 ≤ x i ∧ x i ≤ 9223372036854775807 by intro i hi; have := tsum_bd (low4 x0) (low4_bd x0) (i + 1); rw [hx]; simp only; omega)
      clear hx HC t0 t1 KA KD hbl
      have one : Ints (((wr.alloc (.cells #[.int .i64 1] 3)).alloc (.cells #[.int .i64 1] 3)).alloc (.cells #[.int .i64 1] 3)) (some ⟨wr.heap.size, 0, none⟩) 1 (fun _ => 1) := fun _ => ⟨_, 0, rfl, by simp; omega, fun j hj => by
        have hj0 : j = 0 := by omega
        subst hj0
        exact cell_al (cell_al (cell_newk rfl rfl))⟩
      have hbb : Below wr.heap.size wr (((wr.alloc (.cells #[.int .i64 1] 3)).alloc (.cells #[.int .i64 1] 3)).alloc (.cells #[.int .i64 1] 3)) := (((Below.refl _ _).alloc (Nat.le_refl _) _).alloc (by simp) _).alloc (by simp; omega) _
      replace GC := GC.step hbb
      replace jA := Ints.below jA hbb
      replace jB := Ints.below jB hbb
      replace jC := Ints.below jC hbb
      replace hB := bel_step hB (Nat.le_refl _) hbb
      clear hbb
      go_wp2_with fail
      clear m0 m1 m2 e0 e1 e2 HS'
      obtain ⟨u1, hu1⟩ : ∃ W, W = ((wr.alloc (.cells #[.int .i64 1] 3)).alloc (.cells #[.int .i64 1] 3)).alloc (.cells #[.int .i64 1] 3) := ⟨_, rfl⟩
      rw [← hu1] at GC jA jB jC hB one ⊢
      clear hu1
      with_reducible refine (span_one _ _ _ u1 one).mono ?_
      rintro e u2 ⟨X5, cx5, rfl, L5, hbb⟩
      clear one L5
      replace GC := GC.step hbb
      replace jA := Ints.below jA hbb
      replace jB := Ints.below jB hbb
      replace jC := Ints.below jC hbb
      replace hB := bel_step hB (Nat.le_refl _) hbb
      clear hbb
      obtain ⟨at_, hat⟩ : ∃ v, v = fr + d1 := ⟨_, rfl⟩
      obtain ⟨to_, hto⟩ : ∃ v, v = at_ + d2 := ⟨_, rfl⟩
      have g1 : fr ≤ at_ := by omega
      have g2 : at_ ≤ to_ := by omega
      have g3 : to_ ≤ 1000 := by omega
      rw [← hat, ← hto]
      clear hat hto
      obtain ⟨SX, hSX⟩ : ∃ L, L = whereL x (inSpan fr to_) k := ⟨_, rfl⟩
      obtain ⟨SY, hSY⟩ : ∃ L, L = whereL x (inSpan fr at_) k := ⟨_, rfl⟩
      obtain ⟨SZ, hSZ⟩ : ∃ L, L = whereL x (inSpan at_ to_) k := ⟨_, rfl⟩
      have lX : SX.length ≤ k := by rw [hSX]; exact whereL_le _ _ _
      have lY : SY.length ≤ k := by rw [hSY]; exact whereL_le _ _ _
      have lZ : SZ.length ≤ k := by rw [hSZ]; exact whereL_le _ _ _
      have HYZ := Lib.hid (show SX = SY ++ SZ by rw [hSX, hSY, hSZ]; exact whereL_parts x fr at_ to_ g1 g2 k HX.out)
      have HSX := Lib.hid hSX
      have HSY := Lib.hid hSY
      have HSZ := Lib.hid hSZ
      clear hSX hSY hSZ
      have a0 := GC.c0
      have a1 := GC.c1
      have a2 := GC.c2
      go_wp2_with fail
      clear a0 a1 a2
      with_reducible refine (span_as A B C k ka kb kc x fr to_ _ SX HSX.out jA (by omega)).mono ?_
      rintro e w1 ⟨X1, cx1, rfl, L1, nl1, hbb⟩
      replace GC := GC.step hbb
      replace jA := Ints.below jA hbb
      replace jB := Ints.below jB hbb
      replace jC := Ints.below jC hbb
      replace hB := bel_step hB (Nat.le_refl _) hbb
      clear hbb
      have a0 := GC.c0
      have a1 := GC.c1
      have a2 := GC.c2
      go_wp2_with fail
      clear a0 a1 a2
      with_reducible refine (span_as A B C k ka kb kc x fr at_ _ SY HSY.out jA (by omega)).mono ?_
      rintro e w2 ⟨X2, cx2, rfl, L2, nl2, hbb⟩
      replace GC := GC.step hbb
      replace jA := Ints.below jA hbb
      replace jB := Ints.below jB hbb
      replace jC := Ints.below jC hbb
      replace L1 := L1.below hbb
      replace hB := bel_step hB (Nat.le_refl _) hbb
      clear hbb
      have a0 := GC.c0
      have a1 := GC.c1
      have a2 := GC.c2
      go_wp2_with fail
      clear a0 a1 a2
      with_reducible refine (span_as A B C k ka kb kc x at_ to_ _ SZ HSZ.out jA (by omega)).mono ?_
      rintro e w3 ⟨X3, cx3, rfl, L3, nl3, hbb⟩
      replace GC := GC.step hbb
      replace jA := Ints.below jA hbb
      replace jB := Ints.below jB hbb
      replace jC := Ints.below jC hbb
      replace L1 := L1.below hbb
      replace L2 := L2.below hbb
      replace hB := bel_step hB (Nat.le_refl _) hbb
      clear hbb
      go_upto_region 19 with fail
      go_cut [126] (fun t wx => t = .bool false ∧ Below w3.heap.size w3 wx)
      case first =>
        have N2 := Lib.hid nl2
        have N3 := Lib.hid nl3
        clear nl1 nl2 nl3
        have KI := Lib.hid (ints_yz X1 cx1 SX SY SZ HYZ.out (by omega))
        have tok1 : True := trivial
        have L2' := L2.below (bel_al w3 (.cells #[] 3))
        have L3' := L3.below (bel_al w3 (.cells #[] 3))
        have hb0 := bel_al w3 (.cells #[] 3)
        go_wp2_with (first
          | (at_builtin; have _t := tok1; refine wpList_append_list intElem (own_empty w3 w3.heap.size 3 (Nat.le_refl _)) hb0 (Nat.le_refl _) (by simp) (by rfl) _ _ rfl X2 SY cx2 rfl rfl L2' N2.out (by unfold maxLen; omega) (by omega) ?_; intro A1 c1 v1 ho1 hb1 hg1; simp only [Nat.zero_add, List.nil_append] at ho1; have hs1 := hg1.size; (try simp at hs1); clear tok1; have tok2 : True := trivial)
          | (at_builtin; have _t := tok2; refine wpList_append_list intElem ho1 hb1 (Nat.le_refl _) (by omega) (by rfl) _ _ rfl X3 SZ cx3 rfl rfl (L3.below hb1) N3.out (by unfold maxLen; omega) (by omega) ?_; intro A2 c2 v2 ho2 hb2 hg2; clear tok2)
          | (go_at_call 8; refine (KI.out A2 c2 v2 (L1.below hb2) (LInts.of_own (L := SY ++ SZ) (by rw [List.length_append, cells1_append]; exact ho2))).mono ?_; rintro e v3 ⟨rfl, hb3⟩))
        go_meet
        exact ⟨rfl, bel_step hb2 (Nat.le_refl _) hb3⟩
      case rest =>
      obtain ⟨rfl, hbb⟩ := hcut
      replace GC := GC.step hbb
      replace jA := jA.below hbb
      replace jB := jB.below hbb
      replace jC := jC.below hbb
      replace L1 := L1.below hbb
      replace hB := bel_step hB (Nat.le_refl _) hbb
      clear hbb L2 L3 nl1 nl2 nl3 HYZ HSY HSZ
      have HIN := Lib.hid (show ∀ j, j < SX.length → inside k (SX.getD j 0) by
        intro j hj
        rw [HSX.out] at hj ⊢
        obtain ⟨i, hi, e, _⟩ := whereL_at x _ k j hj
        rw [e]; exact ⟨by omega, by omega⟩)
      have a0 := GC.c0
      have a1 := GC.c1
      have a2 := GC.c2
      go_wp2_with fail
      clear a0 a1 a2
      with_reducible refine (take_yes A B C X1 k ka kb kc cx1 x (fun i => (i : Int)) (fun _ => 0) SX wc jA jB jC L1 (by omega) HIN.out).mono ?_
      rintro e w4 ⟨TA, TB, TC, ta, tb, tc, rfl, M1, M2, M3, hbb⟩
      replace GC := GC.step hbb
      replace jA := jA.below hbb
      replace L1 := L1.below hbb
      replace hB := bel_step hB (Nat.le_refl _) hbb
      clear hbb M3 jB jC HIN
      simp only [takeL_length]
      have hbb := bel_al w4 (.cells #[.slice TA SX.length ta, .slice TB SX.length tb, .slice TC SX.length tc] 25)
      replace GC := GC.step hbb
      replace jA := jA.below hbb
      replace L1 := L1.below hbb
      replace M1 := M1.below hbb
      replace M2 := M2.below hbb
      replace hB := bel_step hB (Nat.le_refl _) hbb
      clear hbb
      have G1 := Three.new w4 (.slice TA SX.length ta) (.slice TB SX.length tb) (.slice TC SX.length tc) 25
      have g0 := G1.c0
      go_wp2_with fail
      clear g0
      obtain ⟨W5, hW5⟩ : ∃ W5, W5 = w4.alloc (.cells #[.slice TA SX.length ta, .slice TB SX.length tb, .slice TC SX.length tc] 25) := ⟨_, rfl⟩
      rw [← hW5] at GC jA L1 M1 M2 hB G1 ⊢
      clear hW5
      go_loopw [20] (fun i wx => ∃ q nn : Nat, q ≤ SX.length ∧ i = .int .i64 q ∧ wx = W5.drewN nn) (fun i _ => SX.length - (intOf i).toNat)
      case atStart => exact ⟨0, 0, by omega, rfl, rfl⟩
      case round =>
        obtain ⟨q, nn, hq, rfl, rfl⟩ := hrel
        by_cases hql : q < SX.length
        · have hql' := hql
          rw [HSX.out] at hql'
          obtain ⟨j, hj, ej, pj⟩ := whereL_at x _ k q hql'
          rw [← HSX.out] at ej
          clear hql'
          obtain ⟨p1, p2⟩ := inSpan_iff.1 pj
          clear pj
          obtain ⟨b1, o1, rfl, hb1, hc1⟩ := M1 (by rw [takeL_length]; omega)
          obtain ⟨b2, o2, rfl, hb2, hc2⟩ := M2 (by rw [takeL_length]; omega)
          obtain ⟨b3, o3, rfl, hb3, hc3⟩ := L1 (by omega)
          have t1 : W5.cell? ⟨b1, o1 + q, none⟩ = some (.int .i64 (x j)) := by
            rw [hc1 q (by rw [takeL_length]; exact hql)]
            simp only [takeL, List.getD_eq_getElem?_getD, List.getElem?_map, List.getElem?_eq_getElem hql, Option.map_some, Option.getD_some] at ej ⊢
            rw [ej]; rfl
          have t2 : W5.cell? ⟨b2, o2 + q, none⟩ = some (.int .i64 j) := by
            rw [hc2 q (by rw [takeL_length]; exact hql)]
            simp only [takeL, List.getD_eq_getElem?_getD, List.getElem?_map, List.getElem?_eq_getElem hql, Option.map_some, Option.getD_some] at ej ⊢
            rw [ej]; rfl
          have t3 : W5.cell? ⟨b3, o3 + q, none⟩ = some (.int .i64 j) := by rw [hc3 q hql]; simp only; rw [ej]
          clear hc1 hc2 hc3 ej M1 M2 L1 jA
          have g0 := G1.c0
          have g1' := G1.c1
          have y0 : (0 : Int) ≤ (q : Int) := by omega
          have y1 : (q : Int) < (SX.length : Int) := by omega
          obtain ⟨z, hz⟩ : ∃ z, z = x j := ⟨_, rfl⟩
          rw [← hz] at p1 p2 t1
          clear hz
          have y2 : decide (z < fr) = false := by simp; omega
          have y3 : decide (to_ ≤ z) = false := by simp; omega
          go_wp2_with fail
          go_quiet (fail)
          go_wp2
          exact ⟨⟨q + 1, nn + nq, by omega, by go_num, rfl⟩, by simp [intOf]; omega⟩
        · have hbb := bel_drewN (Below.refl W5.heap.size W5) nn
          replace GC := GC.step hbb
          replace jA := jA.below hbb
          replace hB := bel_step hB (Nat.le_refl _) hbb
          clear hbb M1 M2 L1 G1
          obtain ⟨W6, hW6⟩ : ∃ W6, W6 = W5.drewN nn := ⟨_, rfl⟩
          rw [← hW6] at GC jA hB ⊢
          clear hW6
          have a0 := GC.c0
          go_wp2_with fail
          go_loop [21, 22] (fun c i => ∃ q : Nat, q ≤ k ∧ i = .int .i64 q ∧ c = .int .i64 ((whereL x (inSpan fr to_) q).length : Nat)) (fun _ i => k - (intOf i).toNat)
          case atStart => exact ⟨0, by omega, rfl, rfl⟩
          case round =>
            obtain ⟨r, hr, rfl, rfl⟩ := hrel
            have hwl := whereL_le x (inSpan fr to_) r
            by_cases hrl : r < k
            · obtain ⟨b1, o1, rfl, hb1, hc1⟩ := jA (by omega)
              obtain ⟨z, hz⟩ : ∃ z, z = x r := ⟨_, rfl⟩
              have t1 : W6.cell? ⟨b1, o1 + r, none⟩ = some (.int .i64 z) := by rw [hz]; exact hc1 r hrl
              have HZ := Lib.hid hz
              clear hc1 jA hz
              by_cases s1 : fr ≤ z
              · by_cases s2 : z < to_
                · have HP := Lib.hid (whereL_yes (x := x) (p := inSpan fr to_) (k := r) (by rw [← HZ.out]; exact inSpan_iff.2 ⟨s1, s2⟩))
                  go_wp2
                  exact ⟨⟨r + 1, by omega, by go_num, by rw [HP.out, List.length_append]; rfl⟩, by simp [intOf]; omega⟩
                · have HP := Lib.hid (whereL_no (x := x) (p := inSpan fr to_) (k := r) (by rw [← HZ.out]; exact inSpan_no.2 (fun h => s2 h.2)))
                  go_wp2
                  exact ⟨⟨r + 1, by omega, by go_num, by rw [HP.out]⟩, by simp [intOf]; omega⟩
              · have HP := Lib.hid (whereL_no (x := x) (p := inSpan fr to_) (k := r) (by rw [← HZ.out]; exact inSpan_no.2 (fun h => s1 h.1)))
                have hd : decide (fr ≤ z) = false := decide_eq_false s1
                go_wp2
                exact ⟨⟨r + 1, by omega, by go_num, by rw [HP.out]⟩, by simp [intOf]; omega⟩
            · have hrk : r = k := by omega
              have HE := Lib.hid (show (whereL x (inSpan fr to_) r).length = SX.length by rw [hrk, HSX.out])
              clear hrk
              go_wp2
              go_ret
              exact ⟨ret_bool (by rw [HE.out]; simp), hB⟩
end Go.Proofs.Ytmdpdhdjbnhmeaa

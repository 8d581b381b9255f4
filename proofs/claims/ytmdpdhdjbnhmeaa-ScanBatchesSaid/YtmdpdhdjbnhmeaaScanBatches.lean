/- Contract of scan.Batches. -/
import Derived.Test.YtmdpdhdjbnhmeaaChunk
import Derived.Deep.DrawnRows
namespace Go.Proofs.Ytmdpdhdjbnhmeaa
open Go.RowKit Go.Shelf
set_option linter.unusedVariables false
attribute [local go_sem] Oper.semAt_some
attribute [local go_sem ↓] Go.wp_at_zero Go.wp_at_succ

/-- a chunk's points -/
def chunkPts (a : Nat → Pt) (size len q : Nat) : List Pt := ptsTo (fun j => a (q * size + j)) (chunkLen size len q)
/-- how many chunks -/
def chunkNum (size len : Nat) : Nat := (len + size - 1) / size
def chunksOf (a : Nat → Pt) (size len : Nat) : List (List Pt) := (List.range (chunkNum size len)).map (chunkPts a size len)
def BatsPost (e : TypeId) (w : World) (Ls : List (List Pt)) (code : Int) (en : Ending) (w' : World) : Prop :=
  ∃ A c, en = .returned (.tuple #[.slice A Ls.length c, .int .i64 code]) ∧ IsBats w.heap.size e w' (.slice A Ls.length c) Ls ∧ Below w.heap.size w w'
def BatsI (w : World) (a : Nat → Pt) (size len : Nat) (pre : List (ChunkAt size len)) (W : World) : Prop :=
  (∃ v, Boxed W w.heap.size 34 v ∧ IsBats (w.heap.size + 3) 25 W v (pre.map fun x => chunkPts a size len x.1)) ∧ Below w.heap.size w W ∧ w.heap.size + 3 ≤ W.heap.size
theorem own_nc {w w' : World} {base : Nat} {e : TypeId} {size : Nat} {v : Value} {n : Nat} {xs : List Value} {row : Option Nat} (h : w.ownsRow base e size v n xs) (hg : w.grownBy w' row) (hr : ∀ r, row = some r → ∃ o : Obj, w.heap[r]? = some o ∧ o.isCells = false) : w'.ownsRow base e size v n xs := by
  refine h.kept hg ?_
  rcases h.2 with ⟨rfl, _⟩ | ⟨g, cap, cur, rfl, _, hg', _⟩
  · exact .inl rfl
  · refine .inr (fun e => ?_)
    obtain ⟨o, ho, hc⟩ := hr g (by rw [← e]; rfl)
    rw [hg'] at ho
    injection ho with ho
    subst ho
    simp [Obj.isCells] at hc
theorem IsBats.nc {base : Nat} {e : TypeId} {w w' : World} {v : Value} {Ls : List (List Pt)} {row : Option Nat} (h : IsBats base e w v Ls) (hg : w.grownBy w' row) (hr : ∀ r, row = some r → ∃ o : Obj, w.heap[r]? = some o ∧ o.isCells = false) : IsBats base e w' v Ls := by
  obtain ⟨ts, hl, ho, hi⟩ := h
  exact ⟨ts, hl, own_nc ho hg hr, fun i t L h1 h2 => ⟨own_nc (hi i t L h1 h2).1 hg hr, own_nc (hi i t L h1 h2).2.1 hg hr, own_nc (hi i t L h1 h2).2.2 hg hr⟩⟩
theorem batsI_own {w : World} {a : Nat → Pt} {size len B : Nat} (hB : w.heap.size < B) : OwnFrom B (BatsI w a size len) := by
  intro s A B' row hs hg hr
  obtain ⟨⟨v, hb, hbs⟩, hbel, hz⟩ := hs
  refine ⟨⟨v, hb.kept hg (fun e => ?_), hbs.nc hg (fun r e => (hr r e).2)⟩, hbel.grown hg hbel.size (fun k hk => ?_), Nat.le_trans hz hg.size⟩
  · have := (hr _ e.symm).1; omega
  · have := (hr _ hk).1; omega
theorem keep2_b {Bs Bn : Nat} {w : World} (W : World) (l : Nat) (o o' : Obj) (_ : w.heap.size ≤ l) (h : W.heap[l]? = some o) (hc : o.isCells = false) (_ : o.isWalk = false) : Keep2 Bs Bn W (W.putObj l o') := fun v =>
  ⟨fun e => cell_kept e (grownBy_putObj' W l o') (fun r hr => by cases hr; exact ⟨o, h, hc⟩), fun e => cell_kept e (grownBy_putObj' W l o') (fun r hr => by cases hr; exact ⟨o, h, hc⟩)⟩
theorem bel_add (w : World) (o : Obj) : Below w.heap.size w (w.alloc o) := (Below.refl _ _).alloc (Nat.le_refl _) _
theorem Pts.sub {w : World} {b off n : Nat} {a : Nat → Pt} (h : Pts w (some ⟨b, off, none⟩) n a) {q m : Nat} (hq : q + m ≤ n) : Pts w (some ⟨b, off + q * 3, none⟩) m (fun j => a (q + j)) := by
  intro hm
  obtain ⟨b', off', e, hl, hc⟩ := h (by omega)
  injection e with e
  injection e with e1 e2
  subst e1 e2
  refine ⟨b, off + q * 3, rfl, hl, fun j hj => ?_⟩
  have := hc (q * 3 + j) (by omega)
  rw [Nat.add_assoc, this]
  unfold ptCell
  rw [show (q * 3 + j) % 3 = j % 3 by omega, show (q * 3 + j) / 3 = q + j / 3 by omega]
theorem chunkLen_le {size len q : Nat} (h : q * size < len) : q * size + chunkLen size len q ≤ len := by unfold chunkLen; omega
theorem chunkLen_small (size len q : Nat) : chunkLen size len q ≤ size := by unfold chunkLen; omega
theorem allChunks_is {size len : Nat} (hs : 1 ≤ size) (a : Nat → Pt) {xs : List (ChunkAt size len)} (h : AllChunks size len xs) : (xs.map fun x => chunkPts a size len x.1) = chunksOf a size len := by
  obtain ⟨q, h1, h2, h3⟩ := h
  have hq : q = chunkNum size len := by
    unfold chunkNum
    rcases h3 with rfl | h3
    · have : len = 0 := by omega
      subst this
      rw [Nat.zero_add, Nat.div_eq_of_lt (by omega)]
    · cases q with
      | zero => omega
      | succ q =>
        rw [Nat.add_sub_cancel] at h3
        have e : (q + 1) * size = q * size + size := by rw [Nat.add_mul, Nat.one_mul]
        symm
        refine Nat.div_eq_of_lt_le ?_ ?_
        · rw [e]; omega
        · rw [Nat.add_mul (q + 1) 1, e]; omega
  unfold chunksOf
  rw [← hq, ← h1, List.map_map]
  rfl
theorem IsBats.add {base e : Nat} {w w1 : World} {v v' : Value} {Ls : List (List Pt)} {L : List Pt} {ts : List (Value × Value × Value)} {t : Value × Value × Value} (hl : ts.length = Ls.length) (hown : w.ownsRow base e 3 v Ls.length (triCells ts))
    (hi : ∀ (i : Nat) t L, ts[i]? = some t → Ls[i]? = some L → IsBat base w t L) (hne : 3 ≠ e) (ht : IsBat base w t L) (hg : w.grownBy w1 v.ownBlock)
    (ho : w1.ownsRow base e 3 v' (Ls.length + 1) (triCells ts ++ [t.1, t.2.1, t.2.2])) : IsBats base e w1 v' (Ls ++ [L]) := by
  refine ⟨ts ++ [t], by simp [hl], ?_, fun i u M h1 h2 => ?_⟩
  · rw [triCells_append, List.length_append]; exact ho
  · rcases Nat.lt_or_ge i ts.length with h | h
    · rw [List.getElem?_append_left h] at h1
      rw [List.getElem?_append_left (by omega)] at h2
      exact (hi i u M h1 h2).kept hown hne hg
    · have hi' : i = ts.length := by
        rcases Nat.lt_or_ge ts.length i with h3 | h3
        · rw [List.getElem?_eq_none (by simp; omega)] at h1; cases h1
        · omega
      subst hi'
      rw [List.getElem?_append_right (Nat.le_refl _), Nat.sub_self] at h1
      rw [hl, List.getElem?_append_right (Nat.le_refl _), Nat.sub_self] at h2
      simp at h1 h2
      subst h1 h2
      exact ht.kept hown hne hg
theorem IsBats.set {base e : Nat} {w : World} {v : Value} {Ls : List (List Pt)} (h : IsBats base e w v Ls) {g k : Nat} (hg : g < base) (u : Value) : IsBats base e (w.setCell ⟨g, k, none⟩ u) v Ls := by
  obtain ⟨ts, hl, ho, hi⟩ := h
  exact ⟨ts, hl, own_set ho hg u, fun i t L h1 h2 => ⟨own_set (hi i t L h1 h2).1 hg u, own_set (hi i t L h1 h2).2.1 hg u, own_set (hi i t L h1 h2).2.2 hg u⟩⟩
theorem IsBats.less {base base' e : Nat} {w : World} {v : Value} {Ls : List (List Pt)} (h : IsBats base e w v Ls) (hb : base' ≤ base) : IsBats base' e w v Ls := by
  obtain ⟨ts, hl, ho, hi⟩ := h
  exact ⟨ts, hl, own_less ho hb, fun i t L h1 h2 => ⟨own_less (hi i t L h1 h2).1 hb, own_less (hi i t L h1 h2).2.1 hb, own_less (hi i t L h1 h2).2.2 hb⟩⟩
theorem own_iscells {w : World} {base : Nat} {e : TypeId} {size : Nat} {v : Value} {n : Nat} {xs : List Value} (h : w.ownsRow base e size v n xs) : ∀ (j : Nat) (o : Obj), v.ownBlock = some j → w.heap[j]? = some o → o.isCells = true := by
  intro j o hj ho
  rcases h.2 with ⟨rfl, _⟩ | ⟨g, cap, cur, rfl, _, hg, _⟩
  · simp [Value.ownBlock] at hj
  · have : g = j := by simpa [Value.ownBlock] using hj
    subst this
    rw [hg] at ho
    injection ho with ho
    subst ho
    rfl
/-- what a round of Batches leaves -/
theorem bats_round {w W w3 w4 : World} {a : Nat → Pt} {size n B : Nat} {pre : List (ChunkAt size n)} {x : ChunkAt size n} {ts : List (Value × Value × Value)} {V : Option Addr} {cv k g1 cap1 c1 c2 c3 : Nat} {A1 A2 A3 : Option Addr} {L : List Pt} (hL : L = chunkPts a size n x.1)
    (hk : k = (pre.map fun x => chunkPts a size n x.1).length) (hbx : Boxed W w.heap.size 34 (.slice V k cv)) (hB : Below w.heap.size w W) (hz3 : w.heap.size + 3 ≤ W.heap.size) (hb3 : Below W.heap.size W w3)
    (hts : ts.length = (pre.map fun x => chunkPts a size n x.1).length) (hrow : W.ownsRow (w.heap.size + 3) 25 3 (.slice V k cv) k (triCells ts))
    (hi : ∀ (i : Nat) t L, ts[i]? = some t → (pre.map fun x => chunkPts a size n x.1)[i]? = some L → IsBat (w.heap.size + 3) W t L)
    (ht : IsBat (w.heap.size + 3) w3 (.slice A1 L.length c1, .slice A2 L.length c2, .slice A3 L.length c3) L)
    (ho : w4.ownsRow (w.heap.size + 3) 25 3 (.slice (some ⟨g1, 0, none⟩) (k + 1) cap1) (k + 1) (triCells ts ++ [.slice A1 L.length c1, .slice A2 L.length c2, .slice A3 L.length c3]))
    (hg : (w3.alloc (.cells #[.slice A1 L.length c1, .slice A2 L.length c2, .slice A3 L.length c3] 25)).grownBy w4 (Value.ownBlock (.slice V k cv))) :
    KeepsFrom B W (w4.setCell ⟨w.heap.size, 0, none⟩ (.slice (some ⟨g1, 0, none⟩) (k + 1) cap1)) ∧ Keep2 (w.heap.size + 1) (w.heap.size + 1 + 1) W (w4.setCell ⟨w.heap.size, 0, none⟩ (.slice (some ⟨g1, 0, none⟩) (k + 1) cap1)) ∧ BatsI w a size n (pre ++ [x]) (w4.setCell ⟨w.heap.size, 0, none⟩ (.slice (some ⟨g1, 0, none⟩) (k + 1) cap1)) := by
  have hba := bel_step hb3 (Nat.le_refl _) (bel_add w3 (.cells #[.slice A1 L.length c1, .slice A2 L.length c2, .slice A3 L.length c3] 25))
  have hrw := own_below hrow hba
  refine ⟨?_, ?_, ?_⟩
  · have k1 : KeepsOthers W (w3.alloc (.cells #[.slice A1 L.length c1, .slice A2 L.length c2, .slice A3 L.length c3] 25)) := ⟨hba.size, fun i o hi ho => (hba.block i (Array.getElem?_eq_some_iff.1 hi).1).trans hi⟩
    exact ((k1.trans (KeepsOthers.of_grownBy hg (own_iscells hrw))).trans (KeepsOthers.setCell _ _ _)).from B
  · intro v
    exact ⟨fun e => cell_other (far_cell hg (own_ne hrw (by simp)) (cell_be hba e)) (.inl (by simp)), fun e => cell_other (far_cell hg (own_ne hrw (by simp)) (cell_be hba e)) (.inl (by first | omega | simp | (simp; omega)))⟩
  · have hbx2 : Boxed (w3.alloc (.cells #[.slice A1 L.length c1, .slice A2 L.length c2, .slice A3 L.length c3] 25)) w.heap.size 34 (.slice V k cv) := (hba.block _ hbx.lt).trans hbx
    have hbx3 := hbx2.kept hg (own_ne hrw (by omega))
    refine ⟨⟨_, hbx3.set _, ?_⟩, ?_, ?_⟩
    · rw [List.map_append]
      refine IsBats.set ?_ (by omega) _
      subst hk
      have hl1 : [x].map (fun x => chunkPts a size n x.1) = [L] := by rw [hL]; rfl
      rw [hl1]
      exact IsBats.add hts hrw (fun i t L h1 h2 => (hi i t L h1 h2).below hba) (by decide) (ht.below (bel_add w3 _)) hg ho
    · exact ((hB.trans (hba.mono hB.size)).grown hg (Nat.le_trans hB.size hba.size) (fun j hj => by have := (hrw.lt j hj).1; omega)).setCell (p := ⟨w.heap.size, 0, none⟩) (Nat.le_refl _) _
    · have := hg.size; have := hba.size; simp; omega
/-- columns of a chunk -/
def ColsAt (base : Nat) (w : World) (L : List Pt) (A B C : Option Addr) (ca cb cc : Nat) : Prop :=
  w.ownsRow base 3 1 (.slice A L.length ca) L.length (cells1 (L.map Pt.t)) ∧ w.ownsRow base 3 1 (.slice B L.length cb) L.length (cells1 (L.map Pt.v)) ∧ w.ownsRow base 3 1 (.slice C L.length cc) L.length (cells1 (L.map Pt.s))
theorem batElem : Elem Try.prog 34 25 (.agg #[.slice none 0 0, .slice none 0 0, .slice none 0 0]) 3 72 := Elem.mk' Try.underlying34 (by kernel_rfl) rfl (by decide)
/-- a column by its list -/
theorem column_l (A : Option Addr) (n c : Nat) (a : Nat → Pt) (L : List Pt) (hL : L = ptsTo a n) (f : Nat) (sel : Pt → Int) (w : World) (h : Pts w A n a) (hn : n ≤ 1000000) (hf : Picks f sel) :
    Calls Try.prog 28 #[.slice A n c, .func (.func f) #[] #[]] w fun e w' => ∃ A' c', e = .returned (.slice A' L.length c') ∧ w'.ownsRow w.heap.size 3 1 (.slice A' L.length c') L.length (cells1 (L.map sel)) ∧ Below w.heap.size w w' := by
  refine (column_p A n c a f sel w h hn hf).mono ?_
  rintro e w' ⟨A', c', rfl, ho, hb⟩
  subst hL
  rw [List.length_map] at ho ⊢
  exact ⟨A', c', rfl, ho, hb⟩
set_option maxRecDepth 100000 in
set_option maxHeartbeats 4000000 in
theorem batches_gen (S : Option Addr) (b off n c : Nat) (a : Nat → Pt) (size : Nat) (w : World) (h : Pts w S n a) (hS : 0 < n → S = some ⟨b, off, none⟩) (hn : n ≤ 1000000) (hnc : n ≤ c) (hcm : c ≤ 9223372036854775807) (hs : 1 ≤ size) (hs2 : size ≤ 4096) :
    Calls Try.prog 10 #[.slice S n c, .int .i64 size] w (BatsPost 25 w (chunksOf a size n) 0) := by
  refine (callsIn_wide (n := 9)).1 ?_
  have HPT := Lib.hid h; clear h
  have HS := Lib.hid hS; clear hS
  refine callsIn_of_wp_marks Try.func10 rfl trivial ?_ rfl
  simp only [Try.ntmps10, List.size_toArray, List.length_cons, List.length_nil, Nat.reduceAdd, Nat.reduceSub, Array.replicate_succ, Array.replicate_zero, List.push_toArray, List.append_toArray, List.nil_append, List.cons_append]
  have q1 : decide ((size : Int) < 1) = false := by simp; omega
  have q2 : decide (4096 < (size : Int)) = false := by simp; omega
  gi_wp2_with (refine ⟨trivial, ?_⟩; gi_at_call 27; refine (callsIn_wide.2 (chunk_any _ _ _ _ _ (by omega))).mono ?_; rintro e w' ⟨rfl, rfl⟩)
  clear q1 q2
  obtain ⟨W0, hW0⟩ : ∃ W0, W0 = ((w.alloc (.cells #[.slice none 0 0] 34)).alloc (.cells #[.slice S n c] 33)).alloc (.cells #[.int .i64 size] 3) := ⟨_, rfl⟩
  have hB0 : Below w.heap.size w W0 := by rw [hW0]; exact (((Below.refl _ _).alloc (Nat.le_refl _) _).alloc (by simp) _).alloc (by simp; omega) _
  have hbx0 : Boxed W0 w.heap.size 34 (.slice none 0 0) := by rw [hW0]; exact ((Boxed.new w _ _).alloc _).alloc _
  have k1 : W0.cell? ⟨w.heap.size + 1, 0, none⟩ = some (.slice S n c) := by rw [hW0]; exact cell_al (cell_newk (by simp) rfl)
  have k2 : W0.cell? ⟨w.heap.size + 1 + 1, 0, none⟩ = some (.int .i64 size) := by rw [hW0]; exact cell_newk (by simp) rfl
  have z0 : W0.heap.size = w.heap.size + 3 := by rw [hW0]; simp
  have hz1 : w.heap.size + 1 < W0.heap.size := by omega
  have hz2 : w.heap.size + 1 + 1 < W0.heap.size := by omega
  rw [← hW0]
  clear hW0
  have z0' : w.heap.size + 3 ≤ W0.heap.size := by omega
  clear z0
  refine wpIn_rangeFunc_ownG rfl (by omega) (gf := 41) (lb := #[.pointer (some ⟨w.heap.size + 1, 0, none⟩), .pointer (some ⟨w.heap.size + 1 + 1, 0, none⟩)]) rfl trivial (enters_of Try.func41 (by kernel_rfl) rfl)
    (chunk_stops 8 (w.heap.size + 1) (w.heap.size + 1 + 1) b off n c size S HS.out W0 (by omega) hs hs2 hn hnc hcm hz1 hz2 k1 k2) Keep2.trans (fun W l o o' => keep2_b W l o o') (Below.refl _ _) (fun _ => rfl)
    (BatsI w a size n) (fun _ _ _ => False) (batsI_own (by omega)) (fun _ _ _ _ _ hs _ _ => hs) ⟨⟨_, hbx0, IsBats.nil _ _ _⟩, hB0, by omega⟩
    (fun x => { tmps := #[.slice S n c, .int .i64 size, undef, undef, .slice none 0 0, .int .i64 0, .pointer (some ⟨w.heap.size, 0, none⟩), .slice (some ⟨b, off + x.1 * size * 3, none⟩) (chunkLen size n x.1) (chunkLen size n x.1), .int .i64 size, .bool false, .bool false, .int .i64 size, .bool false, .bool false, .slice S n c, .int .i64 size, .func (.func 41) #[] #[.pointer (some ⟨w.heap.size + 1, 0, none⟩), .pointer (some ⟨w.heap.size + 1 + 1, 0, none⟩)], .slice (some ⟨b, off + x.1 * size * 3, none⟩) (chunkLen size n x.1) (chunkLen size n x.1), undef, undef, undef, undef, undef, undef, undef, undef, undef, undef, undef], defers := [] }) ?assign ?body ?done ?stop
  case assign =>
    intro l x W K hK
    simp only [chunkEnc]
    gi_wp2
    exact hK
  case body =>
    rintro l pre x W ⟨⟨v, hbx, hbs⟩, hB, hsz3⟩ hpl
    clear k1 k2 hbx0 hB0
    obtain ⟨q, hq⟩ := x
    have hl0 := chunkLen_le hq
    have hl1 := chunkLen_small size n q
    obtain ⟨m, hm⟩ : ∃ m, m = chunkLen size n q := ⟨_, rfl⟩
    obtain ⟨L, hL⟩ : ∃ L, L = chunkPts a size n q := ⟨_, rfl⟩
    obtain ⟨o3, ho3⟩ : ∃ o3, o3 = off + q * size * 3 := ⟨_, rfl⟩
    have hPT : Pts W (some ⟨b, o3, none⟩) m (fun j => a (q * size + j)) := by
      rw [ho3, hm]
      have hP := HPT.out
      rw [HS.out (by omega)] at hP
      exact Pts.sub (hP.below hB) hl0
    have hL' : L = ptsTo (fun j => a (q * size + j)) m := by rw [hL, hm]; rfl
    have hm1 : m ≤ 1000000 := by omega
    have C1 := Lib.hid (fun W' (hb : Below W.heap.size W W') => column_l (some ⟨b, o3, none⟩) m m _ L hL' 29 Pt.t W' (hPT.below hb) hm1 picks_t)
    have C2 := Lib.hid (fun W' (hb : Below W.heap.size W W') => column_l (some ⟨b, o3, none⟩) m m _ L hL' 30 Pt.v W' (hPT.below hb) hm1 picks_v)
    have C3 := Lib.hid (fun W' (hb : Below W.heap.size W W') => column_l (some ⟨b, o3, none⟩) m m _ L hL' 31 Pt.s W' (hPT.below hb) hm1 picks_s)
    have HL := Lib.hid hL
    simp only [← hm, ← ho3]
    clear hPT hL' hL ho3 hm hm1
    obtain ⟨ts, hts, hrow, hi⟩ := hbs
    obtain ⟨V, cv, rfl⟩ := own_form hrow
    obtain ⟨k, hk⟩ : ∃ k, k = (pre.map fun x => chunkPts a size n x.1).length := ⟨_, rfl⟩
    have hk1 : k ≤ 1000000 := by rw [hk, List.length_map]; omega
    have HK := Lib.hid hk
    rw [← hk] at hrow
    clear hk
    have ob : W.drew.cell? ⟨w.heap.size, 0, none⟩ = some (.slice V k cv) := by have := hbx.cell; rw [HK.out]; exact this
    have HB := (Below.refl W.heap.size W).drew
    have hbl := hbx.lt
    have hBz := hB.size
    have hz3 : w.heap.size + 3 ≤ W.heap.size := hsz3
    gi_wp2
    refine region_in l _ (by kernel_rfl) (noDefer_of (by kernel_rfl)) (by rintro ⟨a', w', hx⟩; exact hx) ?_
    refine wpAny_take (i := 1) (v := .slice (some ⟨b, o3, none⟩) m m) rfl (by kernel_rfl) (by kernel_rfl) (by kernel_rfl) (fun _ _ _ h => h) (Or.inl ⟨by rfl, fun w => by rfl⟩) ?_
    refine wpAny_take (i := 3) (v := .slice (some ⟨b, o3, none⟩) m m) rfl (by kernel_rfl) (by kernel_rfl) (by kernel_rfl) (fun _ _ _ h => h) (Or.inl ⟨by rfl, fun w => by rfl⟩) ?_
    refine wpAny_take (i := 5) (v := .slice (some ⟨b, o3, none⟩) m m) rfl (by kernel_rfl) (by kernel_rfl) (by kernel_rfl) (fun _ _ _ h => h) (Or.inl ⟨by rfl, fun w => by rfl⟩) ?_
    refine wpAny_ready (rs := [0, 2]) (by kernel_rfl) (by simp) ?_
    refine AllReady.cons rfl (fun K hK => ?_) (AllReady.cons rfl (fun K hK => ?_) AllReady.nil)
    · go_simp
      refine hK _ _ ?_
      clear hK K
      refine wpAny_ready (rs := [2]) (by kernel_rfl) (by simp) ?_
      refine AllReady.cons rfl (fun K hK => ?_) AllReady.nil
      · go_simp
        with_reducible refine (C1.out _ HB).mono ?_
        rintro e w1 ⟨A1, c1, rfl, r1, hb⟩
        replace ob := cell_be hb ob
        have hzz := HB.size
        have r1 := own_less (base' := w.heap.size + 3) r1 (by omega)
        replace HB := bel_step HB (Nat.le_refl _) hb
        clear hb hzz
        refine hK _ _ ?_
        clear hK K
        refine wpAny_ready (rs := [4]) (by kernel_rfl) (by simp) ?_
        refine AllReady.cons rfl (fun K hK => ?_) AllReady.nil
        · go_simp
          with_reducible refine (C2.out _ HB).mono ?_
          rintro e w2 ⟨A2, c2, rfl, r2, hb⟩
          replace ob := cell_be hb ob
          have hzz := HB.size
          have r2 := own_less (base' := w.heap.size + 3) r2 (by omega)
          replace HB := bel_step HB (Nat.le_refl _) hb
          replace r1 := own_below r1 hb
          clear hb hzz
          refine hK _ _ ?_
          clear hK K
          refine wpAny_ready (rs := [6]) (by kernel_rfl) (by simp) ?_
          refine AllReady.cons rfl (fun K hK => ?_) AllReady.nil
          · go_simp
            with_reducible refine (C3.out _ HB).mono ?_
            rintro e w3 ⟨A3, c3, rfl, r3, hb⟩
            replace ob := cell_be hb ob
            have hzz := HB.size
            have r3 := own_less (base' := w.heap.size + 3) r3 (by omega)
            replace HB := bel_step HB (Nat.le_refl _) hb
            replace r1 := own_below r1 hb
            replace r2 := own_below r2 hb
            clear hb hzz
            refine hK _ _ ?_
            clear hK K
            refine wpAny_take (i := 7) (v := .agg #[.slice A1 L.length c1, .slice A2 L.length c2, .slice A3 L.length c3]) rfl (by kernel_rfl) (by kernel_rfl) (by kernel_rfl) (fun _ _ _ h => h) (Or.inl ⟨by rfl, fun w => by first | rfl | go_simp⟩) ?_
            refine wpAny_ready (rs := [8]) (by kernel_rfl) (by simp) ?_
            refine AllReady.cons rfl (fun K hK => ?_) AllReady.nil
            · go_simp
              refine hK _ _ ?_
              clear hK K
              refine wpAny_ready (rs := [9]) (by kernel_rfl) (by simp) ?_
              refine AllReady.cons rfl (fun K hK => ?_) AllReady.nil
              · have rw3 := own_below hrow HB
                have hzz := HB.size
                refine step_append_lie batElem (rw3.alloc _) (by simp; omega) (by rfl) _ _ (by rfl) w3.heap.size [.slice A1 L.length c1, .slice A2 L.length c2, .slice A3 L.length c3] (heap_alloc_new w3 _) (by rfl) (by rfl) rfl (by simp [Value.oneCell']) (by unfold maxLen; omega) (by omega) ?_
                intro g1 cap1 w4 ho hg hat
                have m0 := far_cell hg (own_ne (rw3.alloc (.cells #[.slice A1 L.length c1, .slice A2 L.length c2, .slice A3 L.length c3] 25)) (by simp)) (cell_al ob)
                have m1 := far_frozen (k := 0) hg (own_ne (rw3.alloc (.cells #[.slice A1 L.length c1, .slice A2 L.length c2, .slice A3 L.length c3] 25)) (by omega)) (by simp; omega) (frozen_al (by omega) (frozen_be HB hbx.lt hbx.frozen))
                have FIN := Lib.hid (bats_round (B := W0.heap.size) (x := ⟨q, hq⟩) HL.out HK.out (by rw [HK.out]; exact hbx) hB hsz3 HB hts hrow hi ⟨r1, r2, r3⟩ ho hg)
                clear ho hat hg rw3 r1 r2 r3
                refine hK _ _ ?_
                clear hK K
                refine wpAny_ready (rs := [10]) (by kernel_rfl) (by simp) ?_
                refine AllReady.cons rfl (fun K hK => ?_) AllReady.nil
                · go_simp
                  refine hK _ _ ?_
                  clear hK K
                  refine wpAny_done (by kernel_rfl) ?_ _
                  exact FIN.out
    · go_simp
      with_reducible refine (C1.out _ HB).mono ?_
      rintro e w1 ⟨A1, c1, rfl, r1, hb⟩
      replace ob := cell_be hb ob
      have hzz := HB.size
      have r1 := own_less (base' := w.heap.size + 3) r1 (by omega)
      replace HB := bel_step HB (Nat.le_refl _) hb
      clear hb hzz
      refine hK _ _ ?_
      clear hK K
      refine wpAny_ready (rs := [0, 4]) (by kernel_rfl) (by simp) ?_
      refine AllReady.cons rfl (fun K hK => ?_) (AllReady.cons rfl (fun K hK => ?_) AllReady.nil)
      · go_simp
        refine hK _ _ ?_
        clear hK K
        refine wpAny_ready (rs := [4]) (by kernel_rfl) (by simp) ?_
        refine AllReady.cons rfl (fun K hK => ?_) AllReady.nil
        · go_simp
          with_reducible refine (C2.out _ HB).mono ?_
          rintro e w2 ⟨A2, c2, rfl, r2, hb⟩
          replace ob := cell_be hb ob
          have hzz := HB.size
          have r2 := own_less (base' := w.heap.size + 3) r2 (by omega)
          replace HB := bel_step HB (Nat.le_refl _) hb
          replace r1 := own_below r1 hb
          clear hb hzz
          refine hK _ _ ?_
          clear hK K
          refine wpAny_ready (rs := [6]) (by kernel_rfl) (by simp) ?_
          refine AllReady.cons rfl (fun K hK => ?_) AllReady.nil
          · go_simp
            with_reducible refine (C3.out _ HB).mono ?_
            rintro e w3 ⟨A3, c3, rfl, r3, hb⟩
            replace ob := cell_be hb ob
            have hzz := HB.size
            have r3 := own_less (base' := w.heap.size + 3) r3 (by omega)
            replace HB := bel_step HB (Nat.le_refl _) hb
            replace r1 := own_below r1 hb
            replace r2 := own_below r2 hb
            clear hb hzz
            refine hK _ _ ?_
            clear hK K
            refine wpAny_take (i := 7) (v := .agg #[.slice A1 L.length c1, .slice A2 L.length c2, .slice A3 L.length c3]) rfl (by kernel_rfl) (by kernel_rfl) (by kernel_rfl) (fun _ _ _ h => h) (Or.inl ⟨by rfl, fun w => by first | rfl | go_simp⟩) ?_
            refine wpAny_ready (rs := [8]) (by kernel_rfl) (by simp) ?_
            refine AllReady.cons rfl (fun K hK => ?_) AllReady.nil
            · go_simp
              refine hK _ _ ?_
              clear hK K
              refine wpAny_ready (rs := [9]) (by kernel_rfl) (by simp) ?_
              refine AllReady.cons rfl (fun K hK => ?_) AllReady.nil
              · have rw3 := own_below hrow HB
                have hzz := HB.size
                refine step_append_lie batElem (rw3.alloc _) (by simp; omega) (by rfl) _ _ (by rfl) w3.heap.size [.slice A1 L.length c1, .slice A2 L.length c2, .slice A3 L.length c3] (heap_alloc_new w3 _) (by rfl) (by rfl) rfl (by simp [Value.oneCell']) (by unfold maxLen; omega) (by omega) ?_
                intro g1 cap1 w4 ho hg hat
                have m0 := far_cell hg (own_ne (rw3.alloc (.cells #[.slice A1 L.length c1, .slice A2 L.length c2, .slice A3 L.length c3] 25)) (by simp)) (cell_al ob)
                have m1 := far_frozen (k := 0) hg (own_ne (rw3.alloc (.cells #[.slice A1 L.length c1, .slice A2 L.length c2, .slice A3 L.length c3] 25)) (by omega)) (by simp; omega) (frozen_al (by omega) (frozen_be HB hbx.lt hbx.frozen))
                have FIN := Lib.hid (bats_round (B := W0.heap.size) (x := ⟨q, hq⟩) HL.out HK.out (by rw [HK.out]; exact hbx) hB hsz3 HB hts hrow hi ⟨r1, r2, r3⟩ ho hg)
                clear ho hat hg rw3 r1 r2 r3
                refine hK _ _ ?_
                clear hK K
                refine wpAny_ready (rs := [10]) (by kernel_rfl) (by simp) ?_
                refine AllReady.cons rfl (fun K hK => ?_) AllReady.nil
                · go_simp
                  refine hK _ _ ?_
                  clear hK K
                  refine wpAny_done (by kernel_rfl) ?_ _
                  exact FIN.out
      · go_simp
        with_reducible refine (C2.out _ HB).mono ?_
        rintro e w2 ⟨A2, c2, rfl, r2, hb⟩
        replace ob := cell_be hb ob
        have hzz := HB.size
        have r2 := own_less (base' := w.heap.size + 3) r2 (by omega)
        replace HB := bel_step HB (Nat.le_refl _) hb
        replace r1 := own_below r1 hb
        clear hb hzz
        refine hK _ _ ?_
        clear hK K
        refine wpAny_ready (rs := [0, 6]) (by kernel_rfl) (by simp) ?_
        refine AllReady.cons rfl (fun K hK => ?_) (AllReady.cons rfl (fun K hK => ?_) AllReady.nil)
        · go_simp
          refine hK _ _ ?_
          clear hK K
          refine wpAny_ready (rs := [6]) (by kernel_rfl) (by simp) ?_
          refine AllReady.cons rfl (fun K hK => ?_) AllReady.nil
          · go_simp
            with_reducible refine (C3.out _ HB).mono ?_
            rintro e w3 ⟨A3, c3, rfl, r3, hb⟩
            replace ob := cell_be hb ob
            have hzz := HB.size
            have r3 := own_less (base' := w.heap.size + 3) r3 (by omega)
            replace HB := bel_step HB (Nat.le_refl _) hb
            replace r1 := own_below r1 hb
            replace r2 := own_below r2 hb
            clear hb hzz
            refine hK _ _ ?_
            clear hK K
            refine wpAny_take (i := 7) (v := .agg #[.slice A1 L.length c1, .slice A2 L.length c2, .slice A3 L.length c3]) rfl (by kernel_rfl) (by kernel_rfl) (by kernel_rfl) (fun _ _ _ h => h) (Or.inl ⟨by rfl, fun w => by first | rfl | go_simp⟩) ?_
            refine wpAny_ready (rs := [8]) (by kernel_rfl) (by simp) ?_
            refine AllReady.cons rfl (fun K hK => ?_) AllReady.nil
            · go_simp
              refine hK _ _ ?_
              clear hK K
              refine wpAny_ready (rs := [9]) (by kernel_rfl) (by simp) ?_
              refine AllReady.cons rfl (fun K hK => ?_) AllReady.nil
              · have rw3 := own_below hrow HB
                have hzz := HB.size
                refine step_append_lie batElem (rw3.alloc _) (by simp; omega) (by rfl) _ _ (by rfl) w3.heap.size [.slice A1 L.length c1, .slice A2 L.length c2, .slice A3 L.length c3] (heap_alloc_new w3 _) (by rfl) (by rfl) rfl (by simp [Value.oneCell']) (by unfold maxLen; omega) (by omega) ?_
                intro g1 cap1 w4 ho hg hat
                have m0 := far_cell hg (own_ne (rw3.alloc (.cells #[.slice A1 L.length c1, .slice A2 L.length c2, .slice A3 L.length c3] 25)) (by simp)) (cell_al ob)
                have m1 := far_frozen (k := 0) hg (own_ne (rw3.alloc (.cells #[.slice A1 L.length c1, .slice A2 L.length c2, .slice A3 L.length c3] 25)) (by omega)) (by simp; omega) (frozen_al (by omega) (frozen_be HB hbx.lt hbx.frozen))
                have FIN := Lib.hid (bats_round (B := W0.heap.size) (x := ⟨q, hq⟩) HL.out HK.out (by rw [HK.out]; exact hbx) hB hsz3 HB hts hrow hi ⟨r1, r2, r3⟩ ho hg)
                clear ho hat hg rw3 r1 r2 r3
                refine hK _ _ ?_
                clear hK K
                refine wpAny_ready (rs := [10]) (by kernel_rfl) (by simp) ?_
                refine AllReady.cons rfl (fun K hK => ?_) AllReady.nil
                · go_simp
                  refine hK _ _ ?_
                  clear hK K
                  refine wpAny_done (by kernel_rfl) ?_ _
                  exact FIN.out
        · go_simp
          with_reducible refine (C3.out _ HB).mono ?_
          rintro e w3 ⟨A3, c3, rfl, r3, hb⟩
          replace ob := cell_be hb ob
          have hzz := HB.size
          have r3 := own_less (base' := w.heap.size + 3) r3 (by omega)
          replace HB := bel_step HB (Nat.le_refl _) hb
          replace r1 := own_below r1 hb
          replace r2 := own_below r2 hb
          clear hb hzz
          refine hK _ _ ?_
          clear hK K
          refine wpAny_take (i := 7) (v := .agg #[.slice A1 L.length c1, .slice A2 L.length c2, .slice A3 L.length c3]) rfl (by kernel_rfl) (by kernel_rfl) (by kernel_rfl) (fun _ _ _ h => h) (Or.inl ⟨by rfl, fun w => by first | rfl | go_simp⟩) ?_
          refine wpAny_ready (rs := [0, 8]) (by kernel_rfl) (by simp) ?_
          refine AllReady.cons rfl (fun K hK => ?_) (AllReady.cons rfl (fun K hK => ?_) AllReady.nil)
          · go_simp
            refine hK _ _ ?_
            clear hK K
            refine wpAny_ready (rs := [8]) (by kernel_rfl) (by simp) ?_
            refine AllReady.cons rfl (fun K hK => ?_) AllReady.nil
            · go_simp
              refine hK _ _ ?_
              clear hK K
              refine wpAny_ready (rs := [9]) (by kernel_rfl) (by simp) ?_
              refine AllReady.cons rfl (fun K hK => ?_) AllReady.nil
              · have rw3 := own_below hrow HB
                have hzz := HB.size
                refine step_append_lie batElem (rw3.alloc _) (by simp; omega) (by rfl) _ _ (by rfl) w3.heap.size [.slice A1 L.length c1, .slice A2 L.length c2, .slice A3 L.length c3] (heap_alloc_new w3 _) (by rfl) (by rfl) rfl (by simp [Value.oneCell']) (by unfold maxLen; omega) (by omega) ?_
                intro g1 cap1 w4 ho hg hat
                have m0 := far_cell hg (own_ne (rw3.alloc (.cells #[.slice A1 L.length c1, .slice A2 L.length c2, .slice A3 L.length c3] 25)) (by simp)) (cell_al ob)
                have m1 := far_frozen (k := 0) hg (own_ne (rw3.alloc (.cells #[.slice A1 L.length c1, .slice A2 L.length c2, .slice A3 L.length c3] 25)) (by omega)) (by simp; omega) (frozen_al (by omega) (frozen_be HB hbx.lt hbx.frozen))
                have FIN := Lib.hid (bats_round (B := W0.heap.size) (x := ⟨q, hq⟩) HL.out HK.out (by rw [HK.out]; exact hbx) hB hsz3 HB hts hrow hi ⟨r1, r2, r3⟩ ho hg)
                clear ho hat hg rw3 r1 r2 r3
                refine hK _ _ ?_
                clear hK K
                refine wpAny_ready (rs := [10]) (by kernel_rfl) (by simp) ?_
                refine AllReady.cons rfl (fun K hK => ?_) AllReady.nil
                · go_simp
                  refine hK _ _ ?_
                  clear hK K
                  refine wpAny_done (by kernel_rfl) ?_ _
                  exact FIN.out
          · go_simp
            have ob2 := cell_al (o := .cells #[.slice A1 L.length c1, .slice A2 L.length c2, .slice A3 L.length c3] 25) ob
            refine hK _ _ ?_
            clear hK K
            refine wpAny_ready (rs := [0]) (by kernel_rfl) (by simp) ?_
            refine AllReady.cons rfl (fun K hK => ?_) AllReady.nil
            · go_simp
              refine hK _ _ ?_
              clear hK K
              refine wpAny_ready (rs := [9]) (by kernel_rfl) (by simp) ?_
              refine AllReady.cons rfl (fun K hK => ?_) AllReady.nil
              · have rw3 := own_below hrow HB
                have hzz := HB.size
                refine step_append_lie batElem (rw3.alloc _) (by simp; omega) (by rfl) _ _ (by rfl) w3.heap.size [.slice A1 L.length c1, .slice A2 L.length c2, .slice A3 L.length c3] (heap_alloc_new w3 _) (by rfl) (by rfl) rfl (by simp [Value.oneCell']) (by unfold maxLen; omega) (by omega) ?_
                intro g1 cap1 w4 ho hg hat
                have m0 := far_cell hg (own_ne (rw3.alloc (.cells #[.slice A1 L.length c1, .slice A2 L.length c2, .slice A3 L.length c3] 25)) (by simp)) (cell_al ob)
                have m1 := far_frozen (k := 0) hg (own_ne (rw3.alloc (.cells #[.slice A1 L.length c1, .slice A2 L.length c2, .slice A3 L.length c3] 25)) (by omega)) (by simp; omega) (frozen_al (by omega) (frozen_be HB hbx.lt hbx.frozen))
                have FIN := Lib.hid (bats_round (B := W0.heap.size) (x := ⟨q, hq⟩) HL.out HK.out (by rw [HK.out]; exact hbx) hB hsz3 HB hts hrow hi ⟨r1, r2, r3⟩ ho hg)
                clear ho hat hg rw3 r1 r2 r3
                refine hK _ _ ?_
                clear hK K
                refine wpAny_ready (rs := [10]) (by kernel_rfl) (by simp) ?_
                refine AllReady.cons rfl (fun K hK => ?_) AllReady.nil
                · go_simp
                  refine hK _ _ ?_
                  clear hK K
                  refine wpAny_done (by kernel_rfl) ?_ _
                  exact FIN.out
  case done =>
    rintro D ys W hD hall ⟨⟨v, hbx, hbs⟩, hB, _⟩ hK
    have HC := Lib.hid (allChunks_is hs a hall)
    rw [HC.out] at hbs
    clear k1 k2 hbx0 hB0
    obtain ⟨V, cv, rfl⟩ : ∃ V cv, v = .slice V (chunksOf a size n).length cv := by
      obtain ⟨ts, hl, ho, _⟩ := hbs
      exact own_form ho
    have hc := hbx.cell
    have HBS := Lib.hid hbs
    clear hbs
    gi_wp2
    refine ⟨by simp, .inl ⟨_, _, rfl, run_takeDeferred hK, ?_⟩⟩
    refine ⟨_, results_tmp2 rfl _ _ _, V, cv, rfl, ?_, hB.trans (belowK_b (w := w) (Nat.le_refl _) W D _ _ (by omega) hK rfl rfl)⟩
    exact (HBS.out.less (by omega)).nc (grownBy_putObj' W D _) (fun r hr => by cases hr; exact ⟨_, hK, rfl⟩)
  case stop =>
    rintro D c pre W _ _ h _
    exact h.elim
theorem batches_yes (S : Option Addr) (n c : Nat) (a : Nat → Pt) (size : Nat) (w : World) (h : Pts w S n a) (hn : n ≤ 1000000) (hnc : n ≤ c) (hcm : c ≤ 9223372036854775807) (hs : 1 ≤ size) (hs2 : size ≤ 4096) :
    Calls Try.prog 10 #[.slice S n c, .int .i64 size] w (BatsPost 25 w (chunksOf a size n) 0) := by
  obtain ⟨b, off, hS⟩ : ∃ b off, 0 < n → S = some ⟨b, off, none⟩ := by
    rcases Nat.eq_zero_or_pos n with h0 | h0
    · exact ⟨0, 0, fun h => by omega⟩
    · obtain ⟨b, off, e, _⟩ := h (by omega)
      exact ⟨b, off, fun _ => e⟩
  exact batches_gen S b off n c a size w h hS hn hnc hcm hs hs2
theorem batches_no (S : Option Addr) (n c : Nat) (size : Int) (w : World) (hs : size < 1 ∨ 4096 < size) :
    Calls Try.prog 10 #[.slice S n c, .int .i64 size] w (BatsPost 25 w [] 2) := by
  rcases hs with hs | hs
  · go_enter Try.func10, Try.ntmps10
    go_wp2
    go_ret2
    exact ⟨none, 0, rfl, IsBats.nil _ _ _, Below.refl _ _⟩
  · have hd : decide (size < 1) = false := by simp; omega
    go_enter Try.func10, Try.ntmps10
    go_wp2
    go_ret2
    exact ⟨none, 0, rfl, IsBats.nil _ _ _, Below.refl _ _⟩
end Go.Proofs.Ytmdpdhdjbnhmeaa

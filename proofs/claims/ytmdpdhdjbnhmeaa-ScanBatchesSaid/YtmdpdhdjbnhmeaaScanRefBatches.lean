/- Contract of tidemillref20.Batches. -/
import Derived.Test.YtmdpdhdjbnhmeaaScanRefBats
import Derived.Deep.RegionLaw
import Derived.Deep.DeepCutAuto
namespace Go.Proofs.Ytmdpdhdjbnhmeaa
open Go.RowKit
set_option linter.unusedVariables false

theorem rbatElem : Elem Try.prog 37 41 (.agg #[.slice none 0 0, .slice none 0 0, .slice none 0 0]) 3 72 := Elem.mk' Try.underlying37 (by kernel_rfl) rfl (by decide)
/-- the full batches -/
def fulls (a : Nat → Pt) (size K : Nat) : List (List Pt) := (List.range K).map fun q => ptsTo (fun j => a (q * size + j)) size
theorem fulls_succ (a : Nat → Pt) (size K : Nat) : fulls a size (K + 1) = fulls a size K ++ [ptsTo (fun j => a (K * size + j)) size] := by simp [fulls, List.range_succ]
theorem fulls_len (a : Nat → Pt) (size K : Nat) : (fulls a size K).length = K := by simp [fulls]
/-- the batch that is being filled -/
def part (a : Nat → Pt) (size K r : Nat) : List Pt := ptsTo (fun j => a (K * size + j)) r
theorem part_succ (a : Nat → Pt) (size K r : Nat) : part a size K (r + 1) = part a size K r ++ [a (K * size + r)] := ptsTo_succ _ _
theorem part_len (a : Nat → Pt) (size K r : Nat) : (part a size K r).length = r := ptsTo_len _ _
theorem RBat.close {base e : Nat} {w : World} {go cap : Nat} {ts : List (Value × Value × Value)} {Ls : List (List Pt)} {Bq : Nat} {A B C : Value} {L : List Pt} (h : RBat base e w go cap ts Ls Bq A B C (L.map Pt.t) (L.map Pt.v) (L.map Pt.s)) (hb : base ≤ Bq) : IsBats base e w (.slice (some ⟨go, 0, none⟩) (Ls.length + 1) cap) (Ls ++ [L]) := by
  refine ⟨ts ++ [(A, B, C)], by simp [h.len], by rw [List.length_append]; exact h.row, fun i u M h1 h2 => ?_⟩
  rcases Nat.lt_or_ge i ts.length with hi | hi
  · rw [List.getElem?_append_left hi] at h1
    rw [List.getElem?_append_left (by rw [← h.len]; exact hi)] at h2
    exact (h.old i u M h1 h2).1
  · have hi' : i = ts.length := by
      rcases Nat.lt_or_ge ts.length i with h3 | h3
      · rw [List.getElem?_eq_none (by simp; omega)] at h1; cases h1
      · omega
    subst hi'
    rw [List.getElem?_append_right (Nat.le_refl _), Nat.sub_self] at h1
    rw [h.len, List.getElem?_append_right (Nat.le_refl _), Nat.sub_self] at h2
    simp at h1 h2
    subst h1 h2
    have ha := h.a
    have hb' := h.b
    have hc := h.c
    rw [List.length_map] at ha hb' hc
    exact ⟨own_less ha hb, own_less hb' hb, own_less hc hb⟩
/-- a new batch is begun -/
theorem IsBats.begin {base e : Nat} {w w1 : World} {v : Value} {Ls : List (List Pt)} {ts : List (Value × Value × Value)} {go cap : Nat} (hl : ts.length = Ls.length) (hown : w.ownsRow base e 3 v Ls.length (triCells ts))
    (hi : ∀ (i : Nat) t L, ts[i]? = some t → Ls[i]? = some L → IsBat base w t L) (hne : 3 ≠ e) (hg : w.grownBy w1 v.ownBlock)
    (ho : w1.ownsRow base e 3 (.slice (some ⟨go, 0, none⟩) (Ls.length + 1) cap) (Ls.length + 1) (triCells ts ++ [.slice none 0 0, .slice none 0 0, .slice none 0 0])) :
    RBat base e w1 go cap ts Ls w1.heap.size (.slice none 0 0) (.slice none 0 0) (.slice none 0 0) [] [] [] := by
  have ap : Apart (.slice none 0 0) (.slice none 0 0) := fun g h => by simp [Value.ownBlock] at h
  refine ⟨hl, by rw [triCells_append]; exact ho, fun i t L h1 h2 => ⟨(hi i t L h1 h2).kept hown hne hg, (low_of (hi i t L h1 h2)).mono hg.size⟩, World.ownsRow_nil _ _ _ _, World.ownsRow_nil _ _ _ _, World.ownsRow_nil _ _ _ _, ap, ap, ap⟩
/-- the state at the head of a round -/
def RBRel (w : World) (a : Nat → Pt) (size n : Nat) (v i : Value) (wr : World) : Prop :=
  ∃ (K r : Nat), K * size + r ≤ n ∧ r < size ∧ i = .int .i64 ((K * size + r : Nat) : Int) ∧ Below w.heap.size w wr ∧
    ((r = 0 ∧ ∃ A c, v = .slice A K c ∧ IsBats w.heap.size 41 wr (.slice A K c) (fulls a size K)) ∨
     (0 < r ∧ ∃ (go cap : Nat) (ts : List (Value × Value × Value)) (Bq : Nat) (A B C : Option Addr) (ka kb kc : Nat), v = .slice (some ⟨go, 0, none⟩) (K + 1) cap ∧ w.heap.size ≤ Bq ∧ Bq ≤ wr.heap.size ∧
       RBat w.heap.size 41 wr go cap ts (fulls a size K) Bq (.slice A r ka) (.slice B r kb) (.slice C r kc) ((part a size K r).map Pt.t) ((part a size K r).map Pt.v) ((part a size K r).map Pt.s)))
/-- behind the test: a batch that may be filled -/
def RBMid (w : World) (a : Nat → Pt) (size K r : Nat) (v : Value) (wr : World) : Prop :=
  ∃ (go cap : Nat) (ts : List (Value × Value × Value)) (Bq : Nat) (A B C : Option Addr) (ka kb kc : Nat), v = .slice (some ⟨go, 0, none⟩) (K + 1) cap ∧ w.heap.size ≤ Bq ∧ Bq ≤ wr.heap.size ∧ Below w.heap.size w wr ∧
    RBat w.heap.size 41 wr go cap ts (fulls a size K) Bq (.slice A r ka) (.slice B r kb) (.slice C r kc) ((part a size K r).map Pt.t) ((part a size K r).map Pt.v) ((part a size K r).map Pt.s)
/-- the world behind a push -/
theorem rb_bel {B : Nat} {w0 w' w1 : World} {row : Option Nat} {go k : Nat} {v : Value} (h : Below B w0 w') (hg : w'.grownBy w1 row) (hB : B ≤ w0.heap.size) (hrow : ∀ j, row = some j → B ≤ j) (hgo : B ≤ go) : Below B w0 (w1.setCell ⟨go, k, none⟩ v) ∧ w'.heap.size ≤ (w1.setCell ⟨go, k, none⟩ v).heap.size :=
  ⟨bel_push h hg hB hrow hgo, by have := hg.size; simpa using this⟩
theorem RBat.mid0 {base e : Nat} {w' w1 : World} {go cap : Nat} {ts : List (Value × Value × Value)} {Ls : List (List Pt)} {Bq : Nat} {A B C : Value} {X Y Z : List Int} {K : Nat} (h : RBat base e w' go cap ts Ls Bq A B C X Y Z) (hK : Ls.length = K) (hne : 3 ≠ e) (hg : w'.grownBy w1 A.ownBlock) :
    w1.cell? ⟨go, K * 3, none⟩ = some A ∧ w1.frozen? ⟨go, K * 3, none⟩ = false := by
  subst hK
  have hrow : w1.ownsRow base e 3 (.slice (some ⟨go, 0, none⟩) (Ls.length + 1) cap) (Ls.length + 1) (triCells (ts ++ [(A, B, C)])) := h.row.kept hg (own_types h.row h.a (Ne.symm hne))
  have ht : (ts ++ [(A, B, C)])[Ls.length]? = some (A, B, C) := by rw [← h.len]; simp
  have f1 := World.ownsRow.cells hrow (g := go) rfl _ _ (triCells_at _ _ _ ht).1
  rw [Addr.add_lit] at f1
  simp only [Nat.zero_add] at f1
  exact ⟨f1, hrow.frozenAt _⟩
theorem RBat.mid1 {base e : Nat} {w' w1 : World} {go cap : Nat} {ts : List (Value × Value × Value)} {Ls : List (List Pt)} {Bq : Nat} {A B C : Value} {X Y Z : List Int} {K : Nat} (h : RBat base e w' go cap ts Ls Bq A B C X Y Z) (hK : Ls.length = K) (hne : 3 ≠ e) (hg : w'.grownBy w1 B.ownBlock) :
    w1.cell? ⟨go, K * 3 + 1, none⟩ = some B ∧ w1.frozen? ⟨go, K * 3 + 1, none⟩ = false := by
  subst hK
  have hrow : w1.ownsRow base e 3 (.slice (some ⟨go, 0, none⟩) (Ls.length + 1) cap) (Ls.length + 1) (triCells (ts ++ [(A, B, C)])) := h.row.kept hg (own_types h.row h.b (Ne.symm hne))
  have ht : (ts ++ [(A, B, C)])[Ls.length]? = some (A, B, C) := by rw [← h.len]; simp
  have f1 := World.ownsRow.cells hrow (g := go) rfl _ _ (triCells_at _ _ _ ht).2.1
  rw [Addr.add_lit] at f1
  simp only [Nat.zero_add] at f1
  exact ⟨f1, hrow.frozenAt _⟩
theorem RBat.mid2 {base e : Nat} {w' w1 : World} {go cap : Nat} {ts : List (Value × Value × Value)} {Ls : List (List Pt)} {Bq : Nat} {A B C : Value} {X Y Z : List Int} {K : Nat} (h : RBat base e w' go cap ts Ls Bq A B C X Y Z) (hK : Ls.length = K) (hne : 3 ≠ e) (hg : w'.grownBy w1 C.ownBlock) :
    w1.cell? ⟨go, K * 3 + 2, none⟩ = some C ∧ w1.frozen? ⟨go, K * 3 + 2, none⟩ = false := by
  subst hK
  have hrow : w1.ownsRow base e 3 (.slice (some ⟨go, 0, none⟩) (Ls.length + 1) cap) (Ls.length + 1) (triCells (ts ++ [(A, B, C)])) := h.row.kept hg (own_types h.row h.c (Ne.symm hne))
  have ht : (ts ++ [(A, B, C)])[Ls.length]? = some (A, B, C) := by rw [← h.len]; simp
  have f1 := World.ownsRow.cells hrow (g := go) rfl _ _ (triCells_at _ _ _ ht).2.2
  rw [Addr.add_lit] at f1
  simp only [Nat.zero_add] at f1
  exact ⟨f1, hrow.frozenAt _⟩
/-- a round's end -/
theorem rb_next {w wx : World} {a : Nat → Pt} {size n K r go cap Bq g0 c0 g1 c1 g2 c2 : Nat} {ts : List (Value × Value × Value)} {p : Pt} (hs : 1 ≤ size) (hr : r < size) (hlt : K * size + r < n) (hp : a (K * size + r) = p) (hb : Below w.heap.size w wx) (hB1 : w.heap.size ≤ Bq) (hB2 : Bq ≤ wx.heap.size)
    (h : RBat w.heap.size 41 wx go cap ts (fulls a size K) Bq (.slice (some ⟨g0, 0, none⟩) (r + 1) c0) (.slice (some ⟨g1, 0, none⟩) (r + 1) c1) (.slice (some ⟨g2, 0, none⟩) (r + 1) c2) ((part a size K r).map Pt.t ++ [p.t]) ((part a size K r).map Pt.v ++ [p.v]) ((part a size K r).map Pt.s ++ [p.s])) :
    RBRel w a size n (.slice (some ⟨go, 0, none⟩) (K + 1) cap) (.int .i64 (((K * size + r : Nat) : Int) + 1)) wx := by
  have e1 : (part a size K r).map Pt.t ++ [p.t] = (part a size K (r + 1)).map Pt.t := by rw [part_succ, hp]; simp
  have e2 : (part a size K r).map Pt.v ++ [p.v] = (part a size K (r + 1)).map Pt.v := by rw [part_succ, hp]; simp
  have e3 : (part a size K r).map Pt.s ++ [p.s] = (part a size K (r + 1)).map Pt.s := by rw [part_succ, hp]; simp
  rw [e1, e2, e3] at h
  rcases Nat.lt_or_ge (r + 1) size with hr1 | hr1
  · exact ⟨K, r + 1, by omega, hr1, by congr 1, hb, .inr ⟨by omega, go, cap, ts, Bq, _, _, _, _, _, _, rfl, hB1, hB2, h⟩⟩
  · have hrs : r + 1 = size := by omega
    have hcl := RBat.close h hB1
    rw [fulls_len] at hcl
    have ef : fulls a size K ++ [part a size K (r + 1)] = fulls a size (K + 1) := by rw [fulls_succ, hrs]; rfl
    rw [ef] at hcl
    have ei : (K + 1) * size + 0 = K * size + r + 1 := by rw [Nat.add_mul, Nat.one_mul]; omega
    exact ⟨K + 1, 0, by omega, by omega, by rw [ei]; rfl, hb, .inl ⟨rfl, _, _, rfl, hcl⟩⟩
theorem chunks_full (a : Nat → Pt) (size K r : Nat) (hs : 1 ≤ size) (hr : r < size) : chunksOf a size (K * size + r) = if r = 0 then fulls a size K else fulls a size K ++ [part a size K r] := by
  have hpt : ∀ q, q < K → chunkPts a size (K * size + r) q = ptsTo (fun j => a (q * size + j)) size := by
    intro q hq
    unfold chunkPts chunkLen
    have h1 : (q + 1) * size ≤ K * size := Nat.mul_le_mul_right size hq
    rw [Nat.add_mul, Nat.one_mul] at h1
    rw [show min size (K * size + r - q * size) = size by omega]
  split
  · rename_i h0
    subst h0
    have hn : chunkNum size (K * size + 0) = K := by
      unfold chunkNum
      refine Nat.div_eq_of_lt_le (by omega) ?_
      rw [Nat.add_mul, Nat.one_mul]; omega
    unfold chunksOf fulls
    rw [hn]
    exact List.map_congr_left (fun q hq => hpt q (by simpa using hq))
  · rename_i h0
    have hn : chunkNum size (K * size + r) = K + 1 := by
      unfold chunkNum
      refine Nat.div_eq_of_lt_le ?_ ?_
      · rw [Nat.add_mul, Nat.one_mul]; omega
      · rw [Nat.add_mul, Nat.add_mul, Nat.one_mul]; omega
    unfold chunksOf fulls
    rw [hn, List.range_succ, List.map_append]
    congr 1
    · exact List.map_congr_left (fun q hq => hpt q (by simpa using hq))
    · simp only [List.map_cons, List.map_nil]
      unfold chunkPts chunkLen part
      rw [show min size (K * size + r - K * size) = r by omega]
/-- all points are in -/
theorem rb_done {w wr : World} {a : Nat → Pt} {size n K r : Nat} {v : Value} (hs : 1 ≤ size) (hr : r < size) (hn : K * size + r = n)
    (h : (r = 0 ∧ ∃ A c, v = .slice A K c ∧ IsBats w.heap.size 41 wr (.slice A K c) (fulls a size K)) ∨
     (0 < r ∧ ∃ (go cap : Nat) (ts : List (Value × Value × Value)) (Bq : Nat) (A B C : Option Addr) (ka kb kc : Nat), v = .slice (some ⟨go, 0, none⟩) (K + 1) cap ∧ w.heap.size ≤ Bq ∧ Bq ≤ wr.heap.size ∧
       RBat w.heap.size 41 wr go cap ts (fulls a size K) Bq (.slice A r ka) (.slice B r kb) (.slice C r kc) ((part a size K r).map Pt.t) ((part a size K r).map Pt.v) ((part a size K r).map Pt.s))) :
    ∃ A c m, v = .slice A m c ∧ m = (chunksOf a size n).length ∧ IsBats w.heap.size 41 wr (.slice A m c) (chunksOf a size n) := by
  subst hn
  rw [chunks_full a size K r hs hr]
  rcases h with ⟨h0, A, c, rfl, hb⟩ | ⟨h0, go, cap, ts, Bq, A, B, C, ka, kb, kc, rfl, hB1, hB2, hb⟩
  · rw [if_pos h0]; exact ⟨A, c, K, rfl, (fulls_len a size K).symm, hb⟩
  · rw [if_neg (by omega)]
    have hcl := RBat.close hb hB1
    rw [fulls_len] at hcl
    exact ⟨_, _, K + 1, rfl, by rw [List.length_append, fulls_len]; rfl, hcl⟩
set_option maxRecDepth 100000 in
set_option maxHeartbeats 8000000 in
theorem rbatches_yes (S : Option Addr) (n c : Nat) (a : Nat → Pt) (size : Nat) (w : World) (h : Pts w S n a) (hn : n ≤ 1000000) (hs : 1 ≤ size) (hs2 : size ≤ 4096) :
    Calls Try.prog 11 #[.slice S n c, .int .i64 size] w (BatsPost 41 w (chunksOf a size n) 0) := by
  have HPT := Lib.hid h; clear h
  have q1 : decide ((size : Int) < 1) = false := by simp; omega
  have q2 : decide (4096 < (size : Int)) = false := by simp; omega
  go_enter Try.func11, Try.ntmps11
  go_wp2_with fail
  clear q1 q2
  go_loopw [6, 7] (RBRel w a size n) (fun _ i _ => n - (intOf i).toNat)
  case atStart => exact ⟨0, 0, by omega, by omega, by simp, Below.refl _ _, .inl ⟨rfl, none, 0, rfl, IsBats.nil _ _ _⟩⟩
  case round =>
    obtain ⟨K, r, hKr, hr, rfl, hbl, hst⟩ := hrel
    have HST := Lib.hid hst; clear hst
    obtain ⟨i0, hi0⟩ : ∃ i0, i0 = K * size + r := ⟨_, rfl⟩
    have hKi : K ≤ i0 := by rw [hi0]; have := Nat.le_mul_of_pos_right K hs; omega
    rw [← hi0] at hKr ⊢
    have HI := Lib.hid hi0
    have hmod : i0 % size = r := by rw [hi0, Nat.mul_comm, Nat.mul_add_mod, Nat.mod_eq_of_lt hr]
    have hmodI : ((i0 : Int) % (size : Int)) = (r : Int) := by rw [← hmod]; rfl
    clear hi0
    by_cases hlt : i0 < n
    · obtain ⟨b, off, rfl, hb, hc⟩ := HPT.out (by omega)
      obtain ⟨c1, c2, c3⟩ := Pts.at_ hc hlt
      obtain ⟨p, hp⟩ : ∃ p, p = a i0 := ⟨_, rfl⟩
      rw [← hp] at c1 c2 c3
      have HP := Lib.hid (show a (K * size + r) = p by rw [hp, HI.out])
      have C1 := Lib.hid c1
      have C2 := Lib.hid c2
      have C3 := Lib.hid c3
      clear hc hp c1 c2 c3
      go_upto_if 24 with fail
      go_cut [6] (RBMid w a size K r)
      case first =>
        rcases HST.out with ⟨hr0, A, cA, rfl, hbs⟩ | ⟨hr0, go, cap, ts, Bq, A, B, C, ka, kb, kc, rfl, hB1, hB2, hrb⟩
        · subst hr0
          obtain ⟨ts, hl, hown, hi⟩ := hbs
          have hown' := hown
          rw [fulls_len] at hown'
          have hsz := hbl.size
          have t0 : (((0 : Nat) : Int) == 0) = true := by decide
          go_wp2_with (at_builtin; refine wpList_append_lie rbatElem (hown'.alloc _) (by simp; omega) rfl _ _ rfl wr.heap.size [.slice none 0 0, .slice none 0 0, .slice none 0 0] (heap_alloc_new wr _) rfl rfl rfl (by simp [Value.oneCell']) (by unfold maxLen; omega) (by omega) ?_; intro go cap w1 ho hg hat)
          go_meet
          have hba := bel_add wr (.cells #[.slice none 0 0, .slice none 0 0, .slice none 0 0] 41)
          have hfl := fulls_len a size K
          refine ⟨go, cap, ts, w1.heap.size, none, none, none, 0, 0, 0, rfl, ?_, Nat.le_refl _, ?_, ?_⟩
          · have := hg.size; simp at this; omega
          · exact (hbl.alloc hbl.size _).grown hg (by simp; omega) (fun j hj => (hown'.lt j hj).1)
          · have hx := IsBats.begin (go := go) (cap := cap) hl (hown.alloc _) (fun i t L h1 h2 => (hi i t L h1 h2).below hba) (by decide) hg (by rw [hfl]; exact ho)
            simpa [part, ptsTo] using hx
        · have t0 : ((r : Int) == 0) = false := by rw [beq_eq_false_iff_ne]; omega
          go_wp2_with fail
          go_meet
          exact ⟨go, cap, ts, Bq, A, B, C, ka, kb, kc, rfl, hB1, hB2, hbl, hrb⟩
      case rest =>
      obtain ⟨go, cap, ts, Bq, A, B, C, ka, kb, kc, rfl, hB1, hB2, hbl', hrb⟩ := hcut
      clear HST hbl hmodI hmod
      have hbl := hbl'; clear hbl'
      have HFL := Lib.hid (fulls_len a size K)
      have lx : Hid (((part a size K r).map Pt.t).length = r) := Lib.hid (by rw [List.length_map, part_len])
      have ly : Hid (((part a size K r).map Pt.v).length = r) := Lib.hid (by rw [List.length_map, part_len])
      have lz : Hid (((part a size K r).map Pt.s).length = r) := Lib.hid (by rw [List.length_map, part_len])
      have y0 : (0 : Int) ≤ (i0 : Int) := by omega
      have y1 : (i0 : Int) < (n : Int) := by omega
      have y2 : (0 : Int) ≤ (K : Int) := by omega
      have y3 : (K : Int) < (K : Int) + 1 := by omega
      have hgo : w.heap.size ≤ go := (hrb.row.lt go rfl).1
      obtain ⟨v0, hv0⟩ : ∃ v, v = wc := ⟨_, rfl⟩
      rw [← hv0] at hrb hbl hB2 ⊢
      clear hv0
      have oc : v0.cell? ⟨go, K * 3, none⟩ = some (.slice A r ka) := by have h := hrb.cells.1; rw [HFL.out] at h; exact h.1
      have oc2 := cell_al (o := .cells #[.int .i64 p.t] 3) oc
      have xc : v0.cell? ⟨b, off + i0 * 3, none⟩ = some (.int .i64 p.t) := (hbl.cell (p := ⟨b, off + i0 * 3, none⟩) hb).trans C1.out
      have CW : RBat w.heap.size 41 (v0.alloc (.cells #[.int .i64 p.t] 3)).drew go cap ts (fulls a size K) Bq (.slice A r ka) (.slice B r kb) (.slice C r kc) ((part a size K r).map Pt.t) ((part a size K r).map Pt.v) ((part a size K r).map Pt.s) := hrb.below ((Below.refl _ v0).alloc (Nat.le_refl _) _).drew
      have rr : (v0.alloc (.cells #[.int .i64 p.t] 3)).drew.ownsRow Bq 3 1 (.slice A r ka) r (cells1 ((part a size K r).map Pt.t)) := by have h := CW.a; rw [lx.out] at h; exact h
      go_upto_region 10 with fail
      go_cut [6, 8] (fun s6 s8 wx => s6 = .slice (some ⟨go, 0, none⟩) (K + 1) cap ∧ s8 = .int .i64 K ∧ ∃ g1 cap1, RBat w.heap.size 41 wx go cap ts (fulls a size K) Bq (.slice (some ⟨g1, 0, none⟩) (r + 1) cap1) (.slice B r kb) (.slice C r kc) ((part a size K r).map Pt.t ++ [p.t]) ((part a size K r).map Pt.v) ((part a size K r).map Pt.s) ∧ Below w.heap.size w wx ∧ Bq ≤ wx.heap.size)
      case first =>
        go_region_law ((refine step_append_lie intElem rr (by simp; omega) (by rfl) _ _ (by rfl) v0.heap.size [.int .i64 p.t] (heap_alloc_new v0 _) (by rfl) (by rfl) rfl (by simp [Value.oneCell']) (by unfold maxLen; omega) (by omega) ?_; intro g1 cap1 w2 ho hg hat; have mm := CW.mid0 HFL.out (by decide) hg; have m0 := mm.1; have m1 := mm.2; clear mm))
        all_goals
          go_wp2_with fail
          go_meet
          have P1 := CW.push0 (by decide) lx.out ho hg hat
          rw [HFL.out] at P1
          obtain ⟨hq1, hq2⟩ := rb_bel (go := go) (k := K * 3) (v := .slice (some ⟨g1, 0, none⟩) (r + 1) cap1) ((hbl.alloc hbl.size (.cells #[.int .i64 p.t] 3)).drew) hg (Nat.le_refl _) (fun j' hj' => Nat.le_trans hB1 (rr.lt j' hj').1) hgo
          exact ⟨rfl, rfl, _, _, P1, hq1, by simp at hq2 ⊢; omega⟩
      case rest =>
      obtain ⟨rfl, rfl, g0, cap0, hrb0, hbl0, hB20⟩ := hcut
      clear oc oc2 xc CW rr hrb hbl hB2
      have hrb := hrb0; clear hrb0
      have hbl := hbl0; clear hbl0
      have hB2 := hB20; clear hB20
      obtain ⟨v1, hv0⟩ : ∃ v, v = wc := ⟨_, rfl⟩
      rw [← hv0] at hrb hbl hB2 ⊢
      clear hv0
      have oc : v1.cell? ⟨go, K * 3 + 1, none⟩ = some (.slice B r kb) := by have h := hrb.cells.1; rw [HFL.out] at h; exact h.2.1
      have oc2 := cell_al (o := .cells #[.int .i64 p.v] 3) oc
      have xc : v1.cell? ⟨b, off + i0 * 3 + 1, none⟩ = some (.int .i64 p.v) := (hbl.cell (p := ⟨b, off + i0 * 3 + 1, none⟩) hb).trans C2.out
      have CW : RBat w.heap.size 41 (v1.alloc (.cells #[.int .i64 p.v] 3)).drew go cap ts (fulls a size K) Bq (.slice (some ⟨g0, 0, none⟩) (r + 1) cap0) (.slice B r kb) (.slice C r kc) ((part a size K r).map Pt.t ++ [p.t]) ((part a size K r).map Pt.v) ((part a size K r).map Pt.s) := hrb.below ((Below.refl _ v1).alloc (Nat.le_refl _) _).drew
      have rr : (v1.alloc (.cells #[.int .i64 p.v] 3)).drew.ownsRow Bq 3 1 (.slice B r kb) r (cells1 ((part a size K r).map Pt.v)) := by have h := CW.b; rw [ly.out] at h; exact h
      go_upto_region 11 with fail
      go_cut [6, 8] (fun s6 s8 wx => s6 = .slice (some ⟨go, 0, none⟩) (K + 1) cap ∧ s8 = .int .i64 K ∧ ∃ g1 cap1, RBat w.heap.size 41 wx go cap ts (fulls a size K) Bq (.slice (some ⟨g0, 0, none⟩) (r + 1) cap0) (.slice (some ⟨g1, 0, none⟩) (r + 1) cap1) (.slice C r kc) ((part a size K r).map Pt.t ++ [p.t]) ((part a size K r).map Pt.v ++ [p.v]) ((part a size K r).map Pt.s) ∧ Below w.heap.size w wx ∧ Bq ≤ wx.heap.size)
      case first =>
        go_region_law ((refine step_append_lie intElem rr (by simp; omega) (by rfl) _ _ (by rfl) v1.heap.size [.int .i64 p.v] (heap_alloc_new v1 _) (by rfl) (by rfl) rfl (by simp [Value.oneCell']) (by unfold maxLen; omega) (by omega) ?_; intro g1 cap1 w2 ho hg hat; have mm := CW.mid1 HFL.out (by decide) hg; have m0 := mm.1; have m1 := mm.2; clear mm))
        all_goals
          go_wp2_with fail
          go_meet
          have P1 := CW.push1 (by decide) ly.out ho hg hat
          rw [HFL.out] at P1
          obtain ⟨hq1, hq2⟩ := rb_bel (go := go) (k := K * 3 + 1) (v := .slice (some ⟨g1, 0, none⟩) (r + 1) cap1) ((hbl.alloc hbl.size (.cells #[.int .i64 p.v] 3)).drew) hg (Nat.le_refl _) (fun j' hj' => Nat.le_trans hB1 (rr.lt j' hj').1) hgo
          exact ⟨rfl, rfl, _, _, P1, hq1, by simp at hq2 ⊢; omega⟩
      case rest =>
      obtain ⟨rfl, rfl, g1, cap1, hrb1, hbl1, hB21⟩ := hcut
      clear oc oc2 xc CW rr hrb hbl hB2
      have hrb := hrb1; clear hrb1
      have hbl := hbl1; clear hbl1
      have hB2 := hB21; clear hB21
      obtain ⟨v2, hv0⟩ : ∃ v, v = wc := ⟨_, rfl⟩
      rw [← hv0] at hrb hbl hB2 ⊢
      clear hv0
      have oc : v2.cell? ⟨go, K * 3 + 2, none⟩ = some (.slice C r kc) := by have h := hrb.cells.1; rw [HFL.out] at h; exact h.2.2
      have oc2 := cell_al (o := .cells #[.int .i64 p.s] 3) oc
      have xc : v2.cell? ⟨b, off + i0 * 3 + 2, none⟩ = some (.int .i64 p.s) := (hbl.cell (p := ⟨b, off + i0 * 3 + 2, none⟩) hb).trans C3.out
      have CW : RBat w.heap.size 41 (v2.alloc (.cells #[.int .i64 p.s] 3)).drew go cap ts (fulls a size K) Bq (.slice (some ⟨g0, 0, none⟩) (r + 1) cap0) (.slice (some ⟨g1, 0, none⟩) (r + 1) cap1) (.slice C r kc) ((part a size K r).map Pt.t ++ [p.t]) ((part a size K r).map Pt.v ++ [p.v]) ((part a size K r).map Pt.s) := hrb.below ((Below.refl _ v2).alloc (Nat.le_refl _) _).drew
      have rr : (v2.alloc (.cells #[.int .i64 p.s] 3)).drew.ownsRow Bq 3 1 (.slice C r kc) r (cells1 ((part a size K r).map Pt.s)) := by have h := CW.c; rw [lz.out] at h; exact h
      go_wp2_with fail
      go_region_law ((refine step_append_lie intElem rr (by simp; omega) (by rfl) _ _ (by rfl) v2.heap.size [.int .i64 p.s] (heap_alloc_new v2 _) (by rfl) (by rfl) rfl (by simp [Value.oneCell']) (by unfold maxLen; omega) (by omega) ?_; intro g1 cap1 w2 ho hg hat; have mm := CW.mid2 HFL.out (by decide) hg; have m0 := mm.1; have m1 := mm.2; clear mm))
      all_goals
        have P1 := CW.push2 (by decide) lz.out ho hg hat
        rw [HFL.out] at P1
        obtain ⟨hq1, hq2⟩ := rb_bel (go := go) (k := K * 3 + 2) (v := .slice (some ⟨g1, 0, none⟩) (r + 1) cap1) ((hbl.alloc hbl.size (.cells #[.int .i64 p.s] 3)).drew) hg (Nat.le_refl _) (fun j' hj' => Nat.le_trans hB1 (rr.lt j' hj').1) hgo
        have hq3 : Bq ≤ (w2.setCell ⟨go, K * 3 + 2, none⟩ (.slice (some ⟨g1, 0, none⟩) (r + 1) cap1)).heap.size := by simp at hq2 ⊢; omega
        have FIN := Lib.hid (rb_next hs hr (by rw [← HI.out]; exact hlt) HP.out hq1 hB1 hq3 P1)
        clear P1 hq2 ho hat
        go_wp2
        exact ⟨by rw [HI.out]; exact FIN.out, by simp [intOf]; omega⟩
    · have hin : i0 = n := by omega
      obtain ⟨A, cA, L, hv, hL, hbs⟩ := rb_done hs hr (HI.out.symm.trans hin) HST.out
      subst hv
      have HBS := Lib.hid hbs
      have HLL := Lib.hid hL
      clear hbs hL hmodI hmod
      go_wp2
      go_ret2
      exact ⟨A, cA, by rw [← HLL.out]; rfl, by rw [← HLL.out]; exact HBS.out, hbl⟩
end Go.Proofs.Ytmdpdhdjbnhmeaa

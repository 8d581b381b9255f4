/- The walk of WideOrder: it returns true for any numbers. -/
import Derived.Test.YtohgpllonbplfaaWideAdd
import Derived.Test.YtohgpllonbplfaaWideCmp
import Derived.Test.YtohgpllonbplfaaWideSharesWalk
namespace Go.Proofs.Ytohgpllonbplfaa
open Go.RowKit
set_option linter.unusedVariables false

/-- sums from the one end, and from the other -/
def sumTo (x : Nat → Int) : Nat → Int
  | 0 => 0
  | k + 1 => sumTo x k + x k
theorem sumTo_shift (x : Nat → Int) (k : Nat) : sumTo x (k + 1) = x 0 + sumTo (fun i => x (i + 1)) k := by
  induction k with
  | zero => simp [sumTo]
  | succ k ih => rw [sumTo, ih, sumTo]; omega
theorem sumTo_congr (x y : Nat → Int) (k : Nat) (h : ∀ i, i < k → x i = y i) : sumTo x k = sumTo y k := by
  induction k with
  | zero => rfl
  | succ k ih => rw [sumTo, sumTo, ih (fun i hi => h i (by omega)), h k (by omega)]
theorem sumTo_back (x : Nat → Int) (n : Nat) : sumTo (fun i => x (n - 1 - i)) n = sumTo x n := by
  induction n generalizing x with
  | zero => rfl
  | succ n ih =>
    rw [sumTo_shift x n, ← ih, sumTo]
    have := sumTo_congr (fun i => x (n + 1 - 1 - i)) (fun i => x (n - 1 - i + 1)) n (fun i hi => by congr 1; omega)
    rw [this]; simp; omega
theorem sumTo_bd (x : Nat → Int) (n k : Nat) (hk : k ≤ n) (h : ∀ i, i < n → -9223372036854775808 ≤ x i ∧ x i ≤ 9223372036854775807) : -9223372036854775808 * (k : Int) ≤ sumTo x k ∧ sumTo x k ≤ 9223372036854775807 * (k : Int) := by
  induction k with
  | zero => simp [sumTo]
  | succ k ih => have h1 := ih (by omega); have h2 := h k (by omega); rw [sumTo]; omega
theorem sumTo_fits (x : Nat → Int) (n k : Nat) (hn : n ≤ 300) (hk : k ≤ n) (h : ∀ i, i < n → -9223372036854775808 ≤ x i ∧ x i ≤ 9223372036854775807) : fits (sumTo x k) := by
  have := sumTo_bd x n k hk h; unfold fits; omega
/-- two numbers in the call's own blocks -/
structure OrdAt (w : World) (a b : Int) (wx : World) : Prop where
  bel : Below w.heap.size w wx
  a0 : wx.cell? ⟨w.heap.size, 0, none⟩ = some (.int .i64 (hiW a))
  a1 : wx.cell? ⟨w.heap.size, 1, none⟩ = some (.int .u64 (loW a))
  b0 : wx.cell? ⟨w.heap.size + 1, 0, none⟩ = some (.int .i64 (hiW b))
  b1 : wx.cell? ⟨w.heap.size + 1, 1, none⟩ = some (.int .u64 (loW b))
  fa0 : wx.frozen? ⟨w.heap.size, 0, none⟩ = false
  fa1 : wx.frozen? ⟨w.heap.size, 1, none⟩ = false
  fb0 : wx.frozen? ⟨w.heap.size + 1, 0, none⟩ = false
  fb1 : wx.frozen? ⟨w.heap.size + 1, 1, none⟩ = false
theorem OrdAt.sz {w wx : World} {a b : Int} (h : OrdAt w a b wx) : w.heap.size + 1 < wx.heap.size := World.block_lt_of_cell? wx _ h.b0
theorem OrdAt.step {w wx wy : World} {a b : Int} (h : OrdAt w a b wx) (hb : Below wx.heap.size wx wy) : OrdAt w a b wy :=
  ⟨h.bel.trans (hb.mono h.bel.size), cell_be hb h.a0, cell_be hb h.a1, cell_be hb h.b0, cell_be hb h.b1, frozen_be hb (by have := h.sz; omega) h.fa0, frozen_be hb (by have := h.sz; omega) h.fa1, frozen_be hb h.sz h.fb0, frozen_be hb h.sz h.fb1⟩
theorem OrdAt.start (w : World) : OrdAt w 0 0 ((w.alloc (.cells #[.int .i64 0, .int .u64 0] 25)).alloc (.cells #[.int .i64 0, .int .u64 0] 25)) :=
  ⟨((Below.refl _ _).alloc (Nat.le_refl _) _).alloc (by simp) _, cell_al (cell_new0 rfl), cell_al (cell_new1 rfl), cell_new0 (by simp), cell_new1 (by simp), frozen_al (by simp) (frozen_new rfl 0), frozen_al (by simp) (frozen_new rfl 1), frozen_new (by simp) 0, frozen_new (by simp) 1⟩
/-- the loop's state -/
def OrdRel (w : World) (n : Nat) (x : Nat → Int) (i : Value) (wr : World) : Prop := ∃ k : Nat, k ≤ n ∧ i = .int .i64 k ∧ OrdAt w (sumTo x k) (sumTo (fun i => x (n - 1 - i)) k) wr
/-- a new number in a block beyond -/
def NewAt (w : World) (a b v : Int) (s : Value) (wx : World) : Prop := ∃ g, s = .pointer (some ⟨g, 0, none⟩) ∧ w.heap.size + 1 < g ∧ OrdAt w a b wx ∧ wx.cell? ⟨g, 0, none⟩ = some (.int .i64 (hiW v)) ∧ wx.cell? ⟨g, 1, none⟩ = some (.int .u64 (loW v))
theorem bel_far {X W : World} {g : Nat} (h : Below X.heap.size X W) (hg : X.heap.size ≤ g) (a b : Nat) (u v : Value) : Below X.heap.size X ((W.setCell ⟨g, a, none⟩ u).setCell ⟨g, b, none⟩ v) := (h.setCell hg _).setCell hg _
theorem set2 {W : World} {g : Nat} {x y u v : Value} {b o : Nat} (hne : b ≠ g) : ((W.setCell ⟨g, 0, none⟩ x).setCell ⟨g, 1, none⟩ y).cell? ⟨b, o, none⟩ = W.cell? ⟨b, o, none⟩ := by
  rw [World.cell?_of_block (Below.heap_setCell _ ⟨g, 1, none⟩ y b (by simpa using hne)), World.cell?_of_block (Below.heap_setCell W ⟨g, 0, none⟩ x b (by simpa using hne))]
theorem OrdAt.set_ab {w W : World} {a b : Int} (h : OrdAt w a b W) (a' b' : Int) : OrdAt w a' b' ((((W.setCell ⟨w.heap.size, 0, none⟩ (.int .i64 (hiW a'))).setCell ⟨w.heap.size, 1, none⟩ (.int .u64 (loW a'))).setCell ⟨w.heap.size + 1, 0, none⟩ (.int .i64 (hiW b'))).setCell ⟨w.heap.size + 1, 1, none⟩ (.int .u64 (loW b'))) := by
  obtain ⟨bel, a0, a1, b0, b1, fa0, fa1, fb0, fb1⟩ := h
  have ta := two_set (x := .int .i64 (hiW a')) (y := .int .u64 (loW a')) a0 a1
  have tb := two_set (w := (W.setCell ⟨w.heap.size, 0, none⟩ (.int .i64 (hiW a'))).setCell ⟨w.heap.size, 1, none⟩ (.int .u64 (loW a'))) (x := .int .i64 (hiW b')) (y := .int .u64 (loW b')) ((set2 (u := undef) (v := undef) (by omega)).trans b0) ((set2 (u := undef) (v := undef) (by omega)).trans b1)
  refine ⟨(((bel.setCell (by simp) _).setCell (by simp) _).setCell (by simp) _).setCell (by simp) _, (set2 (u := undef) (v := undef) (by omega)).trans ta.1, (set2 (u := undef) (v := undef) (by omega)).trans ta.2, tb.1, tb.2, ?_, ?_, ?_, ?_⟩ <;> (simp only [World.frozen?_setCell]; assumption)
theorem OrdAt.set_ba {w W : World} {a b : Int} (h : OrdAt w a b W) (a' b' : Int) : OrdAt w a' b' ((((W.setCell ⟨w.heap.size + 1, 0, none⟩ (.int .i64 (hiW b'))).setCell ⟨w.heap.size + 1, 1, none⟩ (.int .u64 (loW b'))).setCell ⟨w.heap.size, 0, none⟩ (.int .i64 (hiW a'))).setCell ⟨w.heap.size, 1, none⟩ (.int .u64 (loW a'))) := by
  obtain ⟨bel, a0, a1, b0, b1, fa0, fa1, fb0, fb1⟩ := h
  have tb := two_set (x := .int .i64 (hiW b')) (y := .int .u64 (loW b')) b0 b1
  have ta := two_set (w := (W.setCell ⟨w.heap.size + 1, 0, none⟩ (.int .i64 (hiW b'))).setCell ⟨w.heap.size + 1, 1, none⟩ (.int .u64 (loW b'))) (x := .int .i64 (hiW a')) (y := .int .u64 (loW a')) ((set2 (u := undef) (v := undef) (by omega)).trans a0) ((set2 (u := undef) (v := undef) (by omega)).trans a1)
  refine ⟨(((bel.setCell (by simp) _).setCell (by simp) _).setCell (by simp) _).setCell (by simp) _, ta.1, ta.2, (set2 (u := undef) (v := undef) (by omega)).trans tb.1, (set2 (u := undef) (v := undef) (by omega)).trans tb.2, ?_, ?_, ?_, ?_⟩ <;> (simp only [World.frozen?_setCell]; assumption)
theorem OrdAt.dr {w W : World} {a b : Int} (h : OrdAt w a b W) : OrdAt w a b W.drew := h.step (Below.refl _ _).drew
/-- what the order of the two numbers is -/
theorem cmp_less (a v : Int) : (v < 0 ∧ cmpI (a - v) a = 1) ∨ (v = 0 ∧ cmpI (a - v) a = 0) ∨ (0 < v ∧ cmpI (a - v) a = -1) := by
  unfold cmpI; split
  · omega
  · split <;> omega
theorem tmod_bd (a n : Int) (hn : 0 < n) : -n < a.tmod n ∧ a.tmod n < n := by
  have h1 := Int.tmod_lt_of_pos a hn
  have h2 := Int.tmod_lt_of_pos (-a) hn
  rw [Int.neg_tmod] at h2
  omega
set_option maxRecDepth 100000 in
set_option maxHeartbeats 4000000 in
theorem order_at (w : World) (A : Option Addr) (n c : Nat) (x : Nat → Int) (hx : Ints w A n x) (hn : n ≤ 300) (hbd : ∀ j, j < n → -9223372036854775808 ≤ x j ∧ x j ≤ 9223372036854775807) (at_ : Int) (ha : -9223372036854775808 ≤ at_ ∧ at_ ≤ 9223372036854775807) :
    Calls Try.prog 3 #[.slice A n c, .int .i64 at_] w fun e w' => e = .returned (.bool true) ∧ Below w.heap.size w w' := by
  have HX := Lib.hid hx; clear hx
  have HBD := Lib.hid hbd; clear hbd
  obtain ⟨ha0, ha1⟩ := ha
  have d0 : decide (300 < (n : Int)) = false := by simp; omega
  go_enter Try.func3, Try.ntmps3
  go_wp2_with fail
  go_loopw [7] (OrdRel w n x) (fun i _ => n - (intOf i).toNat)
  case atStart => exact ⟨0, by omega, rfl, OrdAt.start w⟩
  case round =>
    obtain ⟨k, hk, rfl, H⟩ := hrel
    by_cases hlt : k < n
    · obtain ⟨bb, off, rfl, hbb, hcell⟩ := HX.out (by omega)
      obtain ⟨j, hj⟩ : ∃ j, j = n - 1 - k := ⟨_, rfl⟩
      obtain ⟨a, hA⟩ : ∃ a, a = sumTo x k := ⟨_, rfl⟩
      obtain ⟨b, hB⟩ : ∃ b, b = sumTo (fun i => x (n - 1 - i)) k := ⟨_, rfl⟩
      obtain ⟨v, hv⟩ : ∃ v, v = x k := ⟨_, rfl⟩
      obtain ⟨u, hu⟩ : ∃ u, u = x j := ⟨_, rfl⟩
      have hvb := HBD.out k hlt
      have hub := HBD.out j (by omega)
      have HBD2 : ∀ i, i < n → -9223372036854775808 ≤ x (n - 1 - i) ∧ x (n - 1 - i) ≤ 9223372036854775807 := fun i hi => HBD.out _ (by omega)
      rw [← hv] at hvb
      rw [← hu] at hub
      have fa : fits a := by rw [hA]; exact sumTo_fits x n k hn hk HBD.out
      have fb : fits b := by rw [hB]; exact sumTo_fits _ n k hn hk HBD2
      have fv : fits v := fits_int v hvb.1 hvb.2
      have fu : fits u := fits_int u hub.1 hub.2
      have hA1 : a + v = sumTo x (k + 1) := by rw [hA, hv]; rfl
      have hB1 : b + u = sumTo (fun i => x (n - 1 - i)) (k + 1) := by rw [hB, hu, hj]; rfl
      have fa1 : fits (a + v) := by rw [hA1]; exact sumTo_fits x n (k + 1) hn (by omega) HBD.out
      have fb1 : fits (b + u) := by rw [hB1]; exact sumTo_fits _ n (k + 1) hn (by omega) HBD2
      have HOv := Lib.hid (fun w => of_any v w hvb.1 hvb.2)
      have HAv := Lib.hid (fun w => add_fit a v w fa fv fa1)
      have HOu := Lib.hid (fun w => of_any u w hub.1 hub.2)
      have HAu := Lib.hid (fun w => add_fit b u w fb fu fb1)
      have xk : wr.cell? ⟨bb, off + k, none⟩ = some (.int .i64 v) := by rw [hv]; exact (H.bel.cell (p := ⟨bb, off + k, none⟩) hbb).trans (hcell k hlt)
      have XJ := Lib.hid (fun (W : World) (h : Below w.heap.size w W) => show W.cell? ⟨bb, off + j, none⟩ = some (.int .i64 u) by rw [hu]; exact (h.cell (p := ⟨bb, off + j, none⟩) hbb).trans (hcell j (by omega)))
      rw [← hA, ← hB] at H
      have HA1 := Lib.hid hA1
      have HB1 := Lib.hid hB1
      have HJ := Lib.hid hj
      clear hA1 hA fa fv fa1 hv hB hB1 fb fu fb1 hu hcell HBD2 hj
      have i0 : (0 : Int) ≤ (k : Int) := Int.natCast_nonneg _
      have i1 : (k : Int) < (n : Int) := by omega
      have a0 := H.a0
      have a1 := H.a1
      have hsz := H.sz
      go_wp2_with fail
      go_upto_region 7 with fail
      go_cut [8, 9] (fun s8 s9 wx => s9 = .bool true ∧ NewAt w a b (a + v) s8 wx)
      case first =>
        go_region_held3 (fun w' => w'.cell? ⟨w.heap.size, 0, none⟩ = some (.int .i64 (hiW a)) ∧ w'.cell? ⟨w.heap.size, 1, none⟩ = some (.int .u64 (loW a)) ∧ w'.cell? ⟨bb, off + k, none⟩ = some (.int .i64 v)) ((refine ⟨?_, ?_, ?_⟩ <;> (repeat (first | (with_reducible refine cell_dr ?_) | (with_reducible refine cell_al ?_) | (with_reducible refine cell_be hbp ?_) | (with_reducible refine cell_be hbo ?_) | (with_reducible refine cell_set ?_ (by omega)))) <;> (with_reducible first | exact a0 | exact a1 | exact xk))) (first | (go_at_call 8; refine (HOv.out _).mono ?_; rintro e wo ⟨rfl, hbo⟩; have hzo := hbo.size; (try simp at hzo); (try (have k0 : wo.cell? ⟨wr.heap.size, 0, none⟩ = some (.int .i64 0) := cell_be hbo (cell_new0 rfl))); (try (have k1 : wo.cell? ⟨wr.heap.size, 1, none⟩ = some (.int .u64 0) := cell_be hbo (cell_new1 rfl))); (try (have k2 : wo.frozen? ⟨wr.heap.size, 0, none⟩ = false := frozen_be hbo (by simp) (frozen_new rfl 0))); (try (have k3 : wo.frozen? ⟨wr.heap.size, 1, none⟩ = false := frozen_be hbo (by simp) (frozen_new rfl 1)))) | (go_at_call 7; refine (HAv.out _).mono ?_; rintro e wp ⟨rfl, hbp⟩; have hzp := hbp.size; (try simp at hzp); (try (have m0 : wp.cell? ⟨wr.heap.size, 0, none⟩ = some (.int .i64 0) := cell_be hbp k0)); (try (have m1 : wp.cell? ⟨wr.heap.size, 1, none⟩ = some (.int .u64 0) := cell_be hbp k1)); (try (have m2 : wp.frozen? ⟨wr.heap.size, 0, none⟩ = false := frozen_be hbp (by first | omega | (simp; omega)) k2)); (try (have m3 : wp.frozen? ⟨wr.heap.size, 1, none⟩ = false := frozen_be hbp (by first | omega | (simp; omega)) k3)); (try (have j0 : wp.cell? ⟨wo.heap.size, 0, none⟩ = some (.int .i64 0) := cell_be hbp (cell_new0 rfl))); (try (have j1 : wp.cell? ⟨wo.heap.size, 1, none⟩ = some (.int .u64 0) := cell_be hbp (cell_new1 rfl))); (try (have j2 : wp.frozen? ⟨wo.heap.size, 0, none⟩ = false := frozen_be hbp (by simp) (frozen_new rfl 0))); (try (have j3 : wp.frozen? ⟨wo.heap.size, 1, none⟩ = false := frozen_be hbp (by simp) (frozen_new rfl 1)))))
        · go_wp2_with fail
          go_meet
          have hb0 := bel_step (Below.refl _ wr).drew (Nat.le_refl _) hbo
          have hb1 := bel_step hb0 (Nat.le_refl _) hbp
          have hz1 := hb1.size
          have hbf := hb1.alloc hb1.size (.cells #[.int .i64 (hiW (a + v)), .int .u64 (loW (a + v))] 25)
          exact ⟨rfl, _, rfl, by omega, H.step hbf, cell_new0 rfl, cell_new1 rfl⟩
        · go_wp2_with fail
          go_meet
          have hb0 := bel_step (Below.refl _ wr).drew (Nat.le_refl _) hbo
          have hz0 := hb0.size
          have hb1 := bel_step (hb0.alloc hb0.size (.cells #[.int .i64 0, .int .u64 0] 25)) (Nat.le_refl _) hbp
          have t := two_set (x := .int .i64 (hiW (a + v))) (y := .int .u64 (loW (a + v))) j0 j1
          have hbf := bel_far hb1 hz0 0 1 (.int .i64 (hiW (a + v))) (.int .u64 (loW (a + v)))
          exact ⟨rfl, _, rfl, by omega, H.step hbf, t.1, t.2⟩
        · go_wp2_with fail
          go_meet
          have hb1 := bel_step (bel_step ((Below.refl _ wr).alloc (Nat.le_refl _) (.cells #[.int .i64 0, .int .u64 0] 25)).drew (Nat.le_refl _) hbo) (Nat.le_refl _) hbp
          have t := two_set (x := .int .i64 (hiW (a + v))) (y := .int .u64 (loW (a + v))) m0 m1
          have hbf := bel_far hb1 (Nat.le_refl _) 0 1 (.int .i64 (hiW (a + v))) (.int .u64 (loW (a + v)))
          exact ⟨rfl, _, rfl, by omega, H.step hbf, t.1, t.2⟩
      case rest =>
        obtain ⟨rfl, g, rfl, hg, H', g0, g1⟩ := hcut
        clear H a0 a1 hsz xk HOv HAv
        have H := H'; clear H'
        have b0 := H.b0
        have b1 := H.b1
        have hsz := H.sz
        have xj := XJ.out wc H.bel
        have e1 : IntKind.i64.wrap ((n : Int) - 1) = (n : Int) - 1 := IntWalk.i64_in _ (by omega)
        have e2 : IntKind.i64.wrap ((n : Int) - 1 - (k : Int)) = (j : Int) := by rw [HJ.out]; rw [IntWalk.i64_in _ (by omega)]; omega
        have p0 : (0 : Int) ≤ (j : Int) := Int.natCast_nonneg _
        have p1 : (j : Int) < (n : Int) := by have := HJ.out; omega
        go_upto_region 8 with fail
        go_cut [10, 11] (fun s10 s11 wx => s11 = .bool true ∧ wx.cell? ⟨g, 0, none⟩ = some (.int .i64 (hiW (a + v))) ∧ wx.cell? ⟨g, 1, none⟩ = some (.int .u64 (loW (a + v))) ∧ NewAt w a b (b + u) s10 wx)
        case first =>
          go_region_held3 (fun w' => w'.cell? ⟨w.heap.size + 1, 0, none⟩ = some (.int .i64 (hiW b)) ∧ w'.cell? ⟨w.heap.size + 1, 1, none⟩ = some (.int .u64 (loW b)) ∧ w'.cell? ⟨bb, off + j, none⟩ = some (.int .i64 u)) ((refine ⟨?_, ?_, ?_⟩ <;> (repeat (first | (with_reducible refine cell_dr ?_) | (with_reducible refine cell_al ?_) | (with_reducible refine cell_be hbp ?_) | (with_reducible refine cell_be hbo ?_) | (with_reducible refine cell_set ?_ (by omega)))) <;> (with_reducible first | exact b0 | exact b1 | exact xj))) (first | (go_at_call 8; refine (HOu.out _).mono ?_; rintro e wo ⟨rfl, hbo⟩; have hzo := hbo.size; (try simp at hzo); (try (have k0 : wo.cell? ⟨wc.heap.size, 0, none⟩ = some (.int .i64 0) := cell_be hbo (cell_new0 rfl))); (try (have k1 : wo.cell? ⟨wc.heap.size, 1, none⟩ = some (.int .u64 0) := cell_be hbo (cell_new1 rfl))); (try (have k2 : wo.frozen? ⟨wc.heap.size, 0, none⟩ = false := frozen_be hbo (by simp) (frozen_new rfl 0))); (try (have k3 : wo.frozen? ⟨wc.heap.size, 1, none⟩ = false := frozen_be hbo (by simp) (frozen_new rfl 1)))) | (go_at_call 7; refine (HAu.out _).mono ?_; rintro e wp ⟨rfl, hbp⟩; have hzp := hbp.size; (try simp at hzp); (try (have m0 : wp.cell? ⟨wc.heap.size, 0, none⟩ = some (.int .i64 0) := cell_be hbp k0)); (try (have m1 : wp.cell? ⟨wc.heap.size, 1, none⟩ = some (.int .u64 0) := cell_be hbp k1)); (try (have m2 : wp.frozen? ⟨wc.heap.size, 0, none⟩ = false := frozen_be hbp (by first | omega | (simp; omega)) k2)); (try (have m3 : wp.frozen? ⟨wc.heap.size, 1, none⟩ = false := frozen_be hbp (by first | omega | (simp; omega)) k3)); (try (have j0 : wp.cell? ⟨wo.heap.size, 0, none⟩ = some (.int .i64 0) := cell_be hbp (cell_new0 rfl))); (try (have j1 : wp.cell? ⟨wo.heap.size, 1, none⟩ = some (.int .u64 0) := cell_be hbp (cell_new1 rfl))); (try (have j2 : wp.frozen? ⟨wo.heap.size, 0, none⟩ = false := frozen_be hbp (by simp) (frozen_new rfl 0))); (try (have j3 : wp.frozen? ⟨wo.heap.size, 1, none⟩ = false := frozen_be hbp (by simp) (frozen_new rfl 1)))))
          · go_wp2_with fail
            go_meet
            have hb0 := bel_step (Below.refl _ wc).drew (Nat.le_refl _) hbo
            have hb1 := bel_step hb0 (Nat.le_refl _) hbp
            have hz1 := hb1.size
            have hbf := hb1.alloc hb1.size (.cells #[.int .i64 (hiW (b + u)), .int .u64 (loW (b + u))] 25)
            exact ⟨rfl, cell_be (hbf) g0, cell_be (hbf) g1, _, rfl, by omega, H.step hbf, cell_new0 rfl, cell_new1 rfl⟩
          · go_wp2_with fail
            go_meet
            have hb0 := bel_step (Below.refl _ wc).drew (Nat.le_refl _) hbo
            have hz0 := hb0.size
            have hb1 := bel_step (hb0.alloc hb0.size (.cells #[.int .i64 0, .int .u64 0] 25)) (Nat.le_refl _) hbp
            have t := two_set (x := .int .i64 (hiW (b + u))) (y := .int .u64 (loW (b + u))) j0 j1
            have hbf := bel_far hb1 hz0 0 1 (.int .i64 (hiW (b + u))) (.int .u64 (loW (b + u)))
            exact ⟨rfl, cell_be (hbf) g0, cell_be (hbf) g1, _, rfl, by omega, H.step hbf, t.1, t.2⟩
          · go_wp2_with fail
            go_meet
            have hb1 := bel_step (bel_step ((Below.refl _ wc).alloc (Nat.le_refl _) (.cells #[.int .i64 0, .int .u64 0] 25)).drew (Nat.le_refl _) hbo) (Nat.le_refl _) hbp
            have t := two_set (x := .int .i64 (hiW (b + u))) (y := .int .u64 (loW (b + u))) m0 m1
            have hbf := bel_far hb1 (Nat.le_refl _) 0 1 (.int .i64 (hiW (b + u))) (.int .u64 (loW (b + u)))
            exact ⟨rfl, cell_be (hbf) g0, cell_be (hbf) g1, _, rfl, by omega, H.step hbf, t.1, t.2⟩
        case rest =>
          clear e1 e2
          obtain ⟨rfl, g0', g1', h, rfl, hh, H', h0, h1⟩ := hcut
          clear H b0 b1 hsz xj HOu HAu g0 g1 XJ
          have g0 := g0'; clear g0'
          have g1 := g1'; clear g1'
          obtain ⟨bel, a0, a1, b0, b1, fa0, fa1, fb0, fb1⟩ := H'
          have hsz : w.heap.size + 1 < wc.heap.size := World.block_lt_of_cell? _ _ b0
          have hsz0 : w.heap.size < wc.heap.size := by omega
          have HH := Lib.hid (show OrdAt w a b wc from ⟨bel, a0, a1, b0, b1, fa0, fa1, fb0, fb1⟩)
          clear bel
          go_wp2_with fail
          go_region_held3 (fun w' => w'.cell? ⟨g, 0, none⟩ = some (.int .i64 (hiW (a + v))) ∧ w'.cell? ⟨g, 1, none⟩ = some (.int .u64 (loW (a + v))) ∧ w'.cell? ⟨h, 0, none⟩ = some (.int .i64 (hiW (b + u))) ∧ w'.cell? ⟨h, 1, none⟩ = some (.int .u64 (loW (b + u)))) ((refine ⟨?_, ?_, ?_, ?_⟩ <;> (repeat (first | (with_reducible refine cell_dr ?_) | (with_reducible refine cell_set ?_ (by omega)))) <;> (with_reducible first | exact g0 | exact g1 | exact h0 | exact h1))) (first | fail)
          go_wp2
          exact ⟨⟨k + 1, by omega, by go_num, by rw [← HA1.out, ← HB1.out]; exact (HH.out.set_ab _ _).dr⟩, by simp [intOf]; omega⟩
    · obtain rfl : k = n := by omega
      rw [sumTo_back] at H
      obtain ⟨a, hA⟩ : ∃ a, a = sumTo x k := ⟨_, rfl⟩
      have ha2 := sumTo_bd x k k (Nat.le_refl _) HBD.out
      rw [← hA] at H ha2
      have fa : fits a := by unfold fits; omega
      have a0 := H.a0
      have a1 := H.a1
      have b0 := H.b0
      have b1 := H.b1
      have hsz := H.sz
      by_cases hz : k = 0
      · obtain rfl : a = 0 := by subst hz; rw [hA]; rfl
        subst hz
        clear hA ha2 fa
        rw [hiW_zero] at a0 b0
        rw [loW_zero] at a1 b1
        go_wp2_with fail
        with_reducible refine (of_any 7 _ (by decide) (by decide)).mono ?_
        rintro e w1 ⟨rfl, hb⟩
        replace a0 := cell_be hb a0
        replace a1 := cell_be hb a1
        replace b0 := cell_be hb b0
        replace b1 := cell_be hb b1
        replace H := H.step hb
        clear hb
        go_wp2_with fail
        with_reducible refine (int_yes 7 _ (by decide)).mono ?_
        rintro e w2 ⟨rfl, hb⟩
        replace a0 := cell_be hb a0
        replace a1 := cell_be hb a1
        replace b0 := cell_be hb b0
        replace b1 := cell_be hb b1
        replace H := H.step hb
        clear hb
        go_wp2
        go_ret
        exact ⟨rfl, H.bel⟩
      · have hpos : 0 < k := by omega
        have tb := tmod_bd at_ (k : Int) (by omega)
        obtain ⟨t, ht⟩ : ∃ t, t = at_.tmod (k : Int) := ⟨_, rfl⟩
        rw [← ht] at tb
        obtain ⟨tb0, tb1⟩ := tb
        obtain ⟨j, hj⟩ : ∃ j : Nat, (j : Int) = (t + (k : Int)) % (k : Int) := ⟨((t + (k : Int)) % (k : Int)).toNat, by rw [Int.toNat_of_nonneg (Int.emod_nonneg _ (by omega))]⟩
        have hjl : j < k := by have := Int.emod_lt_of_pos (t + (k : Int)) (show (0 : Int) < k by omega); omega
        obtain ⟨bb, off, rfl, hbb, hcell⟩ := HX.out (by omega)
        obtain ⟨v, hv⟩ : ∃ v, v = x j := ⟨_, rfl⟩
        have hvb := HBD.out j hjl
        rw [← hv] at hvb
        have fv : fits v := fits_int v hvb.1 hvb.2
        have fd : fits (a - v) := by unfold fits; omega
        have HOv := Lib.hid (fun w => of_any v w hvb.1 hvb.2)
        have HDv := Lib.hid (fun w => sub_fit a v w fa fv fd)
        have HAv := Lib.hid (fun w => add_fit (a - v) v w fd fv (by rw [show a - v + v = a by omega]; exact fa))
        rw [show a - v + v = a by omega] at HAv
        have HC := Lib.hid (fun w => cmp_any (a - v) a w fd fa)
        have hcm := cmp_less a v
        obtain ⟨cc, hcc⟩ : ∃ cc, cc = cmpI (a - v) a := ⟨_, rfl⟩
        rw [← hcc] at hcm HC
        have XJ := Lib.hid (fun (W : World) (h : Below w.heap.size w W) => show W.cell? ⟨bb, off + j, none⟩ = some (.int .i64 v) by rw [hv]; exact (h.cell (p := ⟨bb, off + j, none⟩) hbb).trans (hcell j hjl))
        clear hA ha2 fa hv fv fd hcc hcell hz
        have HT := Lib.hid ht; clear ht
        have HJ := Lib.hid hj; clear hj
        go_wp2_with fail
        with_reducible refine (of_any 7 _ (by decide) (by decide)).mono ?_
        rintro e w1 ⟨rfl, hb⟩
        replace a0 := cell_be hb a0
        replace a1 := cell_be hb a1
        replace b0 := cell_be hb b0
        replace b1 := cell_be hb b1
        replace H := H.step hb
        clear hb
        go_wp2_with fail
        with_reducible refine (int_yes 7 _ (by decide)).mono ?_
        rintro e w2 ⟨rfl, hb⟩
        replace a0 := cell_be hb a0
        replace a1 := cell_be hb a1
        replace b0 := cell_be hb b0
        replace b1 := cell_be hb b1
        replace H := H.step hb
        clear hb
        have xj := XJ.out w2 H.bel
        have e1 : at_.tmod (k : Int) = t := HT.out.symm
        have e2 : (t + (k : Int)) % (k : Int) = (j : Int) := HJ.out.symm
        have p0 : (0 : Int) ≤ (j : Int) := Int.natCast_nonneg _
        have p1 : (j : Int) < (k : Int) := by omega
        go_wp2_with fail
        clear e1 e2 xj b0 b1 hsz
        have hsz := H.sz
        go_upto_region 18 with fail
        go_cut [15, 16] (fun s15 s16 wx => s16 = .bool true ∧ NewAt w a a (a - v) s15 wx)
        case first =>
          go_region_held3 (fun w' => w'.cell? ⟨w.heap.size, 0, none⟩ = some (.int .i64 (hiW a)) ∧ w'.cell? ⟨w.heap.size, 1, none⟩ = some (.int .u64 (loW a))) ((refine ⟨?_, ?_⟩ <;> (repeat (first | (with_reducible refine cell_dr ?_) | (with_reducible refine cell_al ?_) | (with_reducible refine cell_be hbp ?_) | (with_reducible refine cell_be hbo ?_) | (with_reducible refine cell_set ?_ (by omega)))) <;> (with_reducible first | exact a0 | exact a1))) (first | (go_at_call 8; refine (HOv.out _).mono ?_; rintro e wo ⟨rfl, hbo⟩; have hzo := hbo.size; (try simp at hzo); (try (have k0 : wo.cell? ⟨w2.heap.size, 0, none⟩ = some (.int .i64 0) := cell_be hbo (cell_new0 rfl))); (try (have k1 : wo.cell? ⟨w2.heap.size, 1, none⟩ = some (.int .u64 0) := cell_be hbo (cell_new1 rfl))); (try (have k2 : wo.frozen? ⟨w2.heap.size, 0, none⟩ = false := frozen_be hbo (by simp) (frozen_new rfl 0))); (try (have k3 : wo.frozen? ⟨w2.heap.size, 1, none⟩ = false := frozen_be hbo (by simp) (frozen_new rfl 1)))) | (go_at_call 10; refine (HDv.out _).mono ?_; rintro e wp ⟨rfl, hbp⟩; have hzp := hbp.size; (try simp at hzp); (try (have m0 : wp.cell? ⟨w2.heap.size, 0, none⟩ = some (.int .i64 0) := cell_be hbp k0)); (try (have m1 : wp.cell? ⟨w2.heap.size, 1, none⟩ = some (.int .u64 0) := cell_be hbp k1)); (try (have m2 : wp.frozen? ⟨w2.heap.size, 0, none⟩ = false := frozen_be hbp (by first | omega | (simp; omega)) k2)); (try (have m3 : wp.frozen? ⟨w2.heap.size, 1, none⟩ = false := frozen_be hbp (by first | omega | (simp; omega)) k3)); (try (have j0 : wp.cell? ⟨wo.heap.size, 0, none⟩ = some (.int .i64 0) := cell_be hbp (cell_new0 rfl))); (try (have j1 : wp.cell? ⟨wo.heap.size, 1, none⟩ = some (.int .u64 0) := cell_be hbp (cell_new1 rfl))); (try (have j2 : wp.frozen? ⟨wo.heap.size, 0, none⟩ = false := frozen_be hbp (by simp) (frozen_new rfl 0))); (try (have j3 : wp.frozen? ⟨wo.heap.size, 1, none⟩ = false := frozen_be hbp (by simp) (frozen_new rfl 1)))))
          · go_wp2_with fail
            go_meet
            have hb0 := bel_step (Below.refl _ w2).drew (Nat.le_refl _) hbo
            have hb1 := bel_step hb0 (Nat.le_refl _) hbp
            have hz1 := hb1.size
            have hbf := hb1.alloc hb1.size (.cells #[.int .i64 (hiW (a - v)), .int .u64 (loW (a - v))] 25)
            exact ⟨rfl, _, rfl, by omega, H.step hbf, cell_new0 rfl, cell_new1 rfl⟩
          · go_wp2_with fail
            go_meet
            have hb0 := bel_step (Below.refl _ w2).drew (Nat.le_refl _) hbo
            have hz0 := hb0.size
            have hb1 := bel_step (hb0.alloc hb0.size (.cells #[.int .i64 0, .int .u64 0] 25)) (Nat.le_refl _) hbp
            have t := two_set (x := .int .i64 (hiW (a - v))) (y := .int .u64 (loW (a - v))) j0 j1
            have hbf := bel_far hb1 hz0 0 1 (.int .i64 (hiW (a - v))) (.int .u64 (loW (a - v)))
            exact ⟨rfl, _, rfl, by omega, H.step hbf, t.1, t.2⟩
          · go_wp2_with fail
            go_meet
            have hb1 := bel_step (bel_step ((Below.refl _ w2).alloc (Nat.le_refl _) (.cells #[.int .i64 0, .int .u64 0] 25)).drew (Nat.le_refl _) hbo) (Nat.le_refl _) hbp
            have t := two_set (x := .int .i64 (hiW (a - v))) (y := .int .u64 (loW (a - v))) m0 m1
            have hbf := bel_far hb1 (Nat.le_refl _) 0 1 (.int .i64 (hiW (a - v))) (.int .u64 (loW (a - v)))
            exact ⟨rfl, _, rfl, by omega, H.step hbf, t.1, t.2⟩
        case rest =>
          obtain ⟨rfl, g, rfl, hg, H', g0, g1⟩ := hcut
          clear H a0 a1 hsz HDv
          have H := H'; clear H'
          have hsz := H.sz
          have hgz : g < wc.heap.size := World.block_lt_of_cell? _ _ g0
          go_upto_region 19 with fail
          go_cut [17, 18] (fun s17 s18 wx => s18 = .bool true ∧ wx.cell? ⟨g, 0, none⟩ = some (.int .i64 (hiW (a - v))) ∧ wx.cell? ⟨g, 1, none⟩ = some (.int .u64 (loW (a - v))) ∧ NewAt w a a a s17 wx)
          case first =>
            go_region_held3 (fun w' => w'.cell? ⟨g, 0, none⟩ = some (.int .i64 (hiW (a - v))) ∧ w'.cell? ⟨g, 1, none⟩ = some (.int .u64 (loW (a - v)))) ((refine ⟨?_, ?_⟩ <;> (repeat (first | (with_reducible refine cell_dr ?_) | (with_reducible refine cell_al ?_) | (with_reducible refine cell_be hbp ?_) | (with_reducible refine cell_be hbo ?_) | (with_reducible refine cell_set ?_ (by omega)))) <;> (with_reducible first | exact g0 | exact g1))) (first | (go_at_call 8; refine (HOv.out _).mono ?_; rintro e wo ⟨rfl, hbo⟩; have hzo := hbo.size; (try simp at hzo); (try (have k0 : wo.cell? ⟨wc.heap.size, 0, none⟩ = some (.int .i64 0) := cell_be hbo (cell_new0 rfl))); (try (have k1 : wo.cell? ⟨wc.heap.size, 1, none⟩ = some (.int .u64 0) := cell_be hbo (cell_new1 rfl))); (try (have k2 : wo.frozen? ⟨wc.heap.size, 0, none⟩ = false := frozen_be hbo (by simp) (frozen_new rfl 0))); (try (have k3 : wo.frozen? ⟨wc.heap.size, 1, none⟩ = false := frozen_be hbo (by simp) (frozen_new rfl 1)))) | (go_at_call 7; refine (HAv.out _).mono ?_; rintro e wp ⟨rfl, hbp⟩; have hzp := hbp.size; (try simp at hzp); (try (have m0 : wp.cell? ⟨wc.heap.size, 0, none⟩ = some (.int .i64 0) := cell_be hbp k0)); (try (have m1 : wp.cell? ⟨wc.heap.size, 1, none⟩ = some (.int .u64 0) := cell_be hbp k1)); (try (have m2 : wp.frozen? ⟨wc.heap.size, 0, none⟩ = false := frozen_be hbp (by first | omega | (simp; omega)) k2)); (try (have m3 : wp.frozen? ⟨wc.heap.size, 1, none⟩ = false := frozen_be hbp (by first | omega | (simp; omega)) k3)); (try (have j0 : wp.cell? ⟨wo.heap.size, 0, none⟩ = some (.int .i64 0) := cell_be hbp (cell_new0 rfl))); (try (have j1 : wp.cell? ⟨wo.heap.size, 1, none⟩ = some (.int .u64 0) := cell_be hbp (cell_new1 rfl))); (try (have j2 : wp.frozen? ⟨wo.heap.size, 0, none⟩ = false := frozen_be hbp (by simp) (frozen_new rfl 0))); (try (have j3 : wp.frozen? ⟨wo.heap.size, 1, none⟩ = false := frozen_be hbp (by simp) (frozen_new rfl 1)))))
            · go_wp2_with fail
              go_meet
              have hb0 := bel_step (Below.refl _ wc).drew (Nat.le_refl _) hbo
              have hb1 := bel_step hb0 (Nat.le_refl _) hbp
              have hz1 := hb1.size
              have hbf := hb1.alloc hb1.size (.cells #[.int .i64 (hiW (a)), .int .u64 (loW (a))] 25)
              exact ⟨rfl, cell_be (hbf) g0, cell_be (hbf) g1, _, rfl, by omega, H.step hbf, cell_new0 rfl, cell_new1 rfl⟩
            · go_wp2_with fail
              go_meet
              have hb0 := bel_step (Below.refl _ wc).drew (Nat.le_refl _) hbo
              have hz0 := hb0.size
              have hb1 := bel_step (hb0.alloc hb0.size (.cells #[.int .i64 0, .int .u64 0] 25)) (Nat.le_refl _) hbp
              have t := two_set (x := .int .i64 (hiW (a))) (y := .int .u64 (loW (a))) j0 j1
              have hbf := bel_far hb1 hz0 0 1 (.int .i64 (hiW (a))) (.int .u64 (loW (a)))
              exact ⟨rfl, cell_be (hbf) g0, cell_be (hbf) g1, _, rfl, by omega, H.step hbf, t.1, t.2⟩
            · go_wp2_with fail
              go_meet
              have hb1 := bel_step (bel_step ((Below.refl _ wc).alloc (Nat.le_refl _) (.cells #[.int .i64 0, .int .u64 0] 25)).drew (Nat.le_refl _) hbo) (Nat.le_refl _) hbp
              have t := two_set (x := .int .i64 (hiW (a))) (y := .int .u64 (loW (a))) m0 m1
              have hbf := bel_far hb1 (Nat.le_refl _) 0 1 (.int .i64 (hiW (a))) (.int .u64 (loW (a)))
              exact ⟨rfl, cell_be (hbf) g0, cell_be (hbf) g1, _, rfl, by omega, H.step hbf, t.1, t.2⟩
          case rest =>
            obtain ⟨rfl, g0', g1', h, rfl, hh, H', h0, h1⟩ := hcut
            clear H hsz HOv HAv g0 g1
            have g0 := g0'; clear g0'
            have g1 := g1'; clear g1'
            have H := H'; clear H'
            have a0 := H.a0
            have a1 := H.a1
            have q1 : (hiW a == hiW a) = true := by simp
            have hcv : (decide (cc < 0) = decide (0 < v)) ∧ ((cc == 0) = (v == 0)) ∧ (cc = 1 ∨ cc = 0 ∨ cc = -1) := by
              rcases hcm with ⟨h1, rfl⟩ | ⟨rfl, rfl⟩ | ⟨h1, rfl⟩
              · exact ⟨by rw [decide_eq_false (by omega), decide_eq_false (by omega)], by rw [beq_eq_false_iff_ne.2 (by omega), beq_eq_false_iff_ne.2 (by omega)], by omega⟩
              · exact ⟨rfl, rfl, by omega⟩
              · exact ⟨by rw [decide_eq_true (by omega), decide_eq_true (by omega)], by rw [beq_eq_false_iff_ne.2 (by omega), beq_eq_false_iff_ne.2 (by omega)], by omega⟩
            obtain ⟨v1, v2, _⟩ := hcv
            clear hcm
            go_wp2_with fail
            with_reducible refine (HC.out _).mono ?_
            rintro e w3 ⟨rfl, hb⟩
            replace g0 := cell_be hb g0
            replace g1 := cell_be hb g1
            replace a0 := cell_be hb a0
            replace a1 := cell_be hb a1
            replace H := H.step hb
            clear hb
            go_wp2_with fail
            with_reducible refine (HC.out _).mono ?_
            rintro e w4 ⟨rfl, hb⟩
            replace H := H.step hb
            clear hb
            go_wp2
            go_ret
            exact ⟨rfl, H.bel⟩
set_option maxRecDepth 100000 in
set_option maxHeartbeats 4000000 in
theorem order_more (w : World) (A : Option Addr) (m c : Nat) (x : Nat → Int) (hx : Ints w A 300 x) (hm : 300 < m) (hc : m ≤ c) (hc2 : c ≤ 9223372036854775807) (hbd : ∀ j, j < 300 → -9223372036854775808 ≤ x j ∧ x j ≤ 9223372036854775807) (at_ : Int) (ha : -9223372036854775808 ≤ at_ ∧ at_ ≤ 9223372036854775807) :
    Calls Try.prog 3 #[.slice A m c, .int .i64 at_] w fun e w' => e = .returned (.bool true) ∧ Below w.heap.size w w' := by
  obtain ⟨n, hN⟩ : ∃ n : Nat, n = 300 := ⟨_, rfl⟩
  have HX := Lib.hid (show Ints w A n x by rw [hN]; exact hx)
  have HBD := Lib.hid (show ∀ j, j < n → -9223372036854775808 ≤ x j ∧ x j ≤ 9223372036854775807 by rw [hN]; exact hbd)
  clear hbd hx
  have hn : n ≤ 300 := by omega
  have HN := Lib.hid hN; clear hN
  obtain ⟨ha0, ha1⟩ := ha
  have d0 : decide (300 < (m : Int)) = true := by simp; omega
  have d1 : (300 : Int) ≤ (c : Int) := by omega
  have d2 : 300 ≤ c := by omega
  go_enter Try.func3, Try.ntmps3
  go_wp2_with fail
  rw [← HN.out]
  go_loopw [7] (OrdRel w n x) (fun i _ => n - (intOf i).toNat)
  case atStart => exact ⟨0, by omega, rfl, OrdAt.start w⟩
  case round =>
    obtain ⟨k, hk, rfl, H⟩ := hrel
    by_cases hlt : k < n
    · obtain ⟨bb, off, rfl, hbb, hcell⟩ := HX.out (by omega)
      obtain ⟨j, hj⟩ : ∃ j, j = n - 1 - k := ⟨_, rfl⟩
      obtain ⟨a, hA⟩ : ∃ a, a = sumTo x k := ⟨_, rfl⟩
      obtain ⟨b, hB⟩ : ∃ b, b = sumTo (fun i => x (n - 1 - i)) k := ⟨_, rfl⟩
      obtain ⟨v, hv⟩ : ∃ v, v = x k := ⟨_, rfl⟩
      obtain ⟨u, hu⟩ : ∃ u, u = x j := ⟨_, rfl⟩
      have hvb := HBD.out k hlt
      have hub := HBD.out j (by omega)
      have HBD2 : ∀ i, i < n → -9223372036854775808 ≤ x (n - 1 - i) ∧ x (n - 1 - i) ≤ 9223372036854775807 := fun i hi => HBD.out _ (by omega)
      rw [← hv] at hvb
      rw [← hu] at hub
      have fa : fits a := by rw [hA]; exact sumTo_fits x n k hn hk HBD.out
      have fb : fits b := by rw [hB]; exact sumTo_fits _ n k hn hk HBD2
      have fv : fits v := fits_int v hvb.1 hvb.2
      have fu : fits u := fits_int u hub.1 hub.2
      have hA1 : a + v = sumTo x (k + 1) := by rw [hA, hv]; rfl
      have hB1 : b + u = sumTo (fun i => x (n - 1 - i)) (k + 1) := by rw [hB, hu, hj]; rfl
      have fa1 : fits (a + v) := by rw [hA1]; exact sumTo_fits x n (k + 1) hn (by omega) HBD.out
      have fb1 : fits (b + u) := by rw [hB1]; exact sumTo_fits _ n (k + 1) hn (by omega) HBD2
      have HOv := Lib.hid (fun w => of_any v w hvb.1 hvb.2)
      have HAv := Lib.hid (fun w => add_fit a v w fa fv fa1)
      have HOu := Lib.hid (fun w => of_any u w hub.1 hub.2)
      have HAu := Lib.hid (fun w => add_fit b u w fb fu fb1)
      have xk : wr.cell? ⟨bb, off + k, none⟩ = some (.int .i64 v) := by rw [hv]; exact (H.bel.cell (p := ⟨bb, off + k, none⟩) hbb).trans (hcell k hlt)
      have XJ := Lib.hid (fun (W : World) (h : Below w.heap.size w W) => show W.cell? ⟨bb, off + j, none⟩ = some (.int .i64 u) by rw [hu]; exact (h.cell (p := ⟨bb, off + j, none⟩) hbb).trans (hcell j (by omega)))
      rw [← hA, ← hB] at H
      have HA1 := Lib.hid hA1
      have HB1 := Lib.hid hB1
      have HJ := Lib.hid hj
      clear hA1 hA fa fv fa1 hv hB hB1 fb fu fb1 hu hcell HBD2 hj
      have i0 : (0 : Int) ≤ (k : Int) := Int.natCast_nonneg _
      have i1 : (k : Int) < (n : Int) := by omega
      have a0 := H.a0
      have a1 := H.a1
      have hsz := H.sz
      go_wp2_with fail
      go_upto_region 7 with fail
      go_cut [8, 9] (fun s8 s9 wx => s9 = .bool true ∧ NewAt w a b (a + v) s8 wx)
      case first =>
        go_region_held3 (fun w' => w'.cell? ⟨w.heap.size, 0, none⟩ = some (.int .i64 (hiW a)) ∧ w'.cell? ⟨w.heap.size, 1, none⟩ = some (.int .u64 (loW a)) ∧ w'.cell? ⟨bb, off + k, none⟩ = some (.int .i64 v)) ((refine ⟨?_, ?_, ?_⟩ <;> (repeat (first | (with_reducible refine cell_dr ?_) | (with_reducible refine cell_al ?_) | (with_reducible refine cell_be hbp ?_) | (with_reducible refine cell_be hbo ?_) | (with_reducible refine cell_set ?_ (by omega)))) <;> (with_reducible first | exact a0 | exact a1 | exact xk))) (first | (go_at_call 8; refine (HOv.out _).mono ?_; rintro e wo ⟨rfl, hbo⟩; have hzo := hbo.size; (try simp at hzo); (try (have k0 : wo.cell? ⟨wr.heap.size, 0, none⟩ = some (.int .i64 0) := cell_be hbo (cell_new0 rfl))); (try (have k1 : wo.cell? ⟨wr.heap.size, 1, none⟩ = some (.int .u64 0) := cell_be hbo (cell_new1 rfl))); (try (have k2 : wo.frozen? ⟨wr.heap.size, 0, none⟩ = false := frozen_be hbo (by simp) (frozen_new rfl 0))); (try (have k3 : wo.frozen? ⟨wr.heap.size, 1, none⟩ = false := frozen_be hbo (by simp) (frozen_new rfl 1)))) | (go_at_call 7; refine (HAv.out _).mono ?_; rintro e wp ⟨rfl, hbp⟩; have hzp := hbp.size; (try simp at hzp); (try (have m0 : wp.cell? ⟨wr.heap.size, 0, none⟩ = some (.int .i64 0) := cell_be hbp k0)); (try (have m1 : wp.cell? ⟨wr.heap.size, 1, none⟩ = some (.int .u64 0) := cell_be hbp k1)); (try (have m2 : wp.frozen? ⟨wr.heap.size, 0, none⟩ = false := frozen_be hbp (by first | omega | (simp; omega)) k2)); (try (have m3 : wp.frozen? ⟨wr.heap.size, 1, none⟩ = false := frozen_be hbp (by first | omega | (simp; omega)) k3)); (try (have j0 : wp.cell? ⟨wo.heap.size, 0, none⟩ = some (.int .i64 0) := cell_be hbp (cell_new0 rfl))); (try (have j1 : wp.cell? ⟨wo.heap.size, 1, none⟩ = some (.int .u64 0) := cell_be hbp (cell_new1 rfl))); (try (have j2 : wp.frozen? ⟨wo.heap.size, 0, none⟩ = false := frozen_be hbp (by simp) (frozen_new rfl 0))); (try (have j3 : wp.frozen? ⟨wo.heap.size, 1, none⟩ = false := frozen_be hbp (by simp) (frozen_new rfl 1)))))
        · go_wp2_with fail
          go_meet
          have hb0 := bel_step (Below.refl _ wr).drew (Nat.le_refl _) hbo
          have hb1 := bel_step hb0 (Nat.le_refl _) hbp
          have hz1 := hb1.size
          have hbf := hb1.alloc hb1.size (.cells #[.int .i64 (hiW (a + v)), .int .u64 (loW (a + v))] 25)
          exact ⟨rfl, _, rfl, by omega, H.step hbf, cell_new0 rfl, cell_new1 rfl⟩
        · go_wp2_with fail
          go_meet
          have hb0 := bel_step (Below.refl _ wr).drew (Nat.le_refl _) hbo
          have hz0 := hb0.size
          have hb1 := bel_step (hb0.alloc hb0.size (.cells #[.int .i64 0, .int .u64 0] 25)) (Nat.le_refl _) hbp
          have t := two_set (x := .int .i64 (hiW (a + v))) (y := .int .u64 (loW (a + v))) j0 j1
          have hbf := bel_far hb1 hz0 0 1 (.int .i64 (hiW (a + v))) (.int .u64 (loW (a + v)))
          exact ⟨rfl, _, rfl, by omega, H.step hbf, t.1, t.2⟩
        · go_wp2_with fail
          go_meet
          have hb1 := bel_step (bel_step ((Below.refl _ wr).alloc (Nat.le_refl _) (.cells #[.int .i64 0, .int .u64 0] 25)).drew (Nat.le_refl _) hbo) (Nat.le_refl _) hbp
          have t := two_set (x := .int .i64 (hiW (a + v))) (y := .int .u64 (loW (a + v))) m0 m1
          have hbf := bel_far hb1 (Nat.le_refl _) 0 1 (.int .i64 (hiW (a + v))) (.int .u64 (loW (a + v)))
          exact ⟨rfl, _, rfl, by omega, H.step hbf, t.1, t.2⟩
      case rest =>
        obtain ⟨rfl, g, rfl, hg, H', g0, g1⟩ := hcut
        clear H a0 a1 hsz xk HOv HAv
        have H := H'; clear H'
        have b0 := H.b0
        have b1 := H.b1
        have hsz := H.sz
        have xj := XJ.out wc H.bel
        have e1 : IntKind.i64.wrap ((n : Int) - 1) = (n : Int) - 1 := IntWalk.i64_in _ (by omega)
        have e2 : IntKind.i64.wrap ((n : Int) - 1 - (k : Int)) = (j : Int) := by rw [HJ.out]; rw [IntWalk.i64_in _ (by omega)]; omega
        have p0 : (0 : Int) ≤ (j : Int) := Int.natCast_nonneg _
        have p1 : (j : Int) < (n : Int) := by have := HJ.out; omega
        go_upto_region 8 with fail
        go_cut [10, 11] (fun s10 s11 wx => s11 = .bool true ∧ wx.cell? ⟨g, 0, none⟩ = some (.int .i64 (hiW (a + v))) ∧ wx.cell? ⟨g, 1, none⟩ = some (.int .u64 (loW (a + v))) ∧ NewAt w a b (b + u) s10 wx)
        case first =>
          go_region_held3 (fun w' => w'.cell? ⟨w.heap.size + 1, 0, none⟩ = some (.int .i64 (hiW b)) ∧ w'.cell? ⟨w.heap.size + 1, 1, none⟩ = some (.int .u64 (loW b)) ∧ w'.cell? ⟨bb, off + j, none⟩ = some (.int .i64 u)) ((refine ⟨?_, ?_, ?_⟩ <;> (repeat (first | (with_reducible refine cell_dr ?_) | (with_reducible refine cell_al ?_) | (with_reducible refine cell_be hbp ?_) | (with_reducible refine cell_be hbo ?_) | (with_reducible refine cell_set ?_ (by omega)))) <;> (with_reducible first | exact b0 | exact b1 | exact xj))) (first | (go_at_call 8; refine (HOu.out _).mono ?_; rintro e wo ⟨rfl, hbo⟩; have hzo := hbo.size; (try simp at hzo); (try (have k0 : wo.cell? ⟨wc.heap.size, 0, none⟩ = some (.int .i64 0) := cell_be hbo (cell_new0 rfl))); (try (have k1 : wo.cell? ⟨wc.heap.size, 1, none⟩ = some (.int .u64 0) := cell_be hbo (cell_new1 rfl))); (try (have k2 : wo.frozen? ⟨wc.heap.size, 0, none⟩ = false := frozen_be hbo (by simp) (frozen_new rfl 0))); (try (have k3 : wo.frozen? ⟨wc.heap.size, 1, none⟩ = false := frozen_be hbo (by simp) (frozen_new rfl 1)))) | (go_at_call 7; refine (HAu.out _).mono ?_; rintro e wp ⟨rfl, hbp⟩; have hzp := hbp.size; (try simp at hzp); (try (have m0 : wp.cell? ⟨wc.heap.size, 0, none⟩ = some (.int .i64 0) := cell_be hbp k0)); (try (have m1 : wp.cell? ⟨wc.heap.size, 1, none⟩ = some (.int .u64 0) := cell_be hbp k1)); (try (have m2 : wp.frozen? ⟨wc.heap.size, 0, none⟩ = false := frozen_be hbp (by first | omega | (simp; omega)) k2)); (try (have m3 : wp.frozen? ⟨wc.heap.size, 1, none⟩ = false := frozen_be hbp (by first | omega | (simp; omega)) k3)); (try (have j0 : wp.cell? ⟨wo.heap.size, 0, none⟩ = some (.int .i64 0) := cell_be hbp (cell_new0 rfl))); (try (have j1 : wp.cell? ⟨wo.heap.size, 1, none⟩ = some (.int .u64 0) := cell_be hbp (cell_new1 rfl))); (try (have j2 : wp.frozen? ⟨wo.heap.size, 0, none⟩ = false := frozen_be hbp (by simp) (frozen_new rfl 0))); (try (have j3 : wp.frozen? ⟨wo.heap.size, 1, none⟩ = false := frozen_be hbp (by simp) (frozen_new rfl 1)))))
          · go_wp2_with fail
            go_meet
            have hb0 := bel_step (Below.refl _ wc).drew (Nat.le_refl _) hbo
            have hb1 := bel_step hb0 (Nat.le_refl _) hbp
            have hz1 := hb1.size
            have hbf := hb1.alloc hb1.size (.cells #[.int .i64 (hiW (b + u)), .int .u64 (loW (b + u))] 25)
            exact ⟨rfl, cell_be (hbf) g0, cell_be (hbf) g1, _, rfl, by omega, H.step hbf, cell_new0 rfl, cell_new1 rfl⟩
          · go_wp2_with fail
            go_meet
            have hb0 := bel_step (Below.refl _ wc).drew (Nat.le_refl _) hbo
            have hz0 := hb0.size
            have hb1 := bel_step (hb0.alloc hb0.size (.cells #[.int .i64 0, .int .u64 0] 25)) (Nat.le_refl _) hbp
            have t := two_set (x := .int .i64 (hiW (b + u))) (y := .int .u64 (loW (b + u))) j0 j1
            have hbf := bel_far hb1 hz0 0 1 (.int .i64 (hiW (b + u))) (.int .u64 (loW (b + u)))
            exact ⟨rfl, cell_be (hbf) g0, cell_be (hbf) g1, _, rfl, by omega, H.step hbf, t.1, t.2⟩
          · go_wp2_with fail
            go_meet
            have hb1 := bel_step (bel_step ((Below.refl _ wc).alloc (Nat.le_refl _) (.cells #[.int .i64 0, .int .u64 0] 25)).drew (Nat.le_refl _) hbo) (Nat.le_refl _) hbp
            have t := two_set (x := .int .i64 (hiW (b + u))) (y := .int .u64 (loW (b + u))) m0 m1
            have hbf := bel_far hb1 (Nat.le_refl _) 0 1 (.int .i64 (hiW (b + u))) (.int .u64 (loW (b + u)))
            exact ⟨rfl, cell_be (hbf) g0, cell_be (hbf) g1, _, rfl, by omega, H.step hbf, t.1, t.2⟩
        case rest =>
          clear e1 e2
          obtain ⟨rfl, g0', g1', h, rfl, hh, H', h0, h1⟩ := hcut
          clear H b0 b1 hsz xj HOu HAu g0 g1 XJ
          have g0 := g0'; clear g0'
          have g1 := g1'; clear g1'
          obtain ⟨bel, a0, a1, b0, b1, fa0, fa1, fb0, fb1⟩ := H'
          have hsz : w.heap.size + 1 < wc.heap.size := World.block_lt_of_cell? _ _ b0
          have hsz0 : w.heap.size < wc.heap.size := by omega
          have HH := Lib.hid (show OrdAt w a b wc from ⟨bel, a0, a1, b0, b1, fa0, fa1, fb0, fb1⟩)
          clear bel
          go_wp2_with fail
          go_region_held3 (fun w' => w'.cell? ⟨g, 0, none⟩ = some (.int .i64 (hiW (a + v))) ∧ w'.cell? ⟨g, 1, none⟩ = some (.int .u64 (loW (a + v))) ∧ w'.cell? ⟨h, 0, none⟩ = some (.int .i64 (hiW (b + u))) ∧ w'.cell? ⟨h, 1, none⟩ = some (.int .u64 (loW (b + u)))) ((refine ⟨?_, ?_, ?_, ?_⟩ <;> (repeat (first | (with_reducible refine cell_dr ?_) | (with_reducible refine cell_set ?_ (by omega)))) <;> (with_reducible first | exact g0 | exact g1 | exact h0 | exact h1))) (first | fail)
          go_wp2
          exact ⟨⟨k + 1, by omega, by go_num, by rw [← HA1.out, ← HB1.out]; exact (HH.out.set_ab _ _).dr⟩, by simp [intOf]; omega⟩
    · obtain rfl : k = n := by omega
      rw [sumTo_back] at H
      obtain ⟨a, hA⟩ : ∃ a, a = sumTo x k := ⟨_, rfl⟩
      have ha2 := sumTo_bd x k k (Nat.le_refl _) HBD.out
      rw [← hA] at H ha2
      have fa : fits a := by unfold fits; omega
      have a0 := H.a0
      have a1 := H.a1
      have b0 := H.b0
      have b1 := H.b1
      have hsz := H.sz
      by_cases hz : k = 0
      · obtain rfl : a = 0 := by subst hz; rw [hA]; rfl
        subst hz
        clear hA ha2 fa
        rw [hiW_zero] at a0 b0
        rw [loW_zero] at a1 b1
        go_wp2_with fail
        with_reducible refine (of_any 7 _ (by decide) (by decide)).mono ?_
        rintro e w1 ⟨rfl, hb⟩
        replace a0 := cell_be hb a0
        replace a1 := cell_be hb a1
        replace b0 := cell_be hb b0
        replace b1 := cell_be hb b1
        replace H := H.step hb
        clear hb
        go_wp2_with fail
        with_reducible refine (int_yes 7 _ (by decide)).mono ?_
        rintro e w2 ⟨rfl, hb⟩
        replace a0 := cell_be hb a0
        replace a1 := cell_be hb a1
        replace b0 := cell_be hb b0
        replace b1 := cell_be hb b1
        replace H := H.step hb
        clear hb
        go_wp2
        go_ret
        exact ⟨rfl, H.bel⟩
      · have hpos : 0 < k := by omega
        have tb := tmod_bd at_ (k : Int) (by omega)
        obtain ⟨t, ht⟩ : ∃ t, t = at_.tmod (k : Int) := ⟨_, rfl⟩
        rw [← ht] at tb
        obtain ⟨tb0, tb1⟩ := tb
        obtain ⟨j, hj⟩ : ∃ j : Nat, (j : Int) = (t + (k : Int)) % (k : Int) := ⟨((t + (k : Int)) % (k : Int)).toNat, by rw [Int.toNat_of_nonneg (Int.emod_nonneg _ (by omega))]⟩
        have hjl : j < k := by have := Int.emod_lt_of_pos (t + (k : Int)) (show (0 : Int) < k by omega); omega
        obtain ⟨bb, off, rfl, hbb, hcell⟩ := HX.out (by omega)
        obtain ⟨v, hv⟩ : ∃ v, v = x j := ⟨_, rfl⟩
        have hvb := HBD.out j hjl
        rw [← hv] at hvb
        have fv : fits v := fits_int v hvb.1 hvb.2
        have fd : fits (a - v) := by unfold fits; omega
        have HOv := Lib.hid (fun w => of_any v w hvb.1 hvb.2)
        have HDv := Lib.hid (fun w => sub_fit a v w fa fv fd)
        have HAv := Lib.hid (fun w => add_fit (a - v) v w fd fv (by rw [show a - v + v = a by omega]; exact fa))
        rw [show a - v + v = a by omega] at HAv
        have HC := Lib.hid (fun w => cmp_any (a - v) a w fd fa)
        have hcm := cmp_less a v
        obtain ⟨cc, hcc⟩ : ∃ cc, cc = cmpI (a - v) a := ⟨_, rfl⟩
        rw [← hcc] at hcm HC
        have XJ := Lib.hid (fun (W : World) (h : Below w.heap.size w W) => show W.cell? ⟨bb, off + j, none⟩ = some (.int .i64 v) by rw [hv]; exact (h.cell (p := ⟨bb, off + j, none⟩) hbb).trans (hcell j hjl))
        clear hA ha2 fa hv fv fd hcc hcell hz
        have HT := Lib.hid ht; clear ht
        have HJ := Lib.hid hj; clear hj
        go_wp2_with fail
        with_reducible refine (of_any 7 _ (by decide) (by decide)).mono ?_
        rintro e w1 ⟨rfl, hb⟩
        replace a0 := cell_be hb a0
        replace a1 := cell_be hb a1
        replace b0 := cell_be hb b0
        replace b1 := cell_be hb b1
        replace H := H.step hb
        clear hb
        go_wp2_with fail
        with_reducible refine (int_yes 7 _ (by decide)).mono ?_
        rintro e w2 ⟨rfl, hb⟩
        replace a0 := cell_be hb a0
        replace a1 := cell_be hb a1
        replace b0 := cell_be hb b0
        replace b1 := cell_be hb b1
        replace H := H.step hb
        clear hb
        have xj := XJ.out w2 H.bel
        have e1 : at_.tmod (k : Int) = t := HT.out.symm
        have e2 : (t + (k : Int)) % (k : Int) = (j : Int) := HJ.out.symm
        have p0 : (0 : Int) ≤ (j : Int) := Int.natCast_nonneg _
        have p1 : (j : Int) < (k : Int) := by omega
        go_wp2_with fail
        clear e1 e2 xj b0 b1 hsz
        have hsz := H.sz
        go_upto_region 18 with fail
        go_cut [15, 16] (fun s15 s16 wx => s16 = .bool true ∧ NewAt w a a (a - v) s15 wx)
        case first =>
          go_region_held3 (fun w' => w'.cell? ⟨w.heap.size, 0, none⟩ = some (.int .i64 (hiW a)) ∧ w'.cell? ⟨w.heap.size, 1, none⟩ = some (.int .u64 (loW a))) ((refine ⟨?_, ?_⟩ <;> (repeat (first | (with_reducible refine cell_dr ?_) | (with_reducible refine cell_al ?_) | (with_reducible refine cell_be hbp ?_) | (with_reducible refine cell_be hbo ?_) | (with_reducible refine cell_set ?_ (by omega)))) <;> (with_reducible first | exact a0 | exact a1))) (first | (go_at_call 8; refine (HOv.out _).mono ?_; rintro e wo ⟨rfl, hbo⟩; have hzo := hbo.size; (try simp at hzo); (try (have k0 : wo.cell? ⟨w2.heap.size, 0, none⟩ = some (.int .i64 0) := cell_be hbo (cell_new0 rfl))); (try (have k1 : wo.cell? ⟨w2.heap.size, 1, none⟩ = some (.int .u64 0) := cell_be hbo (cell_new1 rfl))); (try (have k2 : wo.frozen? ⟨w2.heap.size, 0, none⟩ = false := frozen_be hbo (by simp) (frozen_new rfl 0))); (try (have k3 : wo.frozen? ⟨w2.heap.size, 1, none⟩ = false := frozen_be hbo (by simp) (frozen_new rfl 1)))) | (go_at_call 10; refine (HDv.out _).mono ?_; rintro e wp ⟨rfl, hbp⟩; have hzp := hbp.size; (try simp at hzp); (try (have m0 : wp.cell? ⟨w2.heap.size, 0, none⟩ = some (.int .i64 0) := cell_be hbp k0)); (try (have m1 : wp.cell? ⟨w2.heap.size, 1, none⟩ = some (.int .u64 0) := cell_be hbp k1)); (try (have m2 : wp.frozen? ⟨w2.heap.size, 0, none⟩ = false := frozen_be hbp (by first | omega | (simp; omega)) k2)); (try (have m3 : wp.frozen? ⟨w2.heap.size, 1, none⟩ = false := frozen_be hbp (by first | omega | (simp; omega)) k3)); (try (have j0 : wp.cell? ⟨wo.heap.size, 0, none⟩ = some (.int .i64 0) := cell_be hbp (cell_new0 rfl))); (try (have j1 : wp.cell? ⟨wo.heap.size, 1, none⟩ = some (.int .u64 0) := cell_be hbp (cell_new1 rfl))); (try (have j2 : wp.frozen? ⟨wo.heap.size, 0, none⟩ = false := frozen_be hbp (by simp) (frozen_new rfl 0))); (try (have j3 : wp.frozen? ⟨wo.heap.size, 1, none⟩ = false := frozen_be hbp (by simp) (frozen_new rfl 1)))))
          · go_wp2_with fail
            go_meet
            have hb0 := bel_step (Below.refl _ w2).drew (Nat.le_refl _) hbo
            have hb1 := bel_step hb0 (Nat.le_refl _) hbp
            have hz1 := hb1.size
            have hbf := hb1.alloc hb1.size (.cells #[.int .i64 (hiW (a - v)), .int .u64 (loW (a - v))] 25)
            exact ⟨rfl, _, rfl, by omega, H.step hbf, cell_new0 rfl, cell_new1 rfl⟩
          · go_wp2_with fail
            go_meet
            have hb0 := bel_step (Below.refl _ w2).drew (Nat.le_refl _) hbo
            have hz0 := hb0.size
            have hb1 := bel_step (hb0.alloc hb0.size (.cells #[.int .i64 0, .int .u64 0] 25)) (Nat.le_refl _) hbp
            have t := two_set (x := .int .i64 (hiW (a - v))) (y := .int .u64 (loW (a - v))) j0 j1
            have hbf := bel_far hb1 hz0 0 1 (.int .i64 (hiW (a - v))) (.int .u64 (loW (a - v)))
            exact ⟨rfl, _, rfl, by omega, H.step hbf, t.1, t.2⟩
          · go_wp2_with fail
            go_meet
            have hb1 := bel_step (bel_step ((Below.refl _ w2).alloc (Nat.le_refl _) (.cells #[.int .i64 0, .int .u64 0] 25)).drew (Nat.le_refl _) hbo) (Nat.le_refl _) hbp
            have t := two_set (x := .int .i64 (hiW (a - v))) (y := .int .u64 (loW (a - v))) m0 m1
            have hbf := bel_far hb1 (Nat.le_refl _) 0 1 (.int .i64 (hiW (a - v))) (.int .u64 (loW (a - v)))
            exact ⟨rfl, _, rfl, by omega, H.step hbf, t.1, t.2⟩
        case rest =>
          obtain ⟨rfl, g, rfl, hg, H', g0, g1⟩ := hcut
          clear H a0 a1 hsz HDv
          have H := H'; clear H'
          have hsz := H.sz
          have hgz : g < wc.heap.size := World.block_lt_of_cell? _ _ g0
          go_upto_region 19 with fail
          go_cut [17, 18] (fun s17 s18 wx => s18 = .bool true ∧ wx.cell? ⟨g, 0, none⟩ = some (.int .i64 (hiW (a - v))) ∧ wx.cell? ⟨g, 1, none⟩ = some (.int .u64 (loW (a - v))) ∧ NewAt w a a a s17 wx)
          case first =>
            go_region_held3 (fun w' => w'.cell? ⟨g, 0, none⟩ = some (.int .i64 (hiW (a - v))) ∧ w'.cell? ⟨g, 1, none⟩ = some (.int .u64 (loW (a - v)))) ((refine ⟨?_, ?_⟩ <;> (repeat (first | (with_reducible refine cell_dr ?_) | (with_reducible refine cell_al ?_) | (with_reducible refine cell_be hbp ?_) | (with_reducible refine cell_be hbo ?_) | (with_reducible refine cell_set ?_ (by omega)))) <;> (with_reducible first | exact g0 | exact g1))) (first | (go_at_call 8; refine (HOv.out _).mono ?_; rintro e wo ⟨rfl, hbo⟩; have hzo := hbo.size; (try simp at hzo); (try (have k0 : wo.cell? ⟨wc.heap.size, 0, none⟩ = some (.int .i64 0) := cell_be hbo (cell_new0 rfl))); (try (have k1 : wo.cell? ⟨wc.heap.size, 1, none⟩ = some (.int .u64 0) := cell_be hbo (cell_new1 rfl))); (try (have k2 : wo.frozen? ⟨wc.heap.size, 0, none⟩ = false := frozen_be hbo (by simp) (frozen_new rfl 0))); (try (have k3 : wo.frozen? ⟨wc.heap.size, 1, none⟩ = false := frozen_be hbo (by simp) (frozen_new rfl 1)))) | (go_at_call 7; refine (HAv.out _).mono ?_; rintro e wp ⟨rfl, hbp⟩; have hzp := hbp.size; (try simp at hzp); (try (have m0 : wp.cell? ⟨wc.heap.size, 0, none⟩ = some (.int .i64 0) := cell_be hbp k0)); (try (have m1 : wp.cell? ⟨wc.heap.size, 1, none⟩ = some (.int .u64 0) := cell_be hbp k1)); (try (have m2 : wp.frozen? ⟨wc.heap.size, 0, none⟩ = false := frozen_be hbp (by first | omega | (simp; omega)) k2)); (try (have m3 : wp.frozen? ⟨wc.heap.size, 1, none⟩ = false := frozen_be hbp (by first | omega | (simp; omega)) k3)); (try (have j0 : wp.cell? ⟨wo.heap.size, 0, none⟩ = some (.int .i64 0) := cell_be hbp (cell_new0 rfl))); (try (have j1 : wp.cell? ⟨wo.heap.size, 1, none⟩ = some (.int .u64 0) := cell_be hbp (cell_new1 rfl))); (try (have j2 : wp.frozen? ⟨wo.heap.size, 0, none⟩ = false := frozen_be hbp (by simp) (frozen_new rfl 0))); (try (have j3 : wp.frozen? ⟨wo.heap.size, 1, none⟩ = false := frozen_be hbp (by simp) (frozen_new rfl 1)))))
            · go_wp2_with fail
              go_meet
              have hb0 := bel_step (Below.refl _ wc).drew (Nat.le_refl _) hbo
              have hb1 := bel_step hb0 (Nat.le_refl _) hbp
              have hz1 := hb1.size
              have hbf := hb1.alloc hb1.size (.cells #[.int .i64 (hiW (a)), .int .u64 (loW (a))] 25)
              exact ⟨rfl, cell_be (hbf) g0, cell_be (hbf) g1, _, rfl, by omega, H.step hbf, cell_new0 rfl, cell_new1 rfl⟩
            · go_wp2_with fail
              go_meet
              have hb0 := bel_step (Below.refl _ wc).drew (Nat.le_refl _) hbo
              have hz0 := hb0.size
              have hb1 := bel_step (hb0.alloc hb0.size (.cells #[.int .i64 0, .int .u64 0] 25)) (Nat.le_refl _) hbp
              have t := two_set (x := .int .i64 (hiW (a))) (y := .int .u64 (loW (a))) j0 j1
              have hbf := bel_far hb1 hz0 0 1 (.int .i64 (hiW (a))) (.int .u64 (loW (a)))
              exact ⟨rfl, cell_be (hbf) g0, cell_be (hbf) g1, _, rfl, by omega, H.step hbf, t.1, t.2⟩
            · go_wp2_with fail
              go_meet
              have hb1 := bel_step (bel_step ((Below.refl _ wc).alloc (Nat.le_refl _) (.cells #[.int .i64 0, .int .u64 0] 25)).drew (Nat.le_refl _) hbo) (Nat.le_refl _) hbp
              have t := two_set (x := .int .i64 (hiW (a))) (y := .int .u64 (loW (a))) m0 m1
              have hbf := bel_far hb1 (Nat.le_refl _) 0 1 (.int .i64 (hiW (a))) (.int .u64 (loW (a)))
              exact ⟨rfl, cell_be (hbf) g0, cell_be (hbf) g1, _, rfl, by omega, H.step hbf, t.1, t.2⟩
          case rest =>
            obtain ⟨rfl, g0', g1', h, rfl, hh, H', h0, h1⟩ := hcut
            clear H hsz HOv HAv g0 g1
            have g0 := g0'; clear g0'
            have g1 := g1'; clear g1'
            have H := H'; clear H'
            have a0 := H.a0
            have a1 := H.a1
            have q1 : (hiW a == hiW a) = true := by simp
            have hcv : (decide (cc < 0) = decide (0 < v)) ∧ ((cc == 0) = (v == 0)) ∧ (cc = 1 ∨ cc = 0 ∨ cc = -1) := by
              rcases hcm with ⟨h1, rfl⟩ | ⟨rfl, rfl⟩ | ⟨h1, rfl⟩
              · exact ⟨by rw [decide_eq_false (by omega), decide_eq_false (by omega)], by rw [beq_eq_false_iff_ne.2 (by omega), beq_eq_false_iff_ne.2 (by omega)], by omega⟩
              · exact ⟨rfl, rfl, by omega⟩
              · exact ⟨by rw [decide_eq_true (by omega), decide_eq_true (by omega)], by rw [beq_eq_false_iff_ne.2 (by omega), beq_eq_false_iff_ne.2 (by omega)], by omega⟩
            obtain ⟨v1, v2, _⟩ := hcv
            clear hcm
            go_wp2_with fail
            with_reducible refine (HC.out _).mono ?_
            rintro e w3 ⟨rfl, hb⟩
            replace g0 := cell_be hb g0
            replace g1 := cell_be hb g1
            replace a0 := cell_be hb a0
            replace a1 := cell_be hb a1
            replace H := H.step hb
            clear hb
            go_wp2_with fail
            with_reducible refine (HC.out _).mono ?_
            rintro e w4 ⟨rfl, hb⟩
            replace H := H.step hb
            clear hb
            go_wp2
            go_ret
            exact ⟨rfl, H.bel⟩
theorem wideOrder_walk (w : World) (A : Option Addr) (n c : Nat) (x : Nat → Int) (hx : IntArg w A n c x) (at_ : Int) (ha : -9223372036854775808 ≤ at_ ∧ at_ ≤ 9223372036854775807) :
    Calls Try.prog 3 #[.slice A n c, .int .i64 at_] w fun e w' => e = .returned (.bool true) ∧ Below w.heap.size w w' := by
  rcases Nat.lt_or_ge 300 n with h | h
  · exact order_more w A n c x (hx.ints.take (by omega)) h hx.le hx.max (fun j hj => hx.bd j (by omega)) at_ ha
  · exact order_at w A n c x hx.ints h hx.bd at_ ha
end Go.Proofs.Ytohgpllonbplfaa

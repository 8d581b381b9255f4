/- Contracts of the inner functions of the package wide: Of, below, plus, minus. -/
import Derived.Test.YtohgpllonbplfaaDoorProg
import Derived.Test.YtohgpllonbplfaaDoorMem
import Derived.Test.YtohgpllonbplfaaDoorWideMath
import Derived.Test.YtohgpllonbplfaaDoorWordMath
import Derived.WalkKit
import Derived.WalkLawsBesides
import Derived.Laws.Externs
import Derived.KernelRfl
import Derived.Deep.QuietTactic
import Derived.BigQuiet
import Derived.Deep.RegionHeld3
import Derived.Outline
namespace Go.Proofs.YtohgpllonbplfaaDoor
open Go.RowKit
set_option linter.unusedVariables false

theorem bcell {W w1 : World} (hb : Below W.heap.size W w1) : (∀ b o, b < W.heap.size → w1.cell? ⟨b, o, none⟩ = W.cell? ⟨b, o, none⟩) ∧ (∀ b o, b < W.heap.size → w1.frozen? ⟨b, o, none⟩ = W.frozen? ⟨b, o, none⟩) :=
  ⟨fun b o h => hb.cell (p := ⟨b, o, none⟩) h, fun b o h => hb.frozen (p := ⟨b, o, none⟩) h⟩
theorem cell_al {w : World} {o : Obj} {p : Addr} {v : Value} (h : w.cell? p = some v) : (w.alloc o).cell? p = some v := by rw [World.cell?_alloc_lt _ _ _ (World.block_lt_of_cell? w _ h)]; exact h
theorem cell_be {w w' : World} (hb : Below w.heap.size w w') {p : Addr} {v : Value} (h : w.cell? p = some v) : w'.cell? p = some v := (hb.cell (World.block_lt_of_cell? w _ h)).trans h
theorem frozen_be {w w' : World} (hb : Below w.heap.size w w') {b k : Nat} (hlt : b < w.heap.size) (h : w.frozen? ⟨b, k, none⟩ = false) : w'.frozen? ⟨b, k, none⟩ = false := (hb.frozen (p := ⟨b, k, none⟩) hlt).trans h
theorem cell_dr {w : World} {p : Addr} {v : Value} (h : w.cell? p = some v) : w.drew.cell? p = some v := h
theorem cell_drN {w : World} {n : Nat} {p : Addr} {v : Value} (h : w.cell? p = some v) : (w.drewN n).cell? p = some v := h
theorem frozen_al {w : World} {o : Obj} {b k : Nat} (hb : b < w.heap.size) (h : w.frozen? ⟨b, k, none⟩ = false) : (w.alloc o).frozen? ⟨b, k, none⟩ = false := by
  rw [World.frozen?_of_block (w := w) (Below.heap_alloc w _ _ hb)]; exact h
theorem cell_new0 {w : World} {x y : Value} {t : TypeId} {n : Nat} (h : w.heap.size = n) : (w.alloc (.cells #[x, y] t)).cell? ⟨n, 0, none⟩ = some x := by subst h; simp
theorem cell_new1 {w : World} {x y : Value} {t : TypeId} {n : Nat} (h : w.heap.size = n) : (w.alloc (.cells #[x, y] t)).cell? ⟨n, 1, none⟩ = some y := by subst h; simp
theorem frozen_new {w : World} {x y : Value} {t : TypeId} {n : Nat} (h : w.heap.size = n) (k : Nat) : (w.alloc (.cells #[x, y] t)).frozen? ⟨n, k, none⟩ = false := by subst h; exact frozen_of_row _ _ _ _ _ (heap_alloc_new w _)
theorem two_set {w : World} {g : Nat} {x y u v : Value} (h0 : w.cell? ⟨g, 0, none⟩ = some u) (h1 : w.cell? ⟨g, 1, none⟩ = some v) : ((w.setCell ⟨g, 0, none⟩ x).setCell ⟨g, 1, none⟩ y).cell? ⟨g, 0, none⟩ = some x ∧ ((w.setCell ⟨g, 0, none⟩ x).setCell ⟨g, 1, none⟩ y).cell? ⟨g, 1, none⟩ = some y := by
  have h2 : (w.setCell ⟨g, 0, none⟩ x).cell? ⟨g, 1, none⟩ = some v := by rw [World.cell?_setCell_other _ _ _ _ (by simp)]; exact h1
  refine ⟨?_, World.cell?_setCell_same _ _ _ h2⟩
  rw [World.cell?_setCell_other _ _ _ _ (by simp)]
  exact World.cell?_setCell_same _ _ _ h0
theorem add64_run (x y c : Int) (hx : 0 ≤ x) (hy : 0 ≤ y) (hc0 : 0 ≤ c) (hc : c ≤ 1) (w : World) :
    (callFunc 29 #[.int .u64 x, .int .u64 y, .int .u64 c]).run Tryd.prog w = .ok (.value (.tuple #[.int .u64 ((x + y + c) % 18446744073709551616), .int .u64 ((x + y + c) / 18446744073709551616)])) w := by
  rw [run_callFunc_extern Tryd.func29 (by kernel_rfl) (by kernel_rfl) (by kernel_rfl) (e := add64Entry) (by kernel_rfl), run_add64 x y c hx hy hc0 hc]
  rfl
theorem of_any (n : Int) (w : World) (h0 : -9223372036854775808 ≤ n) (h1 : n ≤ 9223372036854775807) :
    Calls Tryd.prog 6 #[.int .i64 n] w fun e w' => e = .returned (.agg #[.int .i64 (hiW n), .int .u64 (loW n)]) ∧ Below w.heap.size w w' := by
  have e1 := Lib.hid (hiW_shift n h0 h1)
  have e2 := Lib.hid (show IntKind.u64.wrap n = loW n by rw [IntKind.wrap_u64]; rfl)
  go_enter Tryd.func6, Tryd.ntmps6
  go_wp2
  rw [e1.out, e2.out]
  exact bodyPost_ret (v := .agg #[.int .i64 (hiW n), .int .u64 (loW n)]) (by simp [results, Tryd.results6, go_sem]) rfl ⟨rfl, (Below.refl _ _).alloc (Nat.le_refl _) _⟩
theorem below_any (h l : Int) (w : World) :
    Calls Tryd.prog 17 #[.agg #[.int .i64 h, .int .u64 l]] w fun e w' => e = .returned (.bool (decide (h < 0))) ∧ w.alloc (.cells #[.int .i64 h, .int .u64 l] 24) = w' := by
  go_enter Tryd.func17, Tryd.ntmps17
  go_wp2
  go_ret
  exact ⟨rfl, rfl⟩
theorem below_yes (h l : Int) (w : World) (hh : h < 0) :
    Calls Tryd.prog 17 #[.agg #[.int .i64 h, .int .u64 l]] w fun e w' => e = .returned (.bool true) ∧ w.alloc (.cells #[.int .i64 h, .int .u64 l] 24) = w' :=
  (below_any h l w).mono fun _ _ ⟨e, hw⟩ => ⟨by rw [e, decide_eq_true hh], hw⟩
theorem below_no (h l : Int) (w : World) (hh : ¬ h < 0) :
    Calls Tryd.prog 17 #[.agg #[.int .i64 h, .int .u64 l]] w fun e w' => e = .returned (.bool false) ∧ w.alloc (.cells #[.int .i64 h, .int .u64 l] 24) = w' :=
  (below_any h l w).mono fun _ _ ⟨e, hw⟩ => ⟨by rw [e, decide_eq_false hh], hw⟩
theorem plus_any (a b : Int) (w : World) :
    Calls Tryd.prog 21 #[.agg #[.int .i64 (hiW a), .int .u64 (loW a)], .agg #[.int .i64 (hiW b), .int .u64 (loW b)]] w fun e w' => e = .returned (.agg #[.int .i64 (hiW (a + b)), .int .u64 (loW (a + b))]) ∧ Below w.heap.size w w' := by
  obtain ⟨ha0, ha1⟩ := hiW_bd a
  obtain ⟨hb0, hb1⟩ := hiW_bd b
  obtain ⟨la0, la1⟩ := loW_bd a
  obtain ⟨lb0, lb1⟩ := loW_bd b
  have e1 := add64_run (loW a) (loW b) 0 la0 lb0 (by omega) (by omega)
  rw [Int.add_zero, plus_lo] at e1
  obtain ⟨c, hc⟩ : ∃ c, c = (loW a + loW b) / 18446744073709551616 := ⟨_, rfl⟩
  have hc0 : 0 ≤ c ∧ c ≤ 1 := by omega
  rw [← hc] at e1
  have e2 := add64_run (IntKind.u64.wrap (hiW a)) (IntKind.u64.wrap (hiW b)) c (by rw [IntKind.wrap_u64]; omega) (by rw [IntKind.wrap_u64]; omega) hc0.1 hc0.2
  obtain ⟨h, hh⟩ : ∃ h, h = (IntKind.u64.wrap (hiW a) + IntKind.u64.wrap (hiW b) + c) % 18446744073709551616 := ⟨_, rfl⟩
  obtain ⟨d, hd⟩ : ∃ d, d = (IntKind.u64.wrap (hiW a) + IntKind.u64.wrap (hiW b) + c) / 18446744073709551616 := ⟨_, rfl⟩
  rw [← hh, ← hd] at e2
  have e3 := Lib.hid (show wrap64 h = hiW (a + b) by
    rw [hh, hc, IntKind.wrap_u64, IntKind.wrap_u64, ← plus_hi]; unfold wrap64; rfl)
  clear hc hh hd
  go_enter Tryd.func21, Tryd.ntmps21
  go_wp2
  rw [e3.out]
  exact bodyPost_ret (v := .agg #[.int .i64 (hiW (a + b)), .int .u64 (loW (a + b))]) (by simp [results, Tryd.results21, go_sem]) rfl ⟨rfl, (((Below.refl _ _).alloc (Nat.le_refl _) _).alloc (by simp) _).alloc (by simp; omega) _⟩
theorem plus_one (a : Int) (w : World) :
    Calls Tryd.prog 21 #[.agg #[.int .i64 (hiW a), .int .u64 (loW a)], .agg #[.int .i64 0, .int .u64 1]] w fun e w' => e = .returned (.agg #[.int .i64 (hiW (a + 1)), .int .u64 (loW (a + 1))]) ∧ Below w.heap.size w w' := by
  have h := plus_any a 1 w
  rw [show hiW 1 = 0 by decide, show loW 1 = 1 by decide] at h
  exact h
theorem minus_any (a : Int) (w : World) :
    Calls Tryd.prog 20 #[.agg #[.int .i64 (hiW a), .int .u64 (loW a)]] w fun e w' => e = .returned (.agg #[.int .i64 (hiW (-a)), .int .u64 (loW (-a))]) ∧ Below w.heap.size w w' := by
  obtain ⟨ha0, ha1⟩ := hiW_bd a
  obtain ⟨la0, la1⟩ := loW_bd a
  have e1 : bits BinOp.xor IntKind.i64 (-1) (hiW a) = hiW (-1 - a) := by
    rw [(not_parts a).1, WordMath.xor_i64_nat, Nat.xor_comm, ← WordMath.xor_i64_nat]
    exact WordMath.xor_neg_i64 _ ha0 ha1
  have e2 : bits BinOp.xor IntKind.u64 IntKind.u64.max (loW a) = loW (-1 - a) := by
    rw [(not_parts a).2, show IntKind.u64.max = 18446744073709551615 from rfl, u64_xor _ _ (by decide) (by decide) la0 (by omega), Nat.xor_comm, ← u64_xor _ _ la0 (by omega) (by decide) (by decide)]
    exact WordMath.xor_ones_u64 _ la0 (by omega)
  have e3 := Lib.hid (minus_eq a)
  go_enter Tryd.func20, Tryd.ntmps20
  go_wp2_with fail
  with_reducible refine (plus_one (-1 - a) _).mono ?_
  rintro e w1 ⟨rfl, hb⟩
  obtain ⟨hc, hf⟩ := bcell hb
  have hz : w.heap.size + 1 < w1.heap.size := by have := hb.size; simp at this; omega
  rw [e3.out]
  go_wp2
  exact bodyPost_ret (v := .agg #[.int .i64 (hiW (-a)), .int .u64 (loW (-a))]) (by simp [results, Tryd.results20, go_sem, hc]) rfl ⟨rfl, (((((Below.refl _ _).alloc (Nat.le_refl _) _).alloc (by simp) _).trans (hb.mono (by simp; omega))).setCell (by simp) _).setCell (by simp) _⟩
end Go.Proofs.YtohgpllonbplfaaDoor

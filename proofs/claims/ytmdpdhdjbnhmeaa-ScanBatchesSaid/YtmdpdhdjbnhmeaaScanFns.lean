/- Contracts of the package scan: where, column, right and the closures. -/
import Derived.Test.YtmdpdhdjbnhmeaaProg
import Derived.Test.YtmdpdhdjbnhmeaaScanMath
import Derived.Test.YtmdpdhdjbnhmeaaMem
import Derived.WalkKit
import Derived.WalkLawsBesides
import Derived.KernelRfl
import Derived.Deep.QuietTactic
import Derived.BigQuiet
import Derived.Deep.RegionHeld3
import Derived.Deep.AppendLies
import Derived.Shelf.Abstract
namespace Go.Proofs.Ytmdpdhdjbnhmeaa
open Go.RowKit
set_option linter.unusedVariables false

theorem cell_al {w : World} {o : Obj} {p : Addr} {v : Value} (h : w.cell? p = some v) : (w.alloc o).cell? p = some v := by rw [World.cell?_alloc_lt _ _ _ (World.block_lt_of_cell? w _ h)]; exact h
theorem cell_be {w w' : World} (hb : Below w.heap.size w w') {p : Addr} {v : Value} (h : w.cell? p = some v) : w'.cell? p = some v := (hb.cell (World.block_lt_of_cell? w _ h)).trans h
theorem cell_dr {w : World} {p : Addr} {v : Value} (h : w.cell? p = some v) : w.drew.cell? p = some v := h
theorem cell_drN {w : World} {n : Nat} {p : Addr} {v : Value} (h : w.cell? p = some v) : (w.drewN n).cell? p = some v := h

theorem cell_newk {w : World} {cs : Array Value} {t : TypeId} {n k : Nat} {x : Value} (h : w.heap.size = n) (hx : cs[k]? = some x) : (w.alloc (.cells cs t)).cell? ⟨n, k, none⟩ = some x := by
  subst h
  have := cell_of_row _ w.heap.size k cs t (0, 0) (heap_alloc_new w _)
  rw [this]; simpa using hx
theorem frozen_newk {w : World} {cs : Array Value} {t : TypeId} {n : Nat} (h : w.heap.size = n) (k : Nat) : (w.alloc (.cells cs t)).frozen? ⟨n, k, none⟩ = false := by subst h; exact frozen_of_row _ _ _ _ _ (heap_alloc_new w _)
theorem frozen_al {w : World} {o : Obj} {b k : Nat} (hb : b < w.heap.size) (h : w.frozen? ⟨b, k, none⟩ = false) : (w.alloc o).frozen? ⟨b, k, none⟩ = false := by
  rw [World.frozen?_of_block (w := w) (Below.heap_alloc w _ _ hb)]; exact h
/-- a list of ints as cells -/
def cells1 (L : List Int) : List Value := L.map (Value.int .i64)
theorem cells1_append (L M : List Int) : cells1 (L ++ M) = cells1 L ++ cells1 M := by simp [cells1]
/-- a slice that reads as a list of ints -/
def LInts (w : World) (A : Option Addr) (L : List Int) : Prop := Ints w A L.length (fun j => L.getD j 0)
theorem LInts.of_own {w : World} {base : Nat} {e : TypeId} {A : Option Addr} {c : Nat} {L : List Int} (h : w.ownsRow base e 1 (.slice A L.length c) L.length (cells1 L)) : LInts w A L := by
  have := own_cells h (fun j => .int .i64 (L.getD j 0)) (fun j hj => by
    have hj' : j < L.length := by omega
    simp [cells1, List.getElem?_eq_getElem hj'])
  rw [Nat.mul_one] at this
  exact this
theorem LInts.below {w w' : World} {A : Option Addr} {L : List Int} (h : LInts w A L) (hb : Below w.heap.size w w') : LInts w' A L := Cells.below h hb
theorem intElem : Elem Try.prog 22 3 (.int .i64 0) 1 8 := Elem.mk' Try.underlying22 (by kernel_rfl) rfl (by decide)

theorem right_any (A B C : Option Addr) (n m k ca cb cc : Nat) (w : World) (ok : Bool) (hok : ok = true ↔ n = m ∧ n = k) :
    Calls Try.prog 20 #[.agg #[.slice A n ca, .slice B m cb, .slice C k cc]] w fun e w' => e = .returned (.bool ok) ∧ Below w.heap.size w w' := by
  have HO := Lib.hid hok; clear hok
  by_cases h1 : n = m
  · subst h1
    by_cases h2 : n = k
    · subst h2
      go_enter Try.func20, Try.ntmps20
      go_wp2
      go_ret
      exact ⟨ret_bool (HO.out.2 (by first | exact ⟨rfl, rfl⟩ | exact ⟨trivial, trivial⟩)).symm, (Below.refl _ _).alloc (Nat.le_refl _) _⟩
    · have h2' : ((n : Int) == (k : Int)) = false := by simp; omega
      go_enter Try.func20, Try.ntmps20
      go_wp2
      go_ret
      refine ⟨ret_bool ?_, (Below.refl _ _).alloc (Nat.le_refl _) _⟩
      rcases Bool.eq_false_or_eq_true ok with h | h
      · exact absurd (HO.out.1 h).2 h2
      · rw [h]
  · have h1' : ((n : Int) == (m : Int)) = false := by simp; omega
    go_enter Try.func20, Try.ntmps20
    go_wp2
    go_ret
    refine ⟨ret_bool ?_, (Below.refl _ _).alloc (Nat.le_refl _) _⟩
    rcases Bool.eq_false_or_eq_true ok with h | h
    · exact absurd (HO.out.1 h).1 h1
    · rw [h]

def WhereRel (w : World) (n : Nat) (x : Nat → Int) (p : Int → Bool) (v i : Value) (wr : World) : Prop :=
  ∃ (k : Nat) (A : Option Addr) (c m : Nat), m = (whereL x p k).length ∧ k ≤ n ∧ i = .int .i64 k ∧ v = .slice A m c ∧ wr.ownsRow w.heap.size 3 1 (.slice A m c) m (cells1 (whereL x p k)) ∧ Below w.heap.size w wr
/-- a list of ints is handed back -/
def ListPost (w : World) (L : List Int) (e : Ending) (w' : World) : Prop :=
  ∃ A c, e = .returned (.slice A L.length c) ∧ w'.ownsRow w.heap.size 3 1 (.slice A L.length c) L.length (cells1 L) ∧ Below w.heap.size w w'
/-- a function value that tells a Bool of a number -/
def Tells (w0 : World) (f : Nat) (cap : List Value) (p : Int → Bool) : Prop := Enters Try.prog f ∧ ∀ (n : Int) (w : World), Below w0.heap.size w0 w → Calls Try.prog f (.int .i64 n :: cap).toArray w fun e w' => e = .returned (.bool (p n)) ∧ Below w.heap.size w w'
set_option maxHeartbeats 1000000 in
theorem where_1 (A : Option Addr) (n c : Nat) (x : Nat → Int) (f : Nat) (c0 : Value) (p : Int → Bool) (w : World) (h : Ints w A n x) (hn : n ≤ 1000000) (hf : Tells w f [c0] p) :
    Calls Try.prog 21 #[.slice A n c, .func (.func f) #[] #[c0]] w (ListPost w (whereL x p n)) := by
    have HF := Lib.hid hf.2
    have HN := Lib.hid hf.1; clear hf
    go_enter Try.func21, Try.ntmps21
    go_wp2
    go_loopw [5, 10] (WhereRel w n x p) (fun _ i _ => n - (intOf i).toNat)
    case atStart => exact ⟨0, none, 0, 0, rfl, by omega, rfl, rfl, World.ownsRow_nil _ _ _ _, Below.refl _ _⟩
    case round =>
      obtain ⟨k, A', c', m, hm, hk, rfl, rfl, hown, hbel⟩ := hrel
      have hlen : m ≤ k := by rw [hm]; exact whereL_le x p k
      have HM := Lib.hid hm; clear hm
      by_cases hlt : k < n
      · obtain ⟨b, off, rfl, hb, hc⟩ := h (by omega)
        have hck : wr.cell? ⟨b, off + k, none⟩ = some (.int .i64 (x k)) := (hbel.cell (p := ⟨b, off + k, none⟩) hb).trans (hc k hlt)
        have hsz := hbel.size
        have HC := Lib.hid (HF.out (x k) wr hbel)
        clear hc h
        go_wp2_with fail
        rw [HN.out, Oper.upon_enter]
        with_reducible refine HC.out.mono ?_
        rintro e w2 ⟨rfl, hb2⟩
        have hown2 := own_below hown hb2
        have hbel2 := hbel.trans (hb2.mono hbel.size)
        have hsz2 := hbel2.size
        rcases Bool.eq_false_or_eq_true (p (x k)) with hp | hp
        · have HP := Lib.hid (whereL_yes hp)
          go_wp2_with (at_builtin; refine wpList_append_new intElem hown2 hbel2 (Nat.le_refl _) (by omega) rfl _ _ rfl [.int .i64 k] rfl rfl rfl (by simp [Value.oneCell']) (by unfold maxLen; omega) (by omega) ?_; intro A1 c1 w3 ho3 hb3 _)
          refine ⟨⟨k + 1, A1, c1, m + 1, by rw [HP.out]; simp [HM.out], by omega, by go_num, rfl, ?_, hb3⟩, by simp [intOf]; omega⟩
          rw [HP.out, cells1_append]; exact ho3
        · have HP := Lib.hid (whereL_no hp)
          go_wp2
          refine ⟨⟨k + 1, A', c', m, by rw [HP.out]; exact HM.out, by omega, by go_num, rfl, ?_, hbel2⟩, by simp [intOf]; omega⟩
          rw [HP.out]; exact hown2
      · obtain rfl : k = n := by omega
        go_wp2
        go_ret
        refine ⟨A', c', ?_, ?_, hbel⟩
        · rw [← HM.out]; rfl
        · rw [← HM.out]; exact hown
set_option maxHeartbeats 1000000 in
theorem where_2 (A : Option Addr) (n c : Nat) (x : Nat → Int) (f : Nat) (c0 c1 : Value) (p : Int → Bool) (w : World) (h : Ints w A n x) (hn : n ≤ 1000000) (hf : Tells w f [c0, c1] p) :
    Calls Try.prog 21 #[.slice A n c, .func (.func f) #[] #[c0, c1]] w (ListPost w (whereL x p n)) := by
    have HF := Lib.hid hf.2
    have HN := Lib.hid hf.1; clear hf
    go_enter Try.func21, Try.ntmps21
    go_wp2
    go_loopw [5, 10] (WhereRel w n x p) (fun _ i _ => n - (intOf i).toNat)
    case atStart => exact ⟨0, none, 0, 0, rfl, by omega, rfl, rfl, World.ownsRow_nil _ _ _ _, Below.refl _ _⟩
    case round =>
      obtain ⟨k, A', c', m, hm, hk, rfl, rfl, hown, hbel⟩ := hrel
      have hlen : m ≤ k := by rw [hm]; exact whereL_le x p k
      have HM := Lib.hid hm; clear hm
      by_cases hlt : k < n
      · obtain ⟨b, off, rfl, hb, hc⟩ := h (by omega)
        have hck : wr.cell? ⟨b, off + k, none⟩ = some (.int .i64 (x k)) := (hbel.cell (p := ⟨b, off + k, none⟩) hb).trans (hc k hlt)
        have hsz := hbel.size
        have HC := Lib.hid (HF.out (x k) wr hbel)
        clear hc h
        go_wp2_with fail
        rw [HN.out, Oper.upon_enter]
        with_reducible refine HC.out.mono ?_
        rintro e w2 ⟨rfl, hb2⟩
        have hown2 := own_below hown hb2
        have hbel2 := hbel.trans (hb2.mono hbel.size)
        have hsz2 := hbel2.size
        rcases Bool.eq_false_or_eq_true (p (x k)) with hp | hp
        · have HP := Lib.hid (whereL_yes hp)
          go_wp2_with (at_builtin; refine wpList_append_new intElem hown2 hbel2 (Nat.le_refl _) (by omega) rfl _ _ rfl [.int .i64 k] rfl rfl rfl (by simp [Value.oneCell']) (by unfold maxLen; omega) (by omega) ?_; intro A1 c1 w3 ho3 hb3 _)
          refine ⟨⟨k + 1, A1, c1, m + 1, by rw [HP.out]; simp [HM.out], by omega, by go_num, rfl, ?_, hb3⟩, by simp [intOf]; omega⟩
          rw [HP.out, cells1_append]; exact ho3
        · have HP := Lib.hid (whereL_no hp)
          go_wp2
          refine ⟨⟨k + 1, A', c', m, by rw [HP.out]; exact HM.out, by omega, by go_num, rfl, ?_, hbel2⟩, by simp [intOf]; omega⟩
          rw [HP.out]; exact hown2
      · obtain rfl : k = n := by omega
        go_wp2
        go_ret
        refine ⟨A', c', ?_, ?_, hbel⟩
        · rw [← HM.out]; rfl
        · rw [← HM.out]; exact hown
theorem span1_any (t a b : Int) (b1 b2 : Nat) (w : World) (h0 : w.cell? ⟨b1, 0, none⟩ = some (.int .i64 a)) (h1 : w.cell? ⟨b2, 0, none⟩ = some (.int .i64 b)) :
    Calls Try.prog 22 #[.int .i64 t, .pointer (some ⟨b1, 0, none⟩), .pointer (some ⟨b2, 0, none⟩)] w fun e w' => e = .returned (.bool (inSpan a b t)) ∧ Below w.heap.size w w' := by
  by_cases ha : a ≤ t
  · by_cases hb : t < b
    · have HE := Lib.hid (inSpan_iff.2 ⟨ha, hb⟩)
      go_enter Try.func22, Try.ntmps22
      go_wp2
      go_ret
      exact ⟨ret_bool (by rw [HE.out]), Below.refl _ _⟩
    · have HE := Lib.hid (inSpan_no.2 (fun h : a ≤ t ∧ t < b => hb h.2))
      go_enter Try.func22, Try.ntmps22
      go_wp2
      go_ret
      exact ⟨ret_bool (by rw [HE.out]), Below.refl _ _⟩
  · have HE := Lib.hid (inSpan_no.2 (fun h : a ≤ t ∧ t < b => ha h.1))
    have hd : decide (a ≤ t) = false := decide_eq_false ha
    go_enter Try.func22, Try.ntmps22
    go_wp2
    go_ret
    exact ⟨ret_bool (by rw [HE.out]), Below.refl _ _⟩
end Go.Proofs.Ytmdpdhdjbnhmeaa

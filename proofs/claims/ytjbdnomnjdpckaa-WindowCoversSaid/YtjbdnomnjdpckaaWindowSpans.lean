/- Contract of the law's spans: two lists of pairs that are one. -/
import Derived.Test.YtjbdnomnjdpckaaProg
import Derived.Test.YtjbdnomnjdpckaaMem
import Derived.WalkKit
import Derived.WalkLawsBesides
import Derived.KernelRfl
import Derived.Deep.QuietTactic
import Derived.BigQuiet
import Derived.Laws.StructEq
namespace Go.Proofs.Ytjbdnomnjdpckaa
open Go.RowKit
set_option linter.unusedVariables false

/-- the cells of a list of pairs, by place -/
def pairCell (L : List (Int × Int)) (j : Nat) : Value := .int .i64 (if j % 2 = 0 then (L.getD (j / 2) (0, 0)).1 else (L.getD (j / 2) (0, 0)).2)
theorem pairCell_of (L : List (Int × Int)) (j : Nat) (h : j < L.length * 2) : (cells2 L)[j]? = some (pairCell L j) := by
  have hi : j / 2 < L.length := by omega
  have := cells2_even L (j / 2) L[j / 2] (List.getElem?_eq_getElem hi)
  unfold pairCell
  rw [List.getD_eq_getElem?_getD, List.getElem?_eq_getElem hi, Option.getD_some]
  split
  · have t := this.1
    rw [show j / 2 * 2 = j by omega] at t; exact t
  · have t := this.2
    rw [show j / 2 * 2 + 1 = j by omega] at t; exact t
/-- a slice of pairs -/
def Pairs (w : World) (A : Option Addr) (L : List (Int × Int)) : Prop := Cells w A (L.length * 2) (pairCell L)
theorem Pairs.of_own {w : World} {base : Nat} {e : TypeId} {A : Option Addr} {c : Nat} {L : List (Int × Int)} (h : w.ownsRow base e 2 (.slice A L.length c) L.length (cells2 L)) : Pairs w A L :=
  own_cells h _ (pairCell_of L)
theorem Pairs.at_ {w : World} {b off : Nat} {L : List (Int × Int)} (hc : ∀ j, j < L.length * 2 → w.cell? ⟨b, off + j, none⟩ = some (pairCell L j)) {i : Nat} (hi : i < L.length) :
    w.cell? ⟨b, off + i * 2, none⟩ = some (.int .i64 (L.getD i (0, 0)).1) ∧ w.cell? ⟨b, off + i * 2 + 1, none⟩ = some (.int .i64 (L.getD i (0, 0)).2) := by
  have h1 := hc (i * 2) (by omega)
  have h2 := hc (i * 2 + 1) (by omega)
  refine ⟨?_, ?_⟩
  · rw [h1]; unfold pairCell; rw [if_pos (by omega), show i * 2 / 2 = i by omega]
  · rw [← Nat.add_assoc] at h2; rw [h2]; unfold pairCell; rw [if_neg (by omega), show (i * 2 + 1) / 2 = i by omega]

theorem spans_same (A : Option Addr) (c : Nat) (A' : Option Addr) (c' : Nat) (L : List (Int × Int)) (w : World) (h : Pairs w A L) (h' : Pairs w A' L) (hn : L.length ≤ 1000000) :
    Calls Try.prog 11 #[.slice A L.length c, .slice A' L.length c'] w fun e w' => e = .returned (.bool true) ∧ ∃ n, w' = w.drewN n := by
  go_enter Try.func11, Try.ntmps11
  go_wp2
  go_loopw [5] (fun i wr => ∃ k nn : Nat, k ≤ L.length ∧ i = .int .i64 k ∧ wr = w.drewN nn) (fun i _ => L.length - (intOf i).toNat)
  case atStart => exact ⟨0, 0, by omega, rfl, rfl⟩
  case round =>
    obtain ⟨k, nn, hk, rfl, rfl⟩ := hrel
    by_cases hlt : k < L.length
    · obtain ⟨b, off, rfl, hb, hc⟩ := h (by omega)
      obtain ⟨b', off', rfl, hb', hc'⟩ := h' (by omega)
      obtain ⟨h1, h2⟩ := Pairs.at_ hc hlt
      obtain ⟨h3, h4⟩ := Pairs.at_ hc' hlt
      clear hc hc' h h'
      have i1 : (k : Int) < (L.length : Int) := by omega
      go_wp2
      go_quiet (fail)
      go_wp2
      exact ⟨⟨k + 1, nn + nq, by omega, by go_num, rfl⟩, by simp [intOf]; omega⟩
    · go_wp2
      go_ret
      exact ⟨rfl, _, rfl⟩
theorem spans_own (A : Option Addr) (c : Nat) (A' : Option Addr) (c' : Nat) (L : List (Int × Int)) (w : World) (h : Pairs w A L) (h' : Pairs w A' L) (hn : L.length ≤ 1000000) :
    Calls Try.prog 11 #[.slice A L.length c, .slice A' L.length c'] w fun e w' => e = .returned (.bool true) ∧ Below w.heap.size w w' :=
  (spans_same A c A' c' L w h h' hn).mono fun _ _ ⟨he, n, hw⟩ => ⟨he, by rw [hw]; exact bel_drewN (Below.refl _ _) n⟩
end Go.Proofs.Ytjbdnomnjdpckaa

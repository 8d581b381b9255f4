/- gaps.Fill by one contract: fine rows, and others; windows side by side from 0 on. -/
import Derived.Test.YtljepnonigjcbaaGFill
import Derived.Test.YtljepnonigjcbaaGFillB
namespace Go.Proofs.Ytljepnonigjcbaa
open Go Go.RowKit
set_option linter.unusedVariables false

/-- what is told of fine rows -/
def fillO (how : Int) (R : List Rw) (L : List (Int × Int)) : List Rw := if how = 0 then R else (fillN how R L L.length).1
theorem fill_fine (A : Option Addr) (R : List Rw) (c : Nat) (W S O fr to_ how : Int) (L : List (Int × Int)) (w : World) (hh : 0 ≤ how ∧ how ≤ 3) (hr : RowsAt w A R) (hR : ∀ r ∈ R, rwOk r) (hRn : R.length ≤ 65536) (hLn : L.length ≤ 65536) (hL : ∀ p ∈ L, in64' p.1 ∧ in64' p.2 ∧ tb p.1) (hf : fineR R L) (hA : A = none → c = 0)
    (hall : ∀ w, Calls Try.prog 11 #[.agg #[.int .i64 W, .int .i64 S, .int .i64 O], .agg #[.int .i64 fr, .int .i64 to_]] w (PairsPost w L 0)) :
    Calls Try.prog 6 #[.slice A R.length c, .agg #[.int .i64 W, .int .i64 S, .int .i64 O], .agg #[.int .i64 fr, .int .i64 to_], .int .i64 how] w (FillPost w (fillO how R L) 0) := by
  have : how = 0 ∨ how = 1 ∨ how = 2 ∨ how = 3 := by omega
  rcases this with rfl | rfl | rfl | rfl
  · exact fill_0 A R c W S O fr to_ L w hr hR hRn hLn (fun p hp => ⟨(hL p hp).1, (hL p hp).2.1⟩) hf hA hall
  · exact fill_1 A R c W S O fr to_ L w hr hR (by omega) hLn hL hf hall
  · exact fill_2 A R c W S O fr to_ L w hr hR (by omega) hLn hL hf hall
  · exact fill_3 A R c W S O fr to_ L w hr hR (by omega) hLn hL hf hall
theorem fill_not (A : Option Addr) (R : List Rw) (c : Nat) (W S O fr to_ how : Int) (L : List (Int × Int)) (w : World) (hh : 0 ≤ how ∧ how ≤ 3) (hr : RowsAt w A R) (hR : ∀ r ∈ R, rwOk r) (hRn : R.length ≤ 9223372036854775807) (hLn : L.length ≤ 65536) (hL : ∀ p ∈ L, in64' p.1 ∧ in64' p.2 ∧ tb p.1) (hf : ¬ fineR R L)
    (hall : ∀ w, Calls Try.prog 11 #[.agg #[.int .i64 W, .int .i64 S, .int .i64 O], .agg #[.int .i64 fr, .int .i64 to_]] w (PairsPost w L 0)) :
    Calls Try.prog 6 #[.slice A R.length c, .agg #[.int .i64 W, .int .i64 S, .int .i64 O], .agg #[.int .i64 fr, .int .i64 to_], .int .i64 how] w (FillPost w [] 2) :=
  (fill_unfine A R c W S O fr to_ how L (by omega) w hr hR hRn hLn (fun p hp => ⟨(hL p hp).1, (hL p hp).2.1⟩) hf hall).mono fun _ _ ⟨e, hb⟩ => ⟨none, 0, e, Cells.zero _ _ _, fun _ => rfl, Nat.le_refl _, by decide, hb⟩
end Go.Proofs.Ytljepnonigjcbaa

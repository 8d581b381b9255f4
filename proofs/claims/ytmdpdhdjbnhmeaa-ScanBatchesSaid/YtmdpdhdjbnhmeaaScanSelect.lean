/- Contract of scan.Select. -/
import Derived.Test.YtmdpdhdjbnhmeaaScanTake
namespace Go.Proofs.Ytmdpdhdjbnhmeaa
open Go.RowKit
set_option linter.unusedVariables false

/-- does a number compare so? -/
def holdsB (how value n : Int) : Bool :=
  if how = 0 then n == value else if how = 1 then n != value else if how = 2 then decide (n < value) else if how = 3 then decide (n ≤ value) else if how = 4 then decide (value < n) else decide (value ≤ n)
theorem sel1_any (n v : Int) (g : Nat) (w : World) (h0 : w.cell? ⟨g, 0, none⟩ = some (.int .i64 v)) :
    Calls Try.prog 34 #[.int .i64 n, .pointer (some ⟨g, 0, none⟩)] w fun e w' => e = .returned (.bool (holdsB 0 v n)) ∧ Below w.heap.size w w' := by
  go_enter Try.func34, Try.ntmps34
  go_wp2
  go_ret
  exact ⟨ret_bool (by simp [holdsB]), Below.refl _ _⟩
theorem sel2_any (n v : Int) (g : Nat) (w : World) (h0 : w.cell? ⟨g, 0, none⟩ = some (.int .i64 v)) :
    Calls Try.prog 35 #[.int .i64 n, .pointer (some ⟨g, 0, none⟩)] w fun e w' => e = .returned (.bool (holdsB 1 v n)) ∧ Below w.heap.size w w' := by
  go_enter Try.func35, Try.ntmps35
  go_wp2
  go_ret
  exact ⟨ret_bool (by simp [holdsB]), Below.refl _ _⟩
theorem sel3_any (n v : Int) (g : Nat) (w : World) (h0 : w.cell? ⟨g, 0, none⟩ = some (.int .i64 v)) :
    Calls Try.prog 36 #[.int .i64 n, .pointer (some ⟨g, 0, none⟩)] w fun e w' => e = .returned (.bool (holdsB 2 v n)) ∧ Below w.heap.size w w' := by
  go_enter Try.func36, Try.ntmps36
  go_wp2
  go_ret
  exact ⟨ret_bool (by simp [holdsB]), Below.refl _ _⟩
theorem sel4_any (n v : Int) (g : Nat) (w : World) (h0 : w.cell? ⟨g, 0, none⟩ = some (.int .i64 v)) :
    Calls Try.prog 37 #[.int .i64 n, .pointer (some ⟨g, 0, none⟩)] w fun e w' => e = .returned (.bool (holdsB 3 v n)) ∧ Below w.heap.size w w' := by
  go_enter Try.func37, Try.ntmps37
  go_wp2
  go_ret
  exact ⟨ret_bool (by simp [holdsB]), Below.refl _ _⟩
theorem sel5_any (n v : Int) (g : Nat) (w : World) (h0 : w.cell? ⟨g, 0, none⟩ = some (.int .i64 v)) :
    Calls Try.prog 38 #[.int .i64 n, .pointer (some ⟨g, 0, none⟩)] w fun e w' => e = .returned (.bool (holdsB 4 v n)) ∧ Below w.heap.size w w' := by
  go_enter Try.func38, Try.ntmps38
  go_wp2
  go_ret
  exact ⟨ret_bool (by simp [holdsB]), Below.refl _ _⟩
theorem sel6_any (n v : Int) (g : Nat) (w : World) (h0 : w.cell? ⟨g, 0, none⟩ = some (.int .i64 v)) :
    Calls Try.prog 39 #[.int .i64 n, .pointer (some ⟨g, 0, none⟩)] w fun e w' => e = .returned (.bool (holdsB 5 v n)) ∧ Below w.heap.size w w' := by
  go_enter Try.func39, Try.ntmps39
  go_wp2
  go_ret
  exact ⟨ret_bool (by simp [holdsB]), Below.refl _ _⟩
set_option maxHeartbeats 1000000 in
theorem select_0 (A B C : Option Addr) (n m k ca cb cc : Nat) (y : Nat → Int) (v : Int) (w : World) (h : Ints w B m y) (hn : m ≤ 1000000) (hr : n = m ∧ n = k) :
    Calls Try.prog 16 #[.agg #[.slice A n ca, .slice B m cb, .slice C k cc], .int .i64 0, .int .i64 v] w (ListsPost w (whereL y (holdsB 0 v) m) 0) := by
  have HR := Lib.hid (fun w => right_any A B C n m k ca cb cc w true (by simp; exact hr))
  clear hr
  obtain ⟨W, hW⟩ : ∃ W, W = (w.alloc (.cells #[.slice A n ca, .slice B m cb, .slice C k cc] 25)).alloc (.cells #[.int .i64 v] 3) := ⟨_, rfl⟩
  have hB : Below w.heap.size w W := by rw [hW]; exact ((Below.refl _ _).alloc (Nat.le_refl _) _).alloc (by simp) _
  have d1 : W.cell? ⟨w.heap.size, 1, none⟩ = some (.slice B m cb) := by rw [hW]; exact cell_al (cell_newk rfl rfl)
  have e1 : W.cell? ⟨w.heap.size + 1, 0, none⟩ = some (.int .i64 v) := by rw [hW]; exact cell_newk (by simp) rfl
  have HH := Lib.hid hW; clear hW
  go_enter Try.func16, Try.ntmps16
  go_wp2_with fail
  rw [← HH.out]
  with_reducible refine (HR.out W).mono ?_
  rintro e w1 ⟨rfl, hb1⟩
  replace d1 := cell_be hb1 d1
  replace e1 := cell_be hb1 e1
  have hbel : Below w.heap.size w w1 := hB.trans (hb1.mono hB.size)
  have HC := Lib.hid (where_1 B m cb y 34 (.pointer (some ⟨w.heap.size + 1, 0, none⟩)) (holdsB 0 v) w1 (Cells.below h hbel) hn ⟨enters_of Try.func34 (by kernel_rfl) rfl, fun t wr hb => sel1_any t v _ wr (cell_be hb e1)⟩)
  clear hb1 e1 hB HH HR
  go_wp2_with fail
  with_reducible refine HC.out.mono ?_
  rintro e w2 ⟨A', c', rfl, hown, hb2⟩
  go_wp2
  go_ret2
  exact ⟨A', c', rfl, LInts.of_own hown, hbel.trans (hb2.mono hbel.size)⟩
set_option maxHeartbeats 1000000 in
theorem select_1 (A B C : Option Addr) (n m k ca cb cc : Nat) (y : Nat → Int) (v : Int) (w : World) (h : Ints w B m y) (hn : m ≤ 1000000) (hr : n = m ∧ n = k) :
    Calls Try.prog 16 #[.agg #[.slice A n ca, .slice B m cb, .slice C k cc], .int .i64 1, .int .i64 v] w (ListsPost w (whereL y (holdsB 1 v) m) 0) := by
  have HR := Lib.hid (fun w => right_any A B C n m k ca cb cc w true (by simp; exact hr))
  clear hr
  obtain ⟨W, hW⟩ : ∃ W, W = (w.alloc (.cells #[.slice A n ca, .slice B m cb, .slice C k cc] 25)).alloc (.cells #[.int .i64 v] 3) := ⟨_, rfl⟩
  have hB : Below w.heap.size w W := by rw [hW]; exact ((Below.refl _ _).alloc (Nat.le_refl _) _).alloc (by simp) _
  have d1 : W.cell? ⟨w.heap.size, 1, none⟩ = some (.slice B m cb) := by rw [hW]; exact cell_al (cell_newk rfl rfl)
  have e1 : W.cell? ⟨w.heap.size + 1, 0, none⟩ = some (.int .i64 v) := by rw [hW]; exact cell_newk (by simp) rfl
  have HH := Lib.hid hW; clear hW
  go_enter Try.func16, Try.ntmps16
  go_wp2_with fail
  rw [← HH.out]
  with_reducible refine (HR.out W).mono ?_
  rintro e w1 ⟨rfl, hb1⟩
  replace d1 := cell_be hb1 d1
  replace e1 := cell_be hb1 e1
  have hbel : Below w.heap.size w w1 := hB.trans (hb1.mono hB.size)
  have HC := Lib.hid (where_1 B m cb y 35 (.pointer (some ⟨w.heap.size + 1, 0, none⟩)) (holdsB 1 v) w1 (Cells.below h hbel) hn ⟨enters_of Try.func35 (by kernel_rfl) rfl, fun t wr hb => sel2_any t v _ wr (cell_be hb e1)⟩)
  clear hb1 e1 hB HH HR
  go_wp2_with fail
  with_reducible refine HC.out.mono ?_
  rintro e w2 ⟨A', c', rfl, hown, hb2⟩
  go_wp2
  go_ret2
  exact ⟨A', c', rfl, LInts.of_own hown, hbel.trans (hb2.mono hbel.size)⟩
set_option maxHeartbeats 1000000 in
theorem select_2 (A B C : Option Addr) (n m k ca cb cc : Nat) (y : Nat → Int) (v : Int) (w : World) (h : Ints w B m y) (hn : m ≤ 1000000) (hr : n = m ∧ n = k) :
    Calls Try.prog 16 #[.agg #[.slice A n ca, .slice B m cb, .slice C k cc], .int .i64 2, .int .i64 v] w (ListsPost w (whereL y (holdsB 2 v) m) 0) := by
  have HR := Lib.hid (fun w => right_any A B C n m k ca cb cc w true (by simp; exact hr))
  clear hr
  obtain ⟨W, hW⟩ : ∃ W, W = (w.alloc (.cells #[.slice A n ca, .slice B m cb, .slice C k cc] 25)).alloc (.cells #[.int .i64 v] 3) := ⟨_, rfl⟩
  have hB : Below w.heap.size w W := by rw [hW]; exact ((Below.refl _ _).alloc (Nat.le_refl _) _).alloc (by simp) _
  have d1 : W.cell? ⟨w.heap.size, 1, none⟩ = some (.slice B m cb) := by rw [hW]; exact cell_al (cell_newk rfl rfl)
  have e1 : W.cell? ⟨w.heap.size + 1, 0, none⟩ = some (.int .i64 v) := by rw [hW]; exact cell_newk (by simp) rfl
  have HH := Lib.hid hW; clear hW
  go_enter Try.func16, Try.ntmps16
  go_wp2_with fail
  rw [← HH.out]
  with_reducible refine (HR.out W).mono ?_
  rintro e w1 ⟨rfl, hb1⟩
  replace d1 := cell_be hb1 d1
  replace e1 := cell_be hb1 e1
  have hbel : Below w.heap.size w w1 := hB.trans (hb1.mono hB.size)
  have HC := Lib.hid (where_1 B m cb y 36 (.pointer (some ⟨w.heap.size + 1, 0, none⟩)) (holdsB 2 v) w1 (Cells.below h hbel) hn ⟨enters_of Try.func36 (by kernel_rfl) rfl, fun t wr hb => sel3_any t v _ wr (cell_be hb e1)⟩)
  clear hb1 e1 hB HH HR
  go_wp2_with fail
  with_reducible refine HC.out.mono ?_
  rintro e w2 ⟨A', c', rfl, hown, hb2⟩
  go_wp2
  go_ret2
  exact ⟨A', c', rfl, LInts.of_own hown, hbel.trans (hb2.mono hbel.size)⟩
set_option maxHeartbeats 1000000 in
theorem select_3 (A B C : Option Addr) (n m k ca cb cc : Nat) (y : Nat → Int) (v : Int) (w : World) (h : Ints w B m y) (hn : m ≤ 1000000) (hr : n = m ∧ n = k) :
    Calls Try.prog 16 #[.agg #[.slice A n ca, .slice B m cb, .slice C k cc], .int .i64 3, .int .i64 v] w (ListsPost w (whereL y (holdsB 3 v) m) 0) := by
  have HR := Lib.hid (fun w => right_any A B C n m k ca cb cc w true (by simp; exact hr))
  clear hr
  obtain ⟨W, hW⟩ : ∃ W, W = (w.alloc (.cells #[.slice A n ca, .slice B m cb, .slice C k cc] 25)).alloc (.cells #[.int .i64 v] 3) := ⟨_, rfl⟩
  have hB : Below w.heap.size w W := by rw [hW]; exact ((Below.refl _ _).alloc (Nat.le_refl _) _).alloc (by simp) _
  have d1 : W.cell? ⟨w.heap.size, 1, none⟩ = some (.slice B m cb) := by rw [hW]; exact cell_al (cell_newk rfl rfl)
  have e1 : W.cell? ⟨w.heap.size + 1, 0, none⟩ = some (.int .i64 v) := by rw [hW]; exact cell_newk (by simp) rfl
  have HH := Lib.hid hW; clear hW
  go_enter Try.func16, Try.ntmps16
  go_wp2_with fail
  rw [← HH.out]
  with_reducible refine (HR.out W).mono ?_
  rintro e w1 ⟨rfl, hb1⟩
  replace d1 := cell_be hb1 d1
  replace e1 := cell_be hb1 e1
  have hbel : Below w.heap.size w w1 := hB.trans (hb1.mono hB.size)
  have HC := Lib.hid (where_1 B m cb y 37 (.pointer (some ⟨w.heap.size + 1, 0, none⟩)) (holdsB 3 v) w1 (Cells.below h hbel) hn ⟨enters_of Try.func37 (by kernel_rfl) rfl, fun t wr hb => sel4_any t v _ wr (cell_be hb e1)⟩)
  clear hb1 e1 hB HH HR
  go_wp2_with fail
  with_reducible refine HC.out.mono ?_
  rintro e w2 ⟨A', c', rfl, hown, hb2⟩
  go_wp2
  go_ret2
  exact ⟨A', c', rfl, LInts.of_own hown, hbel.trans (hb2.mono hbel.size)⟩
set_option maxHeartbeats 1000000 in
theorem select_4 (A B C : Option Addr) (n m k ca cb cc : Nat) (y : Nat → Int) (v : Int) (w : World) (h : Ints w B m y) (hn : m ≤ 1000000) (hr : n = m ∧ n = k) :
    Calls Try.prog 16 #[.agg #[.slice A n ca, .slice B m cb, .slice C k cc], .int .i64 4, .int .i64 v] w (ListsPost w (whereL y (holdsB 4 v) m) 0) := by
  have HR := Lib.hid (fun w => right_any A B C n m k ca cb cc w true (by simp; exact hr))
  clear hr
  obtain ⟨W, hW⟩ : ∃ W, W = (w.alloc (.cells #[.slice A n ca, .slice B m cb, .slice C k cc] 25)).alloc (.cells #[.int .i64 v] 3) := ⟨_, rfl⟩
  have hB : Below w.heap.size w W := by rw [hW]; exact ((Below.refl _ _).alloc (Nat.le_refl _) _).alloc (by simp) _
  have d1 : W.cell? ⟨w.heap.size, 1, none⟩ = some (.slice B m cb) := by rw [hW]; exact cell_al (cell_newk rfl rfl)
  have e1 : W.cell? ⟨w.heap.size + 1, 0, none⟩ = some (.int .i64 v) := by rw [hW]; exact cell_newk (by simp) rfl
  have HH := Lib.hid hW; clear hW
  go_enter Try.func16, Try.ntmps16
  go_wp2_with fail
  rw [← HH.out]
  with_reducible refine (HR.out W).mono ?_
  rintro e w1 ⟨rfl, hb1⟩
  replace d1 := cell_be hb1 d1
  replace e1 := cell_be hb1 e1
  have hbel : Below w.heap.size w w1 := hB.trans (hb1.mono hB.size)
  have HC := Lib.hid (where_1 B m cb y 38 (.pointer (some ⟨w.heap.size + 1, 0, none⟩)) (holdsB 4 v) w1 (Cells.below h hbel) hn ⟨enters_of Try.func38 (by kernel_rfl) rfl, fun t wr hb => sel5_any t v _ wr (cell_be hb e1)⟩)
  clear hb1 e1 hB HH HR
  go_wp2_with fail
  with_reducible refine HC.out.mono ?_
  rintro e w2 ⟨A', c', rfl, hown, hb2⟩
  go_wp2
  go_ret2
  exact ⟨A', c', rfl, LInts.of_own hown, hbel.trans (hb2.mono hbel.size)⟩
set_option maxHeartbeats 1000000 in
theorem select_5 (A B C : Option Addr) (n m k ca cb cc : Nat) (y : Nat → Int) (v : Int) (w : World) (h : Ints w B m y) (hn : m ≤ 1000000) (hr : n = m ∧ n = k) :
    Calls Try.prog 16 #[.agg #[.slice A n ca, .slice B m cb, .slice C k cc], .int .i64 5, .int .i64 v] w (ListsPost w (whereL y (holdsB 5 v) m) 0) := by
  have HR := Lib.hid (fun w => right_any A B C n m k ca cb cc w true (by simp; exact hr))
  clear hr
  obtain ⟨W, hW⟩ : ∃ W, W = (w.alloc (.cells #[.slice A n ca, .slice B m cb, .slice C k cc] 25)).alloc (.cells #[.int .i64 v] 3) := ⟨_, rfl⟩
  have hB : Below w.heap.size w W := by rw [hW]; exact ((Below.refl _ _).alloc (Nat.le_refl _) _).alloc (by simp) _
  have d1 : W.cell? ⟨w.heap.size, 1, none⟩ = some (.slice B m cb) := by rw [hW]; exact cell_al (cell_newk rfl rfl)
  have e1 : W.cell? ⟨w.heap.size + 1, 0, none⟩ = some (.int .i64 v) := by rw [hW]; exact cell_newk (by simp) rfl
  have HH := Lib.hid hW; clear hW
  go_enter Try.func16, Try.ntmps16
  go_wp2_with fail
  rw [← HH.out]
  with_reducible refine (HR.out W).mono ?_
  rintro e w1 ⟨rfl, hb1⟩
  replace d1 := cell_be hb1 d1
  replace e1 := cell_be hb1 e1
  have hbel : Below w.heap.size w w1 := hB.trans (hb1.mono hB.size)
  have HC := Lib.hid (where_1 B m cb y 39 (.pointer (some ⟨w.heap.size + 1, 0, none⟩)) (holdsB 5 v) w1 (Cells.below h hbel) hn ⟨enters_of Try.func39 (by kernel_rfl) rfl, fun t wr hb => sel6_any t v _ wr (cell_be hb e1)⟩)
  clear hb1 e1 hB HH HR
  go_wp2_with fail
  with_reducible refine HC.out.mono ?_
  rintro e w2 ⟨A', c', rfl, hown, hb2⟩
  go_wp2
  go_ret2
  exact ⟨A', c', rfl, LInts.of_own hown, hbel.trans (hb2.mono hbel.size)⟩
set_option maxHeartbeats 1000000 in
theorem select_no (A B C : Option Addr) (n m k ca cb cc : Nat) (v : Int) (w : World) (how : Int) (hr : ¬ (n = m ∧ n = k)) :
    Calls Try.prog 16 #[.agg #[.slice A n ca, .slice B m cb, .slice C k cc], .int .i64 how, .int .i64 v] w (ListsPost w [] 2) := by
  have HR := Lib.hid (fun w => right_any A B C n m k ca cb cc w false (by simp; omega))
  clear hr
  obtain ⟨W, hW⟩ : ∃ W, W = (w.alloc (.cells #[.slice A n ca, .slice B m cb, .slice C k cc] 25)).alloc (.cells #[.int .i64 v] 3) := ⟨_, rfl⟩
  have hB : Below w.heap.size w W := by rw [hW]; exact ((Below.refl _ _).alloc (Nat.le_refl _) _).alloc (by simp) _
  have d1 : W.cell? ⟨w.heap.size, 1, none⟩ = some (.slice B m cb) := by rw [hW]; exact cell_al (cell_newk rfl rfl)
  have e1 : W.cell? ⟨w.heap.size + 1, 0, none⟩ = some (.int .i64 v) := by rw [hW]; exact cell_newk (by simp) rfl
  have HH := Lib.hid hW; clear hW
  go_enter Try.func16, Try.ntmps16
  go_wp2_with fail
  rw [← HH.out]
  with_reducible refine (HR.out W).mono ?_
  rintro e w1 ⟨rfl, hb1⟩
  have hbel : Below w.heap.size w w1 := hB.trans (hb1.mono hB.size)
  go_wp2
  go_ret2
  exact ⟨none, 0, rfl, Cells.zero _ _ _, hbel⟩
set_option maxHeartbeats 1000000 in
theorem select_how (A B C : Option Addr) (n m k ca cb cc : Nat) (v : Int) (w : World) (how : Int) (hr : n = m ∧ n = k) (hh : how < 0 ∨ 5 < how) :
    Calls Try.prog 16 #[.agg #[.slice A n ca, .slice B m cb, .slice C k cc], .int .i64 how, .int .i64 v] w (ListsPost w [] 2) := by
  have HR := Lib.hid (fun w => right_any A B C n m k ca cb cc w true (by simp; exact hr))
  clear hr
  have q0 : (how == 0) = false := by simp; omega
  have q1 : (how == 1) = false := by simp; omega
  have q2 : (how == 2) = false := by simp; omega
  have q3 : (how == 3) = false := by simp; omega
  have q4 : (how == 4) = false := by simp; omega
  have q5 : (how == 5) = false := by simp; omega
  clear hh
  obtain ⟨W, hW⟩ : ∃ W, W = (w.alloc (.cells #[.slice A n ca, .slice B m cb, .slice C k cc] 25)).alloc (.cells #[.int .i64 v] 3) := ⟨_, rfl⟩
  have hB : Below w.heap.size w W := by rw [hW]; exact ((Below.refl _ _).alloc (Nat.le_refl _) _).alloc (by simp) _
  have d1 : W.cell? ⟨w.heap.size, 1, none⟩ = some (.slice B m cb) := by rw [hW]; exact cell_al (cell_newk rfl rfl)
  have e1 : W.cell? ⟨w.heap.size + 1, 0, none⟩ = some (.int .i64 v) := by rw [hW]; exact cell_newk (by simp) rfl
  have HH := Lib.hid hW; clear hW
  go_enter Try.func16, Try.ntmps16
  go_wp2_with fail
  rw [← HH.out]
  with_reducible refine (HR.out W).mono ?_
  rintro e w1 ⟨rfl, hb1⟩
  have hbel : Below w.heap.size w w1 := hB.trans (hb1.mono hB.size)
  go_wp2
  go_ret2
  exact ⟨none, 0, rfl, Cells.zero _ _ _, hbel⟩
theorem select_any (A B C : Option Addr) (n m k ca cb cc : Nat) (y : Nat → Int) (v how : Int) (w : World) (h : Ints w B m y) (hn : m ≤ 1000000) :
    Calls Try.prog 16 #[.agg #[.slice A n ca, .slice B m cb, .slice C k cc], .int .i64 how, .int .i64 v] w (ListsPost w (if (n = m ∧ n = k) ∧ 0 ≤ how ∧ how ≤ 5 then whereL y (holdsB how v) m else []) (if (n = m ∧ n = k) ∧ 0 ≤ how ∧ how ≤ 5 then 0 else 2)) := by
  by_cases hr : n = m ∧ n = k
  · by_cases hh : 0 ≤ how ∧ how ≤ 5
    · rw [if_pos ⟨hr, hh⟩, if_pos ⟨hr, hh⟩]
      rcases (show how = 0 ∨ how = 1 ∨ how = 2 ∨ how = 3 ∨ how = 4 ∨ how = 5 by omega) with rfl | rfl | rfl | rfl | rfl | rfl
      · exact select_0 A B C n m k ca cb cc y v w h hn hr
      · exact select_1 A B C n m k ca cb cc y v w h hn hr
      · exact select_2 A B C n m k ca cb cc y v w h hn hr
      · exact select_3 A B C n m k ca cb cc y v w h hn hr
      · exact select_4 A B C n m k ca cb cc y v w h hn hr
      · exact select_5 A B C n m k ca cb cc y v w h hn hr
    · rw [if_neg (fun h => hh h.2), if_neg (fun h => hh h.2)]
      exact select_how A B C n m k ca cb cc v w how hr (by omega)
  · rw [if_neg (fun h => hr h.1), if_neg (fun h => hr h.1)]
    exact select_no A B C n m k ca cb cc v w how hr
end Go.Proofs.Ytmdpdhdjbnhmeaa

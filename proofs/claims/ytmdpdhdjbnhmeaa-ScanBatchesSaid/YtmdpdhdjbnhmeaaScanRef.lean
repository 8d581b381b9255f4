/- Contracts of the document's answers: Right, Span, Select, Take, ints, Same. -/
import Derived.Test.YtmdpdhdjbnhmeaaCols
import Derived.Test.YtmdpdhdjbnhmeaaScanSelect
namespace Go.Proofs.Ytmdpdhdjbnhmeaa
open Go.RowKit
set_option linter.unusedVariables false

theorem rright_any (A B C : Option Addr) (n m k ca cb cc : Nat) (w : World) (ok : Bool) (hok : ok = true ↔ n = m ∧ n = k) :
    Calls Try.prog 33 #[.agg #[.slice A n ca, .slice B m cb, .slice C k cc]] w fun e w' => e = .returned (.bool ok) ∧ Below w.heap.size w w' := by
  have HO := Lib.hid hok; clear hok
  by_cases h1 : n = m
  · subst h1
    by_cases h2 : n = k
    · subst h2
      go_enter Try.func33, Try.ntmps33
      go_wp2
      go_ret
      exact ⟨ret_bool (HO.out.2 (by first | exact ⟨rfl, rfl⟩ | exact ⟨trivial, trivial⟩)).symm, (Below.refl _ _).alloc (Nat.le_refl _) _⟩
    · have h2' : ((n : Int) == (k : Int)) = false := by simp; omega
      go_enter Try.func33, Try.ntmps33
      go_wp2
      go_ret
      refine ⟨ret_bool ?_, (Below.refl _ _).alloc (Nat.le_refl _) _⟩
      rcases Bool.eq_false_or_eq_true ok with h | h
      · exact absurd (HO.out.1 h).2 h2
      · rw [h]
  · have h1' : ((n : Int) == (m : Int)) = false := by simp; omega
    go_enter Try.func33, Try.ntmps33
    go_wp2
    go_ret
    refine ⟨ret_bool ?_, (Below.refl _ _).alloc (Nat.le_refl _) _⟩
    rcases Bool.eq_false_or_eq_true ok with h | h
    · exact absurd (HO.out.1 h).1 h1
    · rw [h]

set_option maxHeartbeats 2000000 in
theorem rspan_yes (A B C : Option Addr) (n m k ca cb cc : Nat) (x : Nat → Int) (a b : Int) (w : World) (h : Ints w A n x) (hn : n ≤ 1000000) (hr : n = m ∧ n = k) :
    Calls Try.prog 18 #[.agg #[.slice A n ca, .slice B m cb, .slice C k cc], .int .i64 a, .int .i64 b] w (ListsPost w (whereL x (inSpan a b) n) 0) := by
  have HR := Lib.hid (fun w => rright_any A B C n m k ca cb cc w true (by simp; exact hr))
  clear hr
  obtain ⟨W, hW⟩ : ∃ W, W = w.alloc (.cells #[.slice A n ca, .slice B m cb, .slice C k cc] 41) := ⟨_, rfl⟩
  have hB : Below w.heap.size w W := by rw [hW]; exact (Below.refl _ _).alloc (Nat.le_refl _) _
  have d0 : W.cell? ⟨w.heap.size, 0, none⟩ = some (.slice A n ca) := by rw [hW]; exact cell_newk rfl rfl
  have d1 : W.cell? ⟨w.heap.size, 1, none⟩ = some (.slice B m cb) := by rw [hW]; exact cell_newk rfl rfl
  have HH := Lib.hid hW; clear hW
  go_enter Try.func18, Try.ntmps18
  go_wp2_with fail
  rw [← HH.out]
  with_reducible refine (HR.out W).mono ?_
  rintro e w1 ⟨rfl, hb1⟩
  replace d0 := cell_be hb1 d0
  replace d1 := cell_be hb1 d1
  have hbel : Below w.heap.size w w1 := hB.trans (hb1.mono hB.size)
  have h1 : Ints w1 A n x := Cells.below h hbel
  clear hB hb1 h HH HR
  go_wp2_with fail
  go_loopw [8, 9] (WhereRel w1 n x (inSpan a b)) (fun _ i _ => n - (intOf i).toNat)
  case atStart => exact ⟨0, none, 0, 0, rfl, by omega, rfl, rfl, World.ownsRow_nil _ _ _ _, Below.refl _ _⟩
  case round =>
    obtain ⟨q, A', c', l, hm, hk, rfl, rfl, hown, hbl⟩ := hrel
    have hlen : l ≤ q := by rw [hm]; exact whereL_le x (inSpan a b) q
    have HM := Lib.hid hm; clear hm
    replace d0 := cell_be hbl d0
    replace d1 := cell_be hbl d1
    have hsz := hbl.size
    by_cases hlt : q < n
    · obtain ⟨b', off, rfl, hb, hc⟩ := h1 (by omega)
      obtain ⟨u, hu⟩ : ∃ u, u = x q := ⟨_, rfl⟩
      have hck : wr.cell? ⟨b', off + q, none⟩ = some (.int .i64 u) := by rw [hu]; exact (hbl.cell (p := ⟨b', off + q, none⟩) hb).trans (hc q hlt)
      have HU := Lib.hid hu
      clear hc h1 hu
      by_cases g1 : a ≤ u
      · by_cases g2 : u < b
        · have HP := Lib.hid (whereL_yes (x := x) (p := inSpan a b) (k := q) (by rw [← HU.out]; exact inSpan_iff.2 ⟨g1, g2⟩))
          go_wp2_with (at_builtin; refine wpList_append_new intElem hown hbl (Nat.le_refl _) (by omega) rfl _ _ rfl [.int .i64 q] rfl rfl rfl (by simp [Value.oneCell']) (by unfold maxLen; omega) (by omega) ?_; intro A1 c1 w3 ho3 hb3 _)
          refine ⟨⟨q + 1, A1, c1, l + 1, by rw [HP.out]; simp [HM.out], by omega, by go_num, rfl, ?_, hb3⟩, by simp [intOf]; omega⟩
          rw [HP.out, cells1_append]; exact ho3
        · have HP := Lib.hid (whereL_no (x := x) (p := inSpan a b) (k := q) (by rw [← HU.out]; exact inSpan_no.2 (fun h => g2 h.2)))
          go_wp2
          refine ⟨⟨q + 1, A', c', l, by rw [HP.out]; exact HM.out, by omega, by go_num, rfl, ?_, hbl⟩, by simp [intOf]; omega⟩
          rw [HP.out]; exact hown
      · have HP := Lib.hid (whereL_no (x := x) (p := inSpan a b) (k := q) (by rw [← HU.out]; exact inSpan_no.2 (fun h => g1 h.1)))
        have hd : decide (a ≤ u) = false := decide_eq_false g1
        go_wp2
        refine ⟨⟨q + 1, A', c', l, by rw [HP.out]; exact HM.out, by omega, by go_num, rfl, ?_, hbl⟩, by simp [intOf]; omega⟩
        rw [HP.out]; exact hown
    · obtain rfl : q = n := by omega
      go_wp2
      go_ret2
      refine ⟨A', c', ?_, ?_, hbel.trans (hbl.mono hbel.size)⟩
      · rw [← HM.out]; rfl
      · have := LInts.of_own (L := whereL x (inSpan a b) q) (by rw [← HM.out]; exact hown)
        exact this
set_option maxHeartbeats 1000000 in
theorem rspan_no (A B C : Option Addr) (n m k ca cb cc : Nat) (a b : Int) (w : World) (hr : ¬ (n = m ∧ n = k)) :
    Calls Try.prog 18 #[.agg #[.slice A n ca, .slice B m cb, .slice C k cc], .int .i64 a, .int .i64 b] w (ListsPost w [] 2) := by
  have HR := Lib.hid (fun w => rright_any A B C n m k ca cb cc w false (by simp; omega))
  clear hr
  obtain ⟨W, hW⟩ : ∃ W, W = w.alloc (.cells #[.slice A n ca, .slice B m cb, .slice C k cc] 41) := ⟨_, rfl⟩
  have hB : Below w.heap.size w W := by rw [hW]; exact (Below.refl _ _).alloc (Nat.le_refl _) _
  have d0 : W.cell? ⟨w.heap.size, 0, none⟩ = some (.slice A n ca) := by rw [hW]; exact cell_newk rfl rfl
  have d1 : W.cell? ⟨w.heap.size, 1, none⟩ = some (.slice B m cb) := by rw [hW]; exact cell_newk rfl rfl
  have HH := Lib.hid hW; clear hW
  go_enter Try.func18, Try.ntmps18
  go_wp2_with fail
  rw [← HH.out]
  with_reducible refine (HR.out W).mono ?_
  rintro e w1 ⟨rfl, hb1⟩
  have hbel : Below w.heap.size w w1 := hB.trans (hb1.mono hB.size)
  go_wp2
  go_ret2
  exact ⟨none, 0, rfl, Cells.zero _ _ _, hbel⟩
theorem holds_any (how a v : Int) (w : World) (h0 : 0 ≤ how) (h5 : how ≤ 5) :
    Calls Try.prog 40 #[.int .i64 how, .int .i64 a, .int .i64 v] w fun e w' => e = .returned (.bool (holdsB how v a)) ∧ w = w' := by
  rcases (show how = 0 ∨ how = 1 ∨ how = 2 ∨ how = 3 ∨ how = 4 ∨ how = 5 by omega) with rfl | rfl | rfl | rfl | rfl | rfl
  all_goals
    go_enter Try.func40, Try.ntmps40
    go_wp2
    go_ret
    exact ⟨ret_bool (by simp [holdsB]), rfl⟩
set_option maxHeartbeats 2000000 in
theorem rselect_yes (A B C : Option Addr) (n m k ca cb cc : Nat) (x : Nat → Int) (how v : Int) (w : World) (h : Ints w B m x) (hn : m ≤ 1000000) (hr : n = m ∧ n = k) (h0 : 0 ≤ how) (h5 : how ≤ 5) :
    Calls Try.prog 17 #[.agg #[.slice A n ca, .slice B m cb, .slice C k cc], .int .i64 how, .int .i64 v] w (ListsPost w (whereL x (holdsB how v) m) 0) := by
  have HR := Lib.hid (fun w => rright_any A B C n m k ca cb cc w true (by simp; exact hr))
  clear hr
  obtain ⟨W, hW⟩ : ∃ W, W = w.alloc (.cells #[.slice A n ca, .slice B m cb, .slice C k cc] 41) := ⟨_, rfl⟩
  have hB : Below w.heap.size w W := by rw [hW]; exact (Below.refl _ _).alloc (Nat.le_refl _) _
  have d0 : W.cell? ⟨w.heap.size, 0, none⟩ = some (.slice A n ca) := by rw [hW]; exact cell_newk rfl rfl
  have d1 : W.cell? ⟨w.heap.size, 1, none⟩ = some (.slice B m cb) := by rw [hW]; exact cell_newk rfl rfl
  have HH := Lib.hid hW; clear hW
  go_enter Try.func17, Try.ntmps17
  go_wp2_with fail
  rw [← HH.out]
  with_reducible refine (HR.out W).mono ?_
  rintro e w1 ⟨rfl, hb1⟩
  replace d0 := cell_be hb1 d0
  replace d1 := cell_be hb1 d1
  have hbel : Below w.heap.size w w1 := hB.trans (hb1.mono hB.size)
  have h1 : Ints w1 B m x := Cells.below h hbel
  clear hB hb1 h HH HR
  go_wp2_with fail
  go_loopw [8, 9] (WhereRel w1 m x (holdsB how v)) (fun _ i _ => m - (intOf i).toNat)
  case atStart => exact ⟨0, none, 0, 0, rfl, by omega, rfl, rfl, World.ownsRow_nil _ _ _ _, Below.refl _ _⟩
  case round =>
    obtain ⟨q, A', c', l, hm, hk, rfl, rfl, hown, hbl⟩ := hrel
    have hlen : l ≤ q := by rw [hm]; exact whereL_le x (holdsB how v) q
    have HM := Lib.hid hm; clear hm
    replace d0 := cell_be hbl d0
    replace d1 := cell_be hbl d1
    have hsz := hbl.size
    by_cases hlt : q < m
    · obtain ⟨b', off, rfl, hb, hc⟩ := h1 (by omega)
      obtain ⟨u, hu⟩ : ∃ u, u = x q := ⟨_, rfl⟩
      have hck : wr.cell? ⟨b', off + q, none⟩ = some (.int .i64 u) := by rw [hu]; exact (hbl.cell (p := ⟨b', off + q, none⟩) hb).trans (hc q hlt)
      have HU := Lib.hid hu
      clear hc h1 hu
      have HC := Lib.hid (holds_any how u v wr h0 h5)
      go_wp2_with fail
      with_reducible refine HC.out.mono ?_
      rintro e w2 ⟨rfl, rfl⟩
      rcases Bool.eq_false_or_eq_true (holdsB how v u) with hp | hp
      · have HP := Lib.hid (whereL_yes (x := x) (p := holdsB how v) (k := q) (by rw [← HU.out]; exact hp))
        go_wp2_with (at_builtin; refine wpList_append_new intElem hown hbl (Nat.le_refl _) (by omega) rfl _ _ rfl [.int .i64 q] rfl rfl rfl (by simp [Value.oneCell']) (by unfold maxLen; omega) (by omega) ?_; intro A1 c1 w3 ho3 hb3 _)
        refine ⟨⟨q + 1, A1, c1, l + 1, by rw [HP.out]; simp [HM.out], by omega, by go_num, rfl, ?_, hb3⟩, by simp [intOf]; omega⟩
        rw [HP.out, cells1_append]; exact ho3
      · have HP := Lib.hid (whereL_no (x := x) (p := holdsB how v) (k := q) (by rw [← HU.out]; exact hp))
        go_wp2
        refine ⟨⟨q + 1, A', c', l, by rw [HP.out]; exact HM.out, by omega, by go_num, rfl, ?_, hbl⟩, by simp [intOf]; omega⟩
        rw [HP.out]; exact hown
    · obtain rfl : q = m := by omega
      go_wp2
      go_ret2
      refine ⟨A', c', ?_, ?_, hbel.trans (hbl.mono hbel.size)⟩
      · rw [← HM.out]; rfl
      · have := LInts.of_own (L := whereL x (holdsB how v) q) (by rw [← HM.out]; exact hown)
        exact this
set_option maxHeartbeats 1000000 in
theorem rselect_no (A B C : Option Addr) (n m k ca cb cc : Nat) (how v : Int) (w : World) (hr : ¬ (n = m ∧ n = k)) :
    Calls Try.prog 17 #[.agg #[.slice A n ca, .slice B m cb, .slice C k cc], .int .i64 how, .int .i64 v] w (ListsPost w [] 2) := by
  have HR := Lib.hid (fun w => rright_any A B C n m k ca cb cc w false (by simp; omega))
  clear hr
  obtain ⟨W, hW⟩ : ∃ W, W = w.alloc (.cells #[.slice A n ca, .slice B m cb, .slice C k cc] 41) := ⟨_, rfl⟩
  have hB : Below w.heap.size w W := by rw [hW]; exact (Below.refl _ _).alloc (Nat.le_refl _) _
  have d0 : W.cell? ⟨w.heap.size, 0, none⟩ = some (.slice A n ca) := by rw [hW]; exact cell_newk rfl rfl
  have d1 : W.cell? ⟨w.heap.size, 1, none⟩ = some (.slice B m cb) := by rw [hW]; exact cell_newk rfl rfl
  have HH := Lib.hid hW; clear hW
  go_enter Try.func17, Try.ntmps17
  go_wp2_with fail
  rw [← HH.out]
  with_reducible refine (HR.out W).mono ?_
  rintro e w1 ⟨rfl, hb1⟩
  have hbel : Below w.heap.size w w1 := hB.trans (hb1.mono hB.size)
  go_wp2
  go_ret2
  exact ⟨none, 0, rfl, Cells.zero _ _ _, hbel⟩
set_option maxHeartbeats 1000000 in
theorem rselect_how (A B C : Option Addr) (n m k ca cb cc : Nat) (how v : Int) (w : World) (hr : n = m ∧ n = k) (hh : how < 0 ∨ 5 < how) :
    Calls Try.prog 17 #[.agg #[.slice A n ca, .slice B m cb, .slice C k cc], .int .i64 how, .int .i64 v] w (ListsPost w [] 2) := by
  have HR := Lib.hid (fun w => rright_any A B C n m k ca cb cc w true (by simp; exact hr))
  clear hr
  rcases hh with hh | hh
  · have hd : how < 0 := hh
    obtain ⟨W, hW⟩ : ∃ W, W = w.alloc (.cells #[.slice A n ca, .slice B m cb, .slice C k cc] 41) := ⟨_, rfl⟩
    have hB : Below w.heap.size w W := by rw [hW]; exact (Below.refl _ _).alloc (Nat.le_refl _) _
    have d0 : W.cell? ⟨w.heap.size, 0, none⟩ = some (.slice A n ca) := by rw [hW]; exact cell_newk rfl rfl
    have d1 : W.cell? ⟨w.heap.size, 1, none⟩ = some (.slice B m cb) := by rw [hW]; exact cell_newk rfl rfl
    have HH := Lib.hid hW; clear hW
    go_enter Try.func17, Try.ntmps17
    go_wp2_with fail
    rw [← HH.out]
    with_reducible refine (HR.out W).mono ?_
    rintro e w1 ⟨rfl, hb1⟩
    have hbel : Below w.heap.size w w1 := hB.trans (hb1.mono hB.size)
    go_wp2
    go_ret2
    exact ⟨none, 0, rfl, Cells.zero _ _ _, hbel⟩
  · have hd : ¬ how < 0 := by omega
    obtain ⟨W, hW⟩ : ∃ W, W = w.alloc (.cells #[.slice A n ca, .slice B m cb, .slice C k cc] 41) := ⟨_, rfl⟩
    have hB : Below w.heap.size w W := by rw [hW]; exact (Below.refl _ _).alloc (Nat.le_refl _) _
    have d0 : W.cell? ⟨w.heap.size, 0, none⟩ = some (.slice A n ca) := by rw [hW]; exact cell_newk rfl rfl
    have d1 : W.cell? ⟨w.heap.size, 1, none⟩ = some (.slice B m cb) := by rw [hW]; exact cell_newk rfl rfl
    have HH := Lib.hid hW; clear hW
    go_enter Try.func17, Try.ntmps17
    go_wp2_with fail
    rw [← HH.out]
    with_reducible refine (HR.out W).mono ?_
    rintro e w1 ⟨rfl, hb1⟩
    have hbel : Below w.heap.size w w1 := hB.trans (hb1.mono hB.size)
    go_wp2
    go_ret2
    exact ⟨none, 0, rfl, Cells.zero _ _ _, hbel⟩
theorem rselect_any (A B C : Option Addr) (n m k ca cb cc : Nat) (y : Nat → Int) (v how : Int) (w : World) (h : Ints w B m y) (hn : m ≤ 1000000) :
    Calls Try.prog 17 #[.agg #[.slice A n ca, .slice B m cb, .slice C k cc], .int .i64 how, .int .i64 v] w (ListsPost w (if (n = m ∧ n = k) ∧ 0 ≤ how ∧ how ≤ 5 then whereL y (holdsB how v) m else []) (if (n = m ∧ n = k) ∧ 0 ≤ how ∧ how ≤ 5 then 0 else 2)) := by
  by_cases hr : n = m ∧ n = k
  · by_cases hh : 0 ≤ how ∧ how ≤ 5
    · rw [if_pos ⟨hr, hh⟩, if_pos ⟨hr, hh⟩]
      exact rselect_yes A B C n m k ca cb cc y how v w h hn hr hh.1 hh.2
    · rw [if_neg (fun h => hh h.2), if_neg (fun h => hh h.2)]
      exact rselect_how A B C n m k ca cb cc how v w hr (by omega)
  · rw [if_neg (fun h => hr h.1), if_neg (fun h => hr h.1)]
    exact rselect_no A B C n m k ca cb cc how v w hr
theorem lints_same (A : Option Addr) (c : Nat) (A' : Option Addr) (c' : Nat) (L : List Int) (w : World) (h : LInts w A L) (h' : LInts w A' L) (hn : L.length ≤ 1000000) :
    Calls Try.prog 8 #[.slice A L.length c, .slice A' L.length c'] w fun e w' => e = .returned (.bool true) ∧ Below w.heap.size w w' := by
  go_enter Try.func8, Try.ntmps8
  go_wp2
  go_loopw [5] (fun i wr => ∃ k nn : Nat, k ≤ L.length ∧ i = .int .i64 k ∧ wr = w.drewN nn) (fun i _ => L.length - (intOf i).toNat)
  case atStart => exact ⟨0, 0, by omega, rfl, rfl⟩
  case round =>
    obtain ⟨k, nn, hk, rfl, rfl⟩ := hrel
    by_cases hlt : k < L.length
    · obtain ⟨b, off, rfl, hb, hc⟩ := h (by omega)
      obtain ⟨b', off', rfl, hb', hc'⟩ := h' (by omega)
      obtain ⟨u, hu⟩ : ∃ u, u = L.getD k 0 := ⟨_, rfl⟩
      have h1 : w.cell? ⟨b, off + k, none⟩ = some (.int .i64 u) := by rw [hu]; exact hc k hlt
      have h2 : w.cell? ⟨b', off' + k, none⟩ = some (.int .i64 u) := by rw [hu]; exact hc' k hlt
      clear hc hc' h h' hu
      have i0 : (0 : Int) ≤ (k : Int) := by omega
      have i1 : (k : Int) < (L.length : Int) := by omega
      go_wp2
      go_quiet (fail)
      go_wp2
      exact ⟨⟨k + 1, nn + nq, by omega, by go_num, rfl⟩, by simp [intOf]; omega⟩
    · go_wp2
      go_ret
      exact ⟨rfl, bel_drewN (Below.refl _ _) _⟩
theorem rints_same (A : Option Addr) (c : Nat) (A' : Option Addr) (c' : Nat) (L : List Int) (w : World) (h : LInts w A L) (h' : LInts w A' L) (hn : L.length ≤ 1000000) :
    Calls Try.prog 32 #[.slice A L.length c, .slice A' L.length c'] w fun e w' => e = .returned (.bool true) ∧ Below w.heap.size w w' := by
  go_enter Try.func32, Try.ntmps32
  go_wp2
  go_loopw [5] (fun i wr => ∃ k nn : Nat, k ≤ L.length ∧ i = .int .i64 k ∧ wr = w.drewN nn) (fun i _ => L.length - (intOf i).toNat)
  case atStart => exact ⟨0, 0, by omega, rfl, rfl⟩
  case round =>
    obtain ⟨k, nn, hk, rfl, rfl⟩ := hrel
    by_cases hlt : k < L.length
    · obtain ⟨b, off, rfl, hb, hc⟩ := h (by omega)
      obtain ⟨b', off', rfl, hb', hc'⟩ := h' (by omega)
      obtain ⟨u, hu⟩ : ∃ u, u = L.getD k 0 := ⟨_, rfl⟩
      have h1 : w.cell? ⟨b, off + k, none⟩ = some (.int .i64 u) := by rw [hu]; exact hc k hlt
      have h2 : w.cell? ⟨b', off' + k, none⟩ = some (.int .i64 u) := by rw [hu]; exact hc' k hlt
      clear hc hc' h h' hu
      have i0 : (0 : Int) ≤ (k : Int) := by omega
      have i1 : (k : Int) < (L.length : Int) := by omega
      go_wp2
      go_quiet (fail)
      go_wp2
      exact ⟨⟨k + 1, nn + nq, by omega, by go_num, rfl⟩, by simp [intOf]; omega⟩
    · go_wp2
      go_ret
      exact ⟨rfl, bel_drewN (Below.refl _ _) _⟩
set_option maxHeartbeats 1000000 in
theorem same_same (A B C A' B' C' : Option Addr) (ca cb cc ca' cb' cc' : Nat) (X Y Z : List Int) (w : World) (hA : LInts w A X) (hB : LInts w B Y) (hC : LInts w C Z) (hA' : LInts w A' X) (hB' : LInts w B' Y) (hC' : LInts w C' Z) (hX : X.length ≤ 1000000) (hY : Y.length ≤ 1000000) (hZ : Z.length ≤ 1000000) :
    Calls Try.prog 12 #[.agg #[.slice A X.length ca, .slice B Y.length cb, .slice C Z.length cc], .agg #[.slice A' X.length ca', .slice B' Y.length cb', .slice C' Z.length cc']] w fun e w' => e = .returned (.bool true) ∧ Below w.heap.size w w' := by
  obtain ⟨W, hW⟩ : ∃ W, W = (w.alloc (.cells #[.slice A X.length ca, .slice B Y.length cb, .slice C Z.length cc] 41)).alloc (.cells #[.slice A' X.length ca', .slice B' Y.length cb', .slice C' Z.length cc'] 41) := ⟨_, rfl⟩
  have hB0 : Below w.heap.size w W := by rw [hW]; exact ((Below.refl _ _).alloc (Nat.le_refl _) _).alloc (by simp) _
  have a0 : W.cell? ⟨w.heap.size, 0, none⟩ = some (.slice A X.length ca) := by rw [hW]; exact cell_al (cell_newk rfl rfl)
  have a1 : W.cell? ⟨w.heap.size, 1, none⟩ = some (.slice B Y.length cb) := by rw [hW]; exact cell_al (cell_newk rfl rfl)
  have a2 : W.cell? ⟨w.heap.size, 2, none⟩ = some (.slice C Z.length cc) := by rw [hW]; exact cell_al (cell_newk rfl rfl)
  have b0 : W.cell? ⟨w.heap.size + 1, 0, none⟩ = some (.slice A' X.length ca') := by rw [hW]; exact cell_newk (by simp) rfl
  have b1 : W.cell? ⟨w.heap.size + 1, 1, none⟩ = some (.slice B' Y.length cb') := by rw [hW]; exact cell_newk (by simp) rfl
  have b2 : W.cell? ⟨w.heap.size + 1, 2, none⟩ = some (.slice C' Z.length cc') := by rw [hW]; exact cell_newk (by simp) rfl
  have HH := Lib.hid hW; clear hW
  have K1 := Lib.hid (fun w' (hb : Below w.heap.size w w') => rints_same A ca A' ca' X w' (hA.below hb) (hA'.below hb) hX)
  have K2 := Lib.hid (fun w' (hb : Below w.heap.size w w') => rints_same B cb B' cb' Y w' (hB.below hb) (hB'.below hb) hY)
  have K3 := Lib.hid (fun w' (hb : Below w.heap.size w w') => rints_same C cc C' cc' Z w' (hC.below hb) (hC'.below hb) hZ)
  clear hA hB hC hA' hB' hC' hX hY hZ
  go_enter Try.func12, Try.ntmps12
  go_wp2_with fail
  rw [← HH.out]
  clear HH
  with_reducible refine (K1.out W hB0).mono ?_
  rintro e w1 ⟨rfl, hb1⟩
  replace a1 := cell_be hb1 a1
  replace a2 := cell_be hb1 a2
  replace b1 := cell_be hb1 b1
  replace b2 := cell_be hb1 b2
  replace hB0 := bel_step hB0 (Nat.le_refl _) hb1
  clear hb1 a0 b0
  go_wp2_with fail
  with_reducible refine (K2.out w1 hB0).mono ?_
  rintro e w2 ⟨rfl, hb1⟩
  replace a2 := cell_be hb1 a2
  replace b2 := cell_be hb1 b2
  replace hB0 := bel_step hB0 (Nat.le_refl _) hb1
  clear hb1 a1 b1
  go_wp2_with fail
  with_reducible refine (K3.out w2 hB0).mono ?_
  rintro e w3 ⟨rfl, hb1⟩
  replace hB0 := bel_step hB0 (Nat.le_refl _) hb1
  clear hb1 a2 b2
  go_wp2
  go_ret
  exact ⟨rfl, hB0⟩
end Go.Proofs.Ytmdpdhdjbnhmeaa

/- Contracts of gaps.Fill where no hole is told: errors, and the way that fills none. -/
import Derived.Test.YtljepnonigjcbaaGFine
import Derived.Test.YtljepnonigjcbaaGHole
import Derived.Test.YtljepnonigjcbaaGWin
namespace Go.Proofs.Ytljepnonigjcbaa
open Go Go.RowKit
set_option linter.unusedVariables false

theorem cell_one' {w : World} {x : Value} {t : TypeId} : (w.alloc (.cells #[x] t)).cell? ⟨w.heap.size, 0, none⟩ = some x := by simp
theorem rowElem' : Elem Try.prog 22 39 (.agg #[.int .i64 0, .int .i64 0, .bool false, .int .i64 0, .int .u64 0]) 5 40 := Elem.mk' Try.underlying22 (by kernel_rfl) rfl (by decide)
theorem cells5_one' (L : List Rw) : ∀ u ∈ cells5 L, u.oneCell' = true := by
  intro u hu
  simp only [cells5, List.mem_flatMap] at hu
  obtain ⟨r, _, hu⟩ := hu
  simp [rwCells] at hu
  rcases hu with rfl | rfl | rfl | rfl | rfl <;> rfl
/-- 'append(own, rows...)' -/
theorem wpList_append_rows {P : Program} {t e : TypeId} {z : Value} {bytes : Nat} (E : Elem P t e z 5 bytes) {w0 w : World} {B base : Nat} {A : Option Addr} {c0 n : Nat} {xs : List Value}
    (hown : w.ownsRow base e 5 (.slice A n c0) n xs) (hb : Below B w0 w) (hB : B ≤ base) (hbase : base ≤ w.heap.size)
    {ops : Array Oper} {rest : List Oper} {o : Oper} {a : Act} {Q : Exit → Act → World → Prop} (hgd : o.guard = none) (s x : Operand)
    (ho : o.op = .call { callee := .builtin .append, args := #[s, x], argTypes := #[t, t] }) (S : Option Addr) (L : List Rw) (c : Nat)
    (hs : a.eval s = .slice A n c0) (hx : a.eval x = .slice S L.length c) (hL : RowsAt w S L) (hc : S = none → c = 0)
    (h63 : n + L.length ≤ maxLen) (hbytes : (n + L.length) * bytes ≤ 140737488355328)
    (h : ∀ A' c' w1, w1.ownsRow base e 5 (.slice A' (n + L.length) c') (n + L.length) (xs ++ cells5 L) → Below B w0 w1 → w.grownBy w1 (Value.ownBlock (.slice A n c0)) → wpList P ops Q rest (a.put o.dst (.slice A' (n + L.length) c')) w1) :
    wpList P ops Q (o :: rest) a w := by
  obtain ⟨i, hi, hz, hsz, hby⟩ := E.info
  refine wpList_plain hgd fun K hK => ?_
  cases S with
  | none =>
    have hc' : c = 0 := hc rfl
    have hl : L = [] := by
      cases L with
      | nil => rfl
      | cons u L => obtain ⟨b, off, e, _⟩ := hL (by simp); cases e
    subst hc' hl
    have hrun := run_append_owned_none (P := P) (w := w) base t o.type e i 5 E.slice hi _ n xs hown
    unfold Oper.wp
    simp [execOp, ho, resolve, invoke, builtin, hs, hx, hrun, Result.andThen]
    refine hK _ _ ?_
    have := h A c0 w (by simpa [cells5] using hown) hb ⟨rfl, rfl, rfl, Nat.le_refl _, fun _ _ _ => rfl⟩
    simpa using this
  | some ad =>
    refine wp_append_own _ s x t ho base e i z 5 bytes E.slice hi hz hsz hby E.zs E.pos _ n xs hs hown ad L.length c (cells5 L) hx (cells5_length L) ?_ (cells5_one' L) h63 hbytes hbase ?_
    · intro j u hu
      have hj : j < L.length * 5 := by
        rw [← cells5_length]
        exact (List.getElem?_eq_some_iff.1 hu).1
      obtain ⟨b, off, e, _, hcell⟩ := hL (by omega)
      injection e with e
      subst e
      rw [Addr.add_lit, hcell j hj, ← hu, cells5_at L j hj]
    · intro v' w1 ho' hg _
      obtain ⟨A', c', rfl⟩ := own_form ho'
      refine hK _ _ (h A' c' w1 ho' (hb.grown hg (Nat.le_trans hB hbase) ?_) hg)
      intro k hk
      have := hown.lt k hk
      omega
theorem own_empty5 (w : World) (base : Nat) (e : TypeId) (h : base ≤ w.heap.size) : (w.alloc (.cells #[] e)).ownsRow base e 5 (.slice (some ⟨w.heap.size, 0, none⟩) 0 0) 0 [] :=
  ⟨rfl, .inr ⟨w.heap.size, 0, #[], rfl, h, heap_alloc_new w _, Nat.le_refl _, Nat.zero_le _, rfl, rfl⟩⟩
theorem own_cap' {w : World} {base : Nat} {e : TypeId} {size : Nat} {A : Option Addr} {c n : Nat} {xs : List Value} (h : w.ownsRow base e size (.slice A n c) n xs) : (A = none → c = 0) ∧ n ≤ c ∧ c ≤ 9223372036854775807 := by
  rcases h.2 with ⟨hv, h0⟩ | ⟨g, cap, cur, hv, hb, hg, hnc, hcm, hcs, htake⟩
  · injection hv with h1 h2 h3
    subst h1 h2 h3
    exact ⟨fun _ => rfl, by omega, by omega⟩
  · injection hv with h1 h2 h3
    subst h1 h3
    refine ⟨fun e => (nomatch e), hnc, ?_⟩
    unfold maxLen at hcm; omega
def FillNo (w : World) (k : Int) (e : Ending) (w' : World) : Prop := e = .returned (.tuple #[.slice none 0 0, .int .i64 k]) ∧ Below w.heap.size w w'
theorem fill_bad (A : Option Addr) (R : List Rw) (c : Nat) (W S O fr to_ how : Int) (L : List (Int × Int)) (k : Int) (hk : k ≠ 0) (w : World)
    (hall : ∀ w, Calls Try.prog 11 #[.agg #[.int .i64 W, .int .i64 S, .int .i64 O], .agg #[.int .i64 fr, .int .i64 to_]] w (PairsPost w L k)) :
    Calls Try.prog 6 #[.slice A R.length c, .agg #[.int .i64 W, .int .i64 S, .int .i64 O], .agg #[.int .i64 fr, .int .i64 to_], .int .i64 how] w (FillNo w k) := by
  have hk' : (k == 0) = false := by simpa using hk
  have HALL := Lib.hid hall; clear hall
  go_enter Try.func6, Try.ntmps6
  go_wp2_with fail
  with_reducible refine (HALL.out _).mono ?_
  rintro e w1 ⟨B, cB, rfl, hpr, hb1⟩
  have hbx : w1.cell? ⟨w.heap.size, 0, none⟩ = some (.slice A R.length c) := cell_be hb1 (cell_al (cell_al cell_one'))
  have hbel1 : Below w.heap.size w w1 := bel_step ((((Below.refl _ w).alloc (Nat.le_refl _) _).alloc (by simp) _).alloc (by simp; omega) _) (Nat.le_refl _) hb1
  clear hb1
  go_wp2
  go_ret2
  exact ⟨rfl, hbel1⟩
theorem fill_how (A : Option Addr) (R : List Rw) (c : Nat) (W S O fr to_ how : Int) (L : List (Int × Int)) (hh : ¬ (0 ≤ how ∧ how ≤ 3)) (w : World)
    (hall : ∀ w, Calls Try.prog 11 #[.agg #[.int .i64 W, .int .i64 S, .int .i64 O], .agg #[.int .i64 fr, .int .i64 to_]] w (PairsPost w L 0)) :
    Calls Try.prog 6 #[.slice A R.length c, .agg #[.int .i64 W, .int .i64 S, .int .i64 O], .agg #[.int .i64 fr, .int .i64 to_], .int .i64 how] w (FillNo w 2) := by
  have h0 : (how == 0) = false := by rw [beq_eq_false_iff_ne]; omega
  have h1 : (how == 1) = false := by rw [beq_eq_false_iff_ne]; omega
  have h2 : (how == 2) = false := by rw [beq_eq_false_iff_ne]; omega
  have h3 : (how == 3) = false := by rw [beq_eq_false_iff_ne]; omega
  clear hh
  have HALL := Lib.hid hall; clear hall
  go_enter Try.func6, Try.ntmps6
  go_wp2_with fail
  with_reducible refine (HALL.out _).mono ?_
  rintro e w1 ⟨B, cB, rfl, hpr, hb1⟩
  have hbx : w1.cell? ⟨w.heap.size, 0, none⟩ = some (.slice A R.length c) := cell_be hb1 (cell_al (cell_al cell_one'))
  have hbel1 : Below w.heap.size w w1 := bel_step ((((Below.refl _ w).alloc (Nat.le_refl _) _).alloc (by simp) _).alloc (by simp; omega) _) (Nat.le_refl _) hb1
  clear hb1
  go_wp2
  go_ret2
  exact ⟨rfl, hbel1⟩
theorem fill_unfine (A : Option Addr) (R : List Rw) (c : Nat) (W S O fr to_ how : Int) (L : List (Int × Int)) (hh : how = 0 ∨ how = 1 ∨ how = 2 ∨ how = 3) (w : World) (hr : RowsAt w A R) (hR : ∀ r ∈ R, rwOk r) (hRn : R.length ≤ 9223372036854775807) (hLn : L.length ≤ 65536) (hL : ∀ p ∈ L, in64' p.1 ∧ in64' p.2) (hf : ¬ fineR R L)
    (hall : ∀ w, Calls Try.prog 11 #[.agg #[.int .i64 W, .int .i64 S, .int .i64 O], .agg #[.int .i64 fr, .int .i64 to_]] w (PairsPost w L 0)) :
    Calls Try.prog 6 #[.slice A R.length c, .agg #[.int .i64 W, .int .i64 S, .int .i64 O], .agg #[.int .i64 fr, .int .i64 to_], .int .i64 how] w (FillNo w 2) := by
  have HR := Lib.hid hR; clear hR
  have HL := Lib.hid hL; clear hL
  have HF := Lib.hid hf; clear hf
  rcases hh with rfl | rfl | rfl | rfl
  all_goals
    have HALL := Lib.hid hall; clear hall
    go_enter Try.func6, Try.ntmps6
    go_wp2_with fail
    with_reducible refine (HALL.out _).mono ?_
    rintro e w1 ⟨B, cB, rfl, hpr, hb1⟩
    have hbx : w1.cell? ⟨w.heap.size, 0, none⟩ = some (.slice A R.length c) := cell_be hb1 (cell_al (cell_al cell_one'))
    have hbel1 : Below w.heap.size w w1 := bel_step ((((Below.refl _ w).alloc (Nat.le_refl _) _).alloc (by simp) _).alloc (by simp; omega) _) (Nat.le_refl _) hb1
    clear hb1
    have hr1 := hr.below hbel1
    have HFI := Lib.hid (fine_any A B R L c cB w1 hr1 hpr HR.out HL.out hRn hLn false (by simp; exact HF.out))
    go_wp2_with fail
    with_reducible refine HFI.out.mono ?_
    rintro e w2 ⟨rfl, hb2⟩
    go_wp2
    go_ret2
    exact ⟨rfl, bel_step hbel1 (Nat.le_refl _) hb2⟩
theorem fill_0 (A : Option Addr) (R : List Rw) (c : Nat) (W S O fr to_ : Int) (L : List (Int × Int)) (w : World) (hr : RowsAt w A R) (hR : ∀ r ∈ R, rwOk r) (hRn : R.length ≤ 65536) (hLn : L.length ≤ 65536) (hL : ∀ p ∈ L, in64' p.1 ∧ in64' p.2) (hf : fineR R L) (hA : A = none → c = 0)
    (hall : ∀ w, Calls Try.prog 11 #[.agg #[.int .i64 W, .int .i64 S, .int .i64 O], .agg #[.int .i64 fr, .int .i64 to_]] w (PairsPost w L 0)) :
    Calls Try.prog 6 #[.slice A R.length c, .agg #[.int .i64 W, .int .i64 S, .int .i64 O], .agg #[.int .i64 fr, .int .i64 to_], .int .i64 0] w fun e w' => ∃ A' c', e = .returned (.tuple #[.slice A' R.length c', .int .i64 0]) ∧ RowsAt w' A' R ∧ (A' = none → c' = 0) ∧ R.length ≤ c' ∧ c' ≤ 9223372036854775807 ∧ Below w.heap.size w w' := by
  have HR := Lib.hid hR; clear hR
  have HL := Lib.hid hL; clear hL
  have HF := Lib.hid hf; clear hf
  have HALL := Lib.hid hall; clear hall
  go_enter Try.func6, Try.ntmps6
  go_wp2_with fail
  with_reducible refine (HALL.out _).mono ?_
  rintro e w1 ⟨B, cB, rfl, hpr, hb1⟩
  have hbx : w1.cell? ⟨w.heap.size, 0, none⟩ = some (.slice A R.length c) := cell_be hb1 (cell_al (cell_al cell_one'))
  have hbel1 : Below w.heap.size w w1 := bel_step ((((Below.refl _ w).alloc (Nat.le_refl _) _).alloc (by simp) _).alloc (by simp; omega) _) (Nat.le_refl _) hb1
  clear hb1
  have hr1 := hr.below hbel1
  have HFI := Lib.hid (fine_any A B R L c cB w1 hr1 hpr HR.out HL.out (by omega) hLn true (by simp; exact HF.out))
  go_wp2_with fail
  with_reducible refine HFI.out.mono ?_
  rintro e w2 ⟨rfl, hb2⟩
  replace hbx := cell_be hb2 hbx
  replace hr1 := hr1.below hb2
  replace hbel1 := bel_step hbel1 (Nat.le_refl _) hb2
  have hz := World.block_lt_of_cell? _ _ hbx
  dsimp only at hz
  have ho2 := own_empty5 w2 w2.heap.size 39 (Nat.le_refl _)
  have hr2 := hr1.below ((Below.refl w2.heap.size w2).alloc (Nat.le_refl _) (.cells #[] 39))
  go_wp2_with (at_builtin; refine wpList_append_rows rowElem' ho2 ((Below.refl w2.heap.size w2).alloc (Nat.le_refl _) _) (Nat.le_refl _) (by simp) rfl _ _ rfl A R c rfl rfl hr2 hA (by unfold maxLen; omega) (by omega) ?_; intro A1 c1 w3 ho3 hb3 hg3)
  go_ret2
  rw [Nat.zero_add] at ho3
  have hc := own_cap' ho3
  exact ⟨A1, c1, rfl, RowsAt.of_own ho3, hc.1, hc.2.1, hc.2.2, bel_step hbel1 (Nat.le_refl _) hb3⟩
end Go.Proofs.Ytljepnonigjcbaa

/- The statement ScanBatchesSaid: for every input tidemilllaw20.ScanBatches returns true and leaves its arguments as they were. -/
import Derived.Test.YtmdpdhdjbnhmeaaRows
import Derived.Test.YtmdpdhdjbnhmeaaScanBatchesWalk
import Derived.Test.YtmdpdhdjbnhmeaaArgs
import Derived.Test.YtmdpdhdjbnhmeaaPtsArg
import Derived.WalkKit
import Derived.ProofKit
import Derived.OpenShut
import Derived.ShutString
import Derived.Below
import Derived.Lib.SmallJoins
namespace Go.Proofs.Ytmdpdhdjbnhmeaa.scanBatches
open Go.ChangeShapes Go.WideShapes Go.ChangeAt Go.RowKit Go.Joins
set_option linter.unusedVariables false

theorem own : ownKnob Try.prog.godebug = none := by kernel_rfl
theorem laidOut : laidOutB Try.prog = true := by kernel_rfl

set_option maxRecDepth 100000 in
theorem lifted (os : Os) (started : os.Started) (H : Type) (enc : TypeId × Value → H) :
    ReturnsInHanded {} Try.checked os 4 .any (Rows.scanBatchesSpec.pre6 enc Try.prog Try.f4 Rows.scanBatchesRow.domain false) (Rows.scanBatchesSpec.post enc Try.prog Try.f4 false true false false) := by
  refine returnsInHanded_of_change (C := Try.checked) own started (by kernel_rfl) Try.func4
    (ChangeSpec.witness6 (enc := enc) (C := Try.checked) false ⟨#[], #[.slice none 0 0, .int .i64 0, .agg #[.slice none 0 0, .slice none 0 0, .slice none 0 0]], []⟩ 8 (by kernel_rfl) (by kernel_rfl) (by kernel_rfl) (by kernel_rfl)) ?_
  intro W base args ds gs before hval0 hW hcnd _
  have hval : ∀ (j : Nat) t v, Try.f4.params[j]? = some t → args[j]? = some v → Value.okWide Try.prog W .any base t v := hval0
  have hW' := hW
  obtain ⟨p, q, hA0, hV, rfl, hfz, hnd⟩ := hW
  have hA : DataW.TrodAll enc Try.prog W 0 (fun _ => true) true Try.f4.params.toList args.toList ds p := hA0
  rw [Try.params4] at hA hval
  obtain ⟨v0, vs0, d0, ds0, p0, q0, hargs, rfl, rfl, h0, r0⟩ := trodAll_cons hA
  obtain ⟨v1, vs1, d1, ds1, p1, q1, rfl, rfl, rfl, h1, r1⟩ := trodAll_cons r0
  obtain ⟨v2, vs2, d2, ds2, p2, q2, rfl, rfl, rfl, h2, r2⟩ := trodAll_cons r1
  obtain ⟨rfl, rfl, rfl⟩ := trodAll_nil r2
  obtain rfl : args = #[v0, v1, v2] := by cases args; simp_all
  obtain ⟨rfl, rfl⟩ := trodVars_none hV
  obtain ⟨a0, len0, cap0, rfl⟩ := okWide_slice Try.underlying33 (hval 0 33 v0 rfl rfl)
  have k0 := h0
  have lt0 : ∀ x ∈ p0, x.block < W.heap.size := by obtain ⟨m, hm⟩ := k0; exact DataW.trod_lt m _ _ _ hm
  obtain ⟨x0, w0⟩ : ∃ x, PtsArg W a0 len0 cap0 x := by
    obtain ⟨fuel, hf⟩ := h0
    exact open_pts Try.underlying33 Try.underlying47 (by kernel_rfl) (by kernel_rfl) Try.underlying3 Try.underlying3 Try.underlying3 hf
  obtain ⟨a1, rfl, rfl, rfl, w1⟩ := open_int Try.underlying3 (hval 1 3 v1 rfl rfl) h1
  have k2 := h2
  have lt2 : ∀ x ∈ p2, x.block < W.heap.size := by obtain ⟨m, hm⟩ := k2; exact DataW.trod_lt m _ _ _ hm
  obtain ⟨c20, c21, c22, y20, y21, y22, m2, rfl, rfl, rfl, g20, g21, g22⟩ := open_agg3 Try.underlying25 (by kernel_rfl) (by kernel_rfl) (hval 2 25 v2 rfl rfl) h2
  obtain ⟨a20, len20, cap20, x20, e20, w20⟩ : ∃ A n c x, c20 = .slice A n c ∧ IntArg W A n c x := by
    rcases open_ints Try.underlying22 Try.underlying3 (by kernel_rfl) g20 with ⟨hcs, _⟩ | ⟨x, l, c, zs, hcs, _, hl, hm, hz, _, hcell, hwz⟩
    · simp at hcs
      exact ⟨none, 0, 0, _, hcs, IntArg.of_nil W⟩
    · simp at hcs
      exact ⟨some x, l, c, _, hcs, IntArg.of_open hl hm (by simpa using hz) hcell hwz⟩
  subst e20
  obtain ⟨a21, len21, cap21, x21, e21, w21⟩ : ∃ A n c x, c21 = .slice A n c ∧ IntArg W A n c x := by
    rcases open_ints Try.underlying22 Try.underlying3 (by kernel_rfl) g21 with ⟨hcs, _⟩ | ⟨x, l, c, zs, hcs, _, hl, hm, hz, _, hcell, hwz⟩
    · simp at hcs
      exact ⟨none, 0, 0, _, hcs, IntArg.of_nil W⟩
    · simp at hcs
      exact ⟨some x, l, c, _, hcs, IntArg.of_open hl hm (by simpa using hz) hcell hwz⟩
  subst e21
  obtain ⟨a22, len22, cap22, x22, e22, w22⟩ : ∃ A n c x, c22 = .slice A n c ∧ IntArg W A n c x := by
    rcases open_ints Try.underlying22 Try.underlying3 (by kernel_rfl) g22 with ⟨hcs, _⟩ | ⟨x, l, c, zs, hcs, _, hl, hm, hz, _, hcell, hwz⟩
    · simp at hcs
      exact ⟨none, 0, 0, _, hcs, IntArg.of_nil W⟩
    · simp at hcs
      exact ⟨some x, l, c, _, hcs, IntArg.of_open hl hm (by simpa using hz) hcell hwz⟩
  subst e22
  clear hA0 hval0
  refine (scanBatches_walk W a0 len0 cap0 x0 w0 a1 (bounds_i64 w1) a20 len20 cap20 x20 w20 a21 len21 cap21 x21 w21 a22 len22 cap22 x22 w22).mono fun e W' ⟨he, bel⟩ => ?_
  subst he
  exact ⟨_, rfl, _, _, _, [], _, [], hW', trodAll_mk1 (shut_bool Try.underlying4 _), (trodAll_cons_mk (Below.trod laidOut (by kernel_rfl) (of_decide_eq_true (by kernel_rfl)) k0 bel lt0) (trodAll_cons_mk (shut_int Try.underlying3 w1) (trodAll_cons_mk (Below.trod laidOut (by kernel_rfl) (of_decide_eq_true (by kernel_rfl)) k2 bel lt2) trodAll_mk0))), rfl, bel.frame _, fun h => by cases h⟩

theorem over : Rows.scanBatchesRow.holds Try.pinned (OpenSpec.ofChange Rows.scanBatchesSpec) :=
  OpenClaim.holds_of_wide 4 Try.f4 rfl rfl rfl rfl rfl rfl rfl ⟨rfl, rfl, rfl, rfl, rfl⟩ rfl rfl rfl rfl rfl (by kernel_rfl) Try.func4 (by kernel_rfl)
    (of_decide_eq_true (by kernel_rfl)) (by unfold Func.isWrapper; first | (rw [if_pos (by decide +kernel)]; kernel_rfl) | (rw [if_neg (by decide +kernel)]; exact ⟨rfl, rfl⟩))
    (fun os started H enc _ => lifted os started H enc)

theorem proved : Rows.ScanBatchesSaid := over
#print axioms proved
end Go.Proofs.Ytmdpdhdjbnhmeaa.scanBatches

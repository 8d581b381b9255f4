/- Region 1 of WideTells, as a theorem of its own. -/
import Derived.Test.YtohgpllonbplfaaWideAdd
import Derived.Test.YtohgpllonbplfaaWideCmp
import Derived.Test.YtohgpllonbplfaaWideTimes
import Derived.Test.YtohgpllonbplfaaRefMore
import Derived.Test.YtohgpllonbplfaaRefTimes
namespace Go.Proofs.Ytohgpllonbplfaa
open Go.RowKit
set_option linter.unusedVariables false

/-- a region of a text, by its number -/
def regionAt (n : Nat) : Code → Option Code
  | .region i o d => if i = n then some (.region i o d) else none
  | .seq a b => match regionAt n a with
    | some c => some c
    | none => regionAt n b
  | .block _ c => regionAt n c
  | .scope c => regionAt n c
  | .loop c => regionAt n c
  | .cond _ a b => match regionAt n a with
    | some c => some c
    | none => regionAt n b
  | _ => none
noncomputable def wreg1 : Code := ((Try.f4.body.bind (regionAt 1)).getD .skip)
/-- the two numbers -/
structure TwoAt (w : World) (a b : Int) (wx : World) : Prop where
  bel : Below w.heap.size w wx
  a0 : wx.cell? ⟨w.heap.size, 0, none⟩ = some (.int .i64 (hiW a))
  a1 : wx.cell? ⟨w.heap.size, 1, none⟩ = some (.int .u64 (loW a))
  b0 : wx.cell? ⟨w.heap.size + 1, 0, none⟩ = some (.int .i64 (hiW b))
  b1 : wx.cell? ⟨w.heap.size + 1, 1, none⟩ = some (.int .u64 (loW b))
theorem TwoAt.step {w wx wy : World} {a b : Int} (H : TwoAt w a b wx) (hb : Below wx.heap.size wx wy) : TwoAt w a b wy :=
  ⟨H.bel.trans (hb.mono H.bel.size), cell_be hb H.a0, cell_be hb H.a1, cell_be hb H.b0, cell_be hb H.b1⟩
theorem TwoAt.al {w wx : World} {a b : Int} (H : TwoAt w a b wx) (o : Obj) : TwoAt w a b (wx.alloc o) := H.step ((Below.refl _ _).alloc (Nat.le_refl _) _)
theorem TwoAt.dr {w wx : World} {a b : Int} (H : TwoAt w a b wx) : TwoAt w a b wx.drew := H.step (Below.refl _ _).drew
theorem TwoAt.lt {w wx : World} {a b : Int} (H : TwoAt w a b wx) : w.heap.size + 1 < wx.heap.size := World.block_lt_of_cell? _ _ H.b0
theorem TwoAt.set {w wx : World} {a b : Int} (H : TwoAt w a b wx) {g : Nat} (hg : w.heap.size + 1 < g) (s : Nat → Int) : TwoAt w a b ((((((((wx.setCell ⟨g, 0, none⟩ (.int .i64 (s 0))).setCell ⟨g, 1, none⟩ (.int .i64 (s 1))).setCell ⟨g, 2, none⟩ (.int .i64 (s 2))).setCell ⟨g, 3, none⟩ (.int .i64 (s 3))).setCell ⟨g, 4, none⟩ (.int .i64 (s 4))).setCell ⟨g, 5, none⟩ (.int .i64 (s 5))).setCell ⟨g, 6, none⟩ (.int .i64 (s 6))).setCell ⟨g, 7, none⟩ (.int .i64 (s 7))) :=
  ⟨bel_store H.bel (by omega) s, (cset (cset (cset (cset (cset (cset (cset (cset H.a0 (by omega)) (by omega)) (by omega)) (by omega)) (by omega)) (by omega)) (by omega)) (by omega)), (cset (cset (cset (cset (cset (cset (cset (cset H.a1 (by omega)) (by omega)) (by omega)) (by omega)) (by omega)) (by omega)) (by omega)) (by omega)), (cset (cset (cset (cset (cset (cset (cset (cset H.b0 (by omega)) (by omega)) (by omega)) (by omega)) (by omega)) (by omega)) (by omega)) (by omega)), (cset (cset (cset (cset (cset (cset (cset (cset H.b1 (by omega)) (by omega)) (by omega)) (by omega)) (by omega)) (by omega)) (by omega)) (by omega))⟩
/-- two cells of a block -/
def TwoC (w : World) (g : Nat) (v : Int) : Prop := w.cell? ⟨g, 0, none⟩ = some (.int .i64 (hiW v)) ∧ w.cell? ⟨g, 1, none⟩ = some (.int .u64 (loW v))
theorem TwoC.be {w w' : World} {g : Nat} {v : Int} (h : TwoC w g v) (hb : Below w.heap.size w w') : TwoC w' g v := ⟨cell_be hb h.1, cell_be hb h.2⟩
theorem TwoC.al {w : World} {g : Nat} {v : Int} (h : TwoC w g v) (o : Obj) : TwoC (w.alloc o) g v := ⟨cell_al h.1, cell_al h.2⟩
theorem TwoC.new (w : World) (t : TypeId) (v : Int) : TwoC (w.alloc (.cells #[.int .i64 (hiW v), .int .u64 (loW v)] t)) w.heap.size v := ⟨cell_new0 rfl, cell_new1 rfl⟩
set_option maxRecDepth 100000 in
set_option maxHeartbeats 8000000 in
theorem wtells1 (w W0 : World) (a b : Int) (K : Act → World → Prop) (Q : Exit → Act → World → Prop) (c0 c1 c2 c5 c6 c7 c8 c9 c10 c11 c12 c13 c14 c15 c16 c17 c18 c19 c20 c21 c22 c23 c24 c25 c26 c27 c28 c29 c30 c31 c32 c33 c34 c35 c36 c37 c38 c39 c40 c41 c42 c43 c44 c45 c46 c47 c48 c49 c50 c51 c52 c53 c54 c55 c56 c57 c58 c59 c60 c61 c62 c63 c64 c65 c66 c67 c68 c69 c70 c71 c72 c73 c74 c75 c76 c77 c78 c79 c80 c81 c82 c83 c84 c85 c86 c87 c88 c89 c90 c91 c92 c93 c94 c95 c96 c97 c98 c99 c100 c101 c102 c103 c104 c105 c106 c107 c108 c109 c110 c111 c112 : Value) (H0 : TwoAt w a b W0)
    (HK : Hid (∀ (u24 u25 u26 u27 u28 u29 u30 u31 u32 u33 : Value) (g h : Nat) (wx : World), TwoAt w a b wx → Eight wx g (lb a) → Eight wx h (lb b) → K ⟨#[c0, c1, c2, .pointer (some ⟨w.heap.size, 0, none⟩), .pointer (some ⟨w.heap.size + 1, 0, none⟩), c5, c6, .pointer (some ⟨g, 0, none⟩), .pointer (some ⟨h, 0, none⟩), c9, c10, c11, c12, c13, c14, c15, c16, c17, c18, c19, c20, c21, c22, c23, u24, u25, u26, u27, u28, u29, u30, u31, u32, u33, c34, c35, c36, c37, c38, c39, c40, c41, c42, c43, c44, c45, c46, c47, c48, c49, c50, c51, c52, c53, c54, c55, c56, c57, c58, c59, c60, c61, c62, c63, c64, c65, c66, c67, c68, c69, c70, c71, c72, c73, c74, c75, c76, c77, c78, c79, c80, c81, c82, c83, c84, c85, c86, c87, c88, c89, c90, c91, c92, c93, c94, c95, c96, c97, c98, c99, c100, c101, c102, c103, c104, c105, c106, c107, c108, c109, c110, c111, c112], []⟩ wx)) :
    Code.wp Try.prog wreg1 (Exit.then K Q) ⟨#[c0, c1, c2, .pointer (some ⟨w.heap.size, 0, none⟩), .pointer (some ⟨w.heap.size + 1, 0, none⟩), c5, c6, c7, c8, c9, c10, c11, c12, c13, c14, c15, c16, c17, c18, c19, c20, c21, c22, c23, c24, c25, c26, c27, c28, c29, c30, c31, c32, c33, c34, c35, c36, c37, c38, c39, c40, c41, c42, c43, c44, c45, c46, c47, c48, c49, c50, c51, c52, c53, c54, c55, c56, c57, c58, c59, c60, c61, c62, c63, c64, c65, c66, c67, c68, c69, c70, c71, c72, c73, c74, c75, c76, c77, c78, c79, c80, c81, c82, c83, c84, c85, c86, c87, c88, c89, c90, c91, c92, c93, c94, c95, c96, c97, c98, c99, c100, c101, c102, c103, c104, c105, c106, c107, c108, c109, c110, c111, c112], []⟩ W0 := by
  have HLa := Lib.hid (fun w => limbs_any a w)
  have HLb := Lib.hid (fun w => limbs_any b w)
  have hsz := H0.lt
  obtain ⟨hB, a0, a1, b0, b1⟩ := H0
  conv => arg 2; whnf
  go_region_held3 (fun w' => w'.cell? ⟨w.heap.size, 0, none⟩ = some (.int .i64 (hiW a)) ∧ w'.cell? ⟨w.heap.size, 1, none⟩ = some (.int .u64 (loW a)) ∧ w'.cell? ⟨w.heap.size + 1, 0, none⟩ = some (.int .i64 (hiW b)) ∧ w'.cell? ⟨w.heap.size + 1, 1, none⟩ = some (.int .u64 (loW b))) ((refine ⟨?_, ?_, ?_, ?_⟩ <;> (repeat (first | (with_reducible refine cell_dr ?_) | (with_reducible refine cell_al ?_) | (with_reducible refine cell_be hbp ?_) | (with_reducible refine cell_be hbo ?_) | (with_reducible refine cset ?_ (by omega)))) <;> (with_reducible first | exact a0 | exact a1 | exact b0 | exact b1))) (first | (go_at_call_of 12 (Value.int IntKind.i64 (hiW a)); refine (HLa.out _).mono ?_; rintro e wo ⟨rfl, hbo⟩; have hzo := hbo.size; (try simp at hzo); (try (have KA : Eight wo W0.heap.size (fun _ => 0) := (eight_dr (Eight.zero rfl _)).be hbo)); (try (have KA : Eight wo W0.heap.size (fun _ => 0) := (eight_dr ((Eight.zero rfl _).al _)).be hbo)); (try (have KB : Eight wo (W0.heap.size + 1) (fun _ => 0) := (eight_dr (Eight.zero (w := W0.alloc _) (by simp) _)).be hbo))) | (go_at_call_of 12 (Value.int IntKind.i64 (hiW b)); refine (HLb.out _).mono ?_; rintro e wp ⟨rfl, hbp⟩; have hzp := hbp.size; (try simp at hzp); (try (have PA : Eight wp W0.heap.size (fun _ => 0) := KA.be hbp)); (try (have PB : Eight wp (W0.heap.size + 1) (fun _ => 0) := KB.be hbp)); (try (have PA : Eight wp W0.heap.size (fun _ => 0) := (KA.al _).be hbp)); (try (have QA : Eight wp wo.heap.size (fun _ => 0) := (Eight.zero rfl _).be hbp)); (try (have QA : Eight wp wo.heap.size (fun _ => 0) := ((Eight.zero rfl _).al _).be hbp)); (try (have QB : Eight wp (wo.heap.size + 1) (fun _ => 0) := (Eight.zero (w := wo.alloc _) (by simp) _).be hbp)); (try (have pa0 := (PA 0 (by omega)).1)); (try (have paf0 := (PA 0 (by omega)).2)); (try (have pa1 := (PA 1 (by omega)).1)); (try (have paf1 := (PA 1 (by omega)).2)); (try (have pa2 := (PA 2 (by omega)).1)); (try (have paf2 := (PA 2 (by omega)).2)); (try (have pa3 := (PA 3 (by omega)).1)); (try (have paf3 := (PA 3 (by omega)).2)); (try (have pa4 := (PA 4 (by omega)).1)); (try (have paf4 := (PA 4 (by omega)).2)); (try (have pa5 := (PA 5 (by omega)).1)); (try (have paf5 := (PA 5 (by omega)).2)); (try (have pa6 := (PA 6 (by omega)).1)); (try (have paf6 := (PA 6 (by omega)).2)); (try (have pa7 := (PA 7 (by omega)).1)); (try (have paf7 := (PA 7 (by omega)).2)); (try (have pb0 := (PB 0 (by omega)).1)); (try (have pbf0 := (PB 0 (by omega)).2)); (try (have pb1 := (PB 1 (by omega)).1)); (try (have pbf1 := (PB 1 (by omega)).2)); (try (have pb2 := (PB 2 (by omega)).1)); (try (have pbf2 := (PB 2 (by omega)).2)); (try (have pb3 := (PB 3 (by omega)).1)); (try (have pbf3 := (PB 3 (by omega)).2)); (try (have pb4 := (PB 4 (by omega)).1)); (try (have pbf4 := (PB 4 (by omega)).2)); (try (have pb5 := (PB 5 (by omega)).1)); (try (have pbf5 := (PB 5 (by omega)).2)); (try (have pb6 := (PB 6 (by omega)).1)); (try (have pbf6 := (PB 6 (by omega)).2)); (try (have pb7 := (PB 7 (by omega)).1)); (try (have pbf7 := (PB 7 (by omega)).2)); (try (have qa0 := (QA 0 (by omega)).1)); (try (have qaf0 := (QA 0 (by omega)).2)); (try (have qa1 := (QA 1 (by omega)).1)); (try (have qaf1 := (QA 1 (by omega)).2)); (try (have qa2 := (QA 2 (by omega)).1)); (try (have qaf2 := (QA 2 (by omega)).2)); (try (have qa3 := (QA 3 (by omega)).1)); (try (have qaf3 := (QA 3 (by omega)).2)); (try (have qa4 := (QA 4 (by omega)).1)); (try (have qaf4 := (QA 4 (by omega)).2)); (try (have qa5 := (QA 5 (by omega)).1)); (try (have qaf5 := (QA 5 (by omega)).2)); (try (have qa6 := (QA 6 (by omega)).1)); (try (have qaf6 := (QA 6 (by omega)).2)); (try (have qa7 := (QA 7 (by omega)).1)); (try (have qaf7 := (QA 7 (by omega)).2)); (try (have qb0 := (QB 0 (by omega)).1)); (try (have qbf0 := (QB 0 (by omega)).2)); (try (have qb1 := (QB 1 (by omega)).1)); (try (have qbf1 := (QB 1 (by omega)).2)); (try (have qb2 := (QB 2 (by omega)).1)); (try (have qbf2 := (QB 2 (by omega)).2)); (try (have qb3 := (QB 3 (by omega)).1)); (try (have qbf3 := (QB 3 (by omega)).2)); (try (have qb4 := (QB 4 (by omega)).1)); (try (have qbf4 := (QB 4 (by omega)).2)); (try (have qb5 := (QB 5 (by omega)).1)); (try (have qbf5 := (QB 5 (by omega)).2)); (try (have qb6 := (QB 6 (by omega)).1)); (try (have qbf6 := (QB 6 (by omega)).2)); (try (have qb7 := (QB 7 (by omega)).1)); (try (have qbf7 := (QB 7 (by omega)).2)); (try (have l1 := PA.lt)); (try (have l2 := PB.lt)); (try (have l3 := QA.lt)); (try (have l4 := QB.lt))))
  · go_wp2_with fail
    have TB0 : TwoAt w a b W0 := ⟨hB, a0, a1, b0, b1⟩
    have TBo : TwoAt w a b wo := by first | exact (TB0.dr).step hbo | exact ((TB0.al _).dr).step hbo | exact (((TB0.al _).al _).dr).step hbo
    have TBp : TwoAt w a b wp := by first | exact TBo.step hbp | exact (TBo.al _).step hbp | exact ((TBo.al _).al _).step hbp
    have zo := TBo.lt
    have zp := TBp.lt
    exact HK.out _ _ _ _ _ _ _ _ _ _ _ _ _ ((TBp.al _).al _) ((Eight.new rfl _ (lb a)).al _) (Eight.new (by simp) _ (lb b))
  · go_wp2_with fail
    have TB0 : TwoAt w a b W0 := ⟨hB, a0, a1, b0, b1⟩
    have TBo : TwoAt w a b wo := by first | exact (TB0.dr).step hbo | exact ((TB0.al _).dr).step hbo | exact (((TB0.al _).al _).dr).step hbo
    have TBp : TwoAt w a b wp := by first | exact TBo.step hbp | exact (TBo.al _).step hbp | exact ((TBo.al _).al _).step hbp
    have zo := TBo.lt
    have zp := TBp.lt
    exact HK.out _ _ _ _ _ _ _ _ _ _ _ _ _ ((TBp.al _).al _) (Eight.new (by simp) _ (lb a)) ((Eight.new rfl _ (lb b)).al _)
  · go_wp2_with fail
    have TB0 : TwoAt w a b W0 := ⟨hB, a0, a1, b0, b1⟩
    have TBo : TwoAt w a b wo := by first | exact (TB0.dr).step hbo | exact ((TB0.al _).dr).step hbo | exact (((TB0.al _).al _).dr).step hbo
    have TBp : TwoAt w a b wp := by first | exact TBo.step hbp | exact (TBo.al _).step hbp | exact ((TBo.al _).al _).step hbp
    have zo := TBo.lt
    have zp := TBp.lt
    exact HK.out _ _ _ _ _ _ _ _ _ _ _ _ _ ((TBp.set (by omega) (lb a)).al _) ((eight_store QA (lb a)).al _) (Eight.new (by simp) _ (lb b))
  · go_wp2_with fail
    have TB0 : TwoAt w a b W0 := ⟨hB, a0, a1, b0, b1⟩
    have TBo : TwoAt w a b wo := by first | exact (TB0.dr).step hbo | exact ((TB0.al _).dr).step hbo | exact (((TB0.al _).al _).dr).step hbo
    have TBp : TwoAt w a b wp := by first | exact TBo.step hbp | exact (TBo.al _).step hbp | exact ((TBo.al _).al _).step hbp
    have zo := TBo.lt
    have zp := TBp.lt
    exact HK.out _ _ _ _ _ _ _ _ _ _ _ _ _ ((TBp.set (by omega) (lb a)).set (by omega) (lb b)) (eight_far (eight_store QA (lb a)) (by omega) (lb b)) (eight_store (eight_far QB (by omega) (lb a)) (lb b))
  · go_wp2_with fail
    have TB0 : TwoAt w a b W0 := ⟨hB, a0, a1, b0, b1⟩
    have TBo : TwoAt w a b wo := by first | exact (TB0.dr).step hbo | exact ((TB0.al _).dr).step hbo | exact (((TB0.al _).al _).dr).step hbo
    have TBp : TwoAt w a b wp := by first | exact TBo.step hbp | exact (TBo.al _).step hbp | exact ((TBo.al _).al _).step hbp
    have zo := TBo.lt
    have zp := TBp.lt
    exact HK.out _ _ _ _ _ _ _ _ _ _ _ _ _ ((TBp.set (by omega) (lb b)).al _) (Eight.new (by simp) _ (lb a)) ((eight_store QA (lb b)).al _)
  · go_wp2_with fail
    have TB0 : TwoAt w a b W0 := ⟨hB, a0, a1, b0, b1⟩
    have TBo : TwoAt w a b wo := by first | exact (TB0.dr).step hbo | exact ((TB0.al _).dr).step hbo | exact (((TB0.al _).al _).dr).step hbo
    have TBp : TwoAt w a b wp := by first | exact TBo.step hbp | exact (TBo.al _).step hbp | exact ((TBo.al _).al _).step hbp
    have zo := TBo.lt
    have zp := TBp.lt
    exact HK.out _ _ _ _ _ _ _ _ _ _ _ _ _ ((TBp.set (by omega) (lb a)).set (by omega) (lb b)) (eight_far (eight_store QB (lb a)) (by omega) (lb b)) (eight_store (eight_far QA (by omega) (lb a)) (lb b))
  · go_wp2_with fail
    have TB0 : TwoAt w a b W0 := ⟨hB, a0, a1, b0, b1⟩
    have TBo : TwoAt w a b wo := by first | exact (TB0.dr).step hbo | exact ((TB0.al _).dr).step hbo | exact (((TB0.al _).al _).dr).step hbo
    have TBp : TwoAt w a b wp := by first | exact TBo.step hbp | exact (TBo.al _).step hbp | exact ((TBo.al _).al _).step hbp
    have zo := TBo.lt
    have zp := TBp.lt
    exact HK.out _ _ _ _ _ _ _ _ _ _ _ _ _ ((TBp.set (by omega) (lb a)).al _) ((eight_store PA (lb a)).al _) (Eight.new (by simp) _ (lb b))
  · go_wp2_with fail
    have TB0 : TwoAt w a b W0 := ⟨hB, a0, a1, b0, b1⟩
    have TBo : TwoAt w a b wo := by first | exact (TB0.dr).step hbo | exact ((TB0.al _).dr).step hbo | exact (((TB0.al _).al _).dr).step hbo
    have TBp : TwoAt w a b wp := by first | exact TBo.step hbp | exact (TBo.al _).step hbp | exact ((TBo.al _).al _).step hbp
    have zo := TBo.lt
    have zp := TBp.lt
    exact HK.out _ _ _ _ _ _ _ _ _ _ _ _ _ ((TBp.set (by omega) (lb a)).set (by omega) (lb b)) (eight_far (eight_store PA (lb a)) (by omega) (lb b)) (eight_store (eight_far QA (by omega) (lb a)) (lb b))
  · go_wp2_with fail
    have TB0 : TwoAt w a b W0 := ⟨hB, a0, a1, b0, b1⟩
    have TBo : TwoAt w a b wo := by first | exact (TB0.dr).step hbo | exact ((TB0.al _).dr).step hbo | exact (((TB0.al _).al _).dr).step hbo
    have TBp : TwoAt w a b wp := by first | exact TBo.step hbp | exact (TBo.al _).step hbp | exact ((TBo.al _).al _).step hbp
    have zo := TBo.lt
    have zp := TBp.lt
    exact HK.out _ _ _ _ _ _ _ _ _ _ _ _ _ ((TBp.set (by omega) (lb a)).set (by omega) (lb b)) (eight_far (eight_store PA (lb a)) (by omega) (lb b)) (eight_store (eight_far PB (by omega) (lb a)) (lb b))
  · go_wp2_with fail
    have TB0 : TwoAt w a b W0 := ⟨hB, a0, a1, b0, b1⟩
    have TBo : TwoAt w a b wo := by first | exact (TB0.dr).step hbo | exact ((TB0.al _).dr).step hbo | exact (((TB0.al _).al _).dr).step hbo
    have TBp : TwoAt w a b wp := by first | exact TBo.step hbp | exact (TBo.al _).step hbp | exact ((TBo.al _).al _).step hbp
    have zo := TBo.lt
    have zp := TBp.lt
    exact HK.out _ _ _ _ _ _ _ _ _ _ _ _ _ ((TBp.set (by omega) (lb b)).al _) (Eight.new (by simp) _ (lb a)) ((eight_store PA (lb b)).al _)
  · go_wp2_with fail
    have TB0 : TwoAt w a b W0 := ⟨hB, a0, a1, b0, b1⟩
    have TBo : TwoAt w a b wo := by first | exact (TB0.dr).step hbo | exact ((TB0.al _).dr).step hbo | exact (((TB0.al _).al _).dr).step hbo
    have TBp : TwoAt w a b wp := by first | exact TBo.step hbp | exact (TBo.al _).step hbp | exact ((TBo.al _).al _).step hbp
    have zo := TBo.lt
    have zp := TBp.lt
    exact HK.out _ _ _ _ _ _ _ _ _ _ _ _ _ ((TBp.set (by omega) (lb a)).set (by omega) (lb b)) (eight_far (eight_store QA (lb a)) (by omega) (lb b)) (eight_store (eight_far PA (by omega) (lb a)) (lb b))
  · go_wp2_with fail
    have TB0 : TwoAt w a b W0 := ⟨hB, a0, a1, b0, b1⟩
    have TBo : TwoAt w a b wo := by first | exact (TB0.dr).step hbo | exact ((TB0.al _).dr).step hbo | exact (((TB0.al _).al _).dr).step hbo
    have TBp : TwoAt w a b wp := by first | exact TBo.step hbp | exact (TBo.al _).step hbp | exact ((TBo.al _).al _).step hbp
    have zo := TBo.lt
    have zp := TBp.lt
    exact HK.out _ _ _ _ _ _ _ _ _ _ _ _ _ ((TBp.set (by omega) (lb a)).set (by omega) (lb b)) (eight_far (eight_store PB (lb a)) (by omega) (lb b)) (eight_store (eight_far PA (by omega) (lb a)) (lb b))
end Go.Proofs.Ytohgpllonbplfaa

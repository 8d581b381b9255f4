/-
  No cell of these rows narrows 'for every input' (looked for: loops, veiled, ifaces, maps, wideKeys, modest, calm, conditions, laid).
  DERIVED. THE GIVEN ROWS OF THIS SEAT. 3 by the template 'for every input the law returns true; each argument reads behind the call as it read before'; 0 by the template 'total and deterministic' (their statements: YtpblabpajliagaaTotals.lean).
  GIVEN WITH THE SEED: the statements are not yours to turn. If you find one false, say at which input.
  Laid BY PROGRAM, IN A SANDBOX (cutbox-rows.mjs): the forced cells as the released guide's own fill.sh prints them over the translation a17133c211ae41c2… (all of the seat's roots in one cut). By AI agents, Wed Nov 11 2026. No macro, syntax, notation, axiom, sorry.
-/
import Derived.Test.YtpblabpajliagaaChecked
import GoSem.Claim
import GoSem.ClaimJoined
import GoSem.ClaimMapViews
import Derived.JoinedTies
import Derived.KernelRfl
namespace Go.Proofs.Ytpblabpajliagaa
/- THE CELL 'sum', in the pinned program and in every row, IS THE sha256 OF THE DUMP (.gsa) THAT YtpblabpajliagaaProg.lean LOADS. Nothing in Lean hashes anything: it is a label: what it is worth is what the hold of that sum in a sandbox is worth. -/
noncomputable def Try.pinned : Pinned := { name := "ytpblabpajliagaa", sum := "a17133c211ae41c2fa6052beca68d213fe8cd823d8a9953671679547a3a6215b", checked := Try.checked }
namespace Rows
def none {H : Type} : Left H := { results := [], args := [] }

/-- 'tidemilllaw22.AsofGrows': WHATEVER THE INPUT: true; the input reads as it did. -/
def asofGrowsSpec : ChangeSpec := { name := "asofGrows", fn := fun _ => fun
  | [d1, d2, d3] => { results := [.lit (.bool true)], args := [d1, d2, d3] }
  | _ => none }
def asofGrowsRow : OpenClaim := { program := "ytpblabpajliagaa", sum := "a17133c211ae41c2fa6052beca68d213fe8cd823d8a9953671679547a3a6215b", func := "tidemill/tidemilllaw22.AsofGrows", spec := "asofGrows", unfollowed := true, recurses := true, apart := false }
def AsofGrowsSaid : Prop := asofGrowsRow.holds Try.pinned (OpenSpec.ofChange asofGrowsSpec)

/-- ITS FALSE NEIGHBOUR: 'it returns false'. Refute it at one input. -/
def asofGrowsWrong : ChangeSpec := { name := "asofGrows", fn := fun _ => fun
  | [d1, d2, d3] => { results := [.lit (.bool false)], args := [d1, d2, d3] }
  | _ => none }
def AsofGrowsWrongFalsely : Prop := asofGrowsRow.holds Try.pinned (OpenSpec.ofChange asofGrowsWrong)

/-- 'tidemilllaw22.AsofTells': WHATEVER THE INPUT: true; the input reads as it did. -/
def asofTellsSpec : ChangeSpec := { name := "asofTells", fn := fun _ => fun
  | [d1, d2, d3] => { results := [.lit (.bool true)], args := [d1, d2, d3] }
  | _ => none }
def asofTellsRow : OpenClaim := { program := "ytpblabpajliagaa", sum := "a17133c211ae41c2fa6052beca68d213fe8cd823d8a9953671679547a3a6215b", func := "tidemill/tidemilllaw22.AsofTells", spec := "asofTells", inPlace := ["math/bits.Add64"], unfollowed := true, recurses := true, apart := false }
def AsofTellsSaid : Prop := asofTellsRow.holds Try.pinned (OpenSpec.ofChange asofTellsSpec)

/-- ITS FALSE NEIGHBOUR: 'it returns false'. Refute it at one input. -/
def asofTellsWrong : ChangeSpec := { name := "asofTells", fn := fun _ => fun
  | [d1, d2, d3] => { results := [.lit (.bool false)], args := [d1, d2, d3] }
  | _ => none }
def AsofTellsWrongFalsely : Prop := asofTellsRow.holds Try.pinned (OpenSpec.ofChange asofTellsWrong)

/-- 'tidemilllaw22.AsofSelf': WHATEVER THE INPUT: true; the input reads as it did. -/
def asofSelfSpec : ChangeSpec := { name := "asofSelf", fn := fun _ => fun
  | [d1, d2] => { results := [.lit (.bool true)], args := [d1, d2] }
  | _ => none }
def asofSelfRow : OpenClaim := { program := "ytpblabpajliagaa", sum := "a17133c211ae41c2fa6052beca68d213fe8cd823d8a9953671679547a3a6215b", func := "tidemill/tidemilllaw22.AsofSelf", spec := "asofSelf", inPlace := ["math/bits.Add64"], unfollowed := true, recurses := true, apart := false }
def AsofSelfSaid : Prop := asofSelfRow.holds Try.pinned (OpenSpec.ofChange asofSelfSpec)

/-- ITS FALSE NEIGHBOUR: 'it returns false'. Refute it at one input. -/
def asofSelfWrong : ChangeSpec := { name := "asofSelf", fn := fun _ => fun
  | [d1, d2] => { results := [.lit (.bool false)], args := [d1, d2] }
  | _ => none }
def AsofSelfWrongFalsely : Prop := asofSelfRow.holds Try.pinned (OpenSpec.ofChange asofSelfWrong)

/- THE SECOND FORM. 'bulk': how many values and letters a reading holds, each counted each time it is reached (what is shared counts as often as it is met; a slice's spare places count too). A statement '..UptoSaid' is the law's where the arguments, and the package variables that the reading takes, are together of bulk at most 1048576: NARROWER than '..Said'. Prove '..Said' where nothing that the law and all that it calls make is longer than what came in: it says more and counts as full. Else prove '..UptoSaid'. A law counts once. -/
mutual
def uptoBulk {H : Type} : DataW H → Nat
  | .lit (.string bytes) => bytes.length + 1
  | .lit _ => 1
  | .nil => 1
  | .ptr d => uptoBulk d + 1
  | .slice elems spare => uptoBulkAll elems + uptoBulkAll spare + 1
  | .agg parts => uptoBulkAll parts + 1
  | .iface _ d => uptoBulk d + 1
  | .map entries => uptoBulkEntries entries + 1
  | .held _ => 1
def uptoBulkAll {H : Type} : List (DataW H) → Nat
  | [] => 0
  | d :: r => uptoBulk d + uptoBulkAll r
def uptoBulkEntries {H : Type} : List (Lit × DataW H) → Nat
  | [] => 0
  | x :: r => uptoBulkEntry x + uptoBulkEntries r
def uptoBulkEntry {H : Type} : Lit × DataW H → Nat
  | (.string bytes, d) => bytes.length + uptoBulk d + 1
  | (_, d) => uptoBulk d + 1
 end
def uptoSmall : (H : Type) → List (DataW H) → Bool := fun _ ds => decide (uptoBulkAll ds ≤ 1048576)
def OpenSpec.upto (s : _root_.Go.ChangeSpec) : _root_.Go.OpenSpec := { _root_.Go.OpenSpec.ofChange s with cond := some uptoSmall }

/-- 'tidemilllaw22.AsofGrows', WHERE WHAT IT READS IS OF BULK AT MOST 1048576: true; the input reads as it did. -/
def asofGrowsUptoRow : OpenClaim := { program := "ytpblabpajliagaa", sum := "a17133c211ae41c2fa6052beca68d213fe8cd823d8a9953671679547a3a6215b", func := "tidemill/tidemilllaw22.AsofGrows", spec := "asofGrows", unfollowed := true, recurses := true, apart := false, narrowed := true }
def AsofGrowsUptoSaid : Prop := asofGrowsUptoRow.holds Try.pinned (OpenSpec.upto asofGrowsSpec)

/-- 'tidemilllaw22.AsofTells', WHERE WHAT IT READS IS OF BULK AT MOST 1048576: true; the input reads as it did. -/
def asofTellsUptoRow : OpenClaim := { program := "ytpblabpajliagaa", sum := "a17133c211ae41c2fa6052beca68d213fe8cd823d8a9953671679547a3a6215b", func := "tidemill/tidemilllaw22.AsofTells", spec := "asofTells", inPlace := ["math/bits.Add64"], unfollowed := true, recurses := true, apart := false, narrowed := true }
def AsofTellsUptoSaid : Prop := asofTellsUptoRow.holds Try.pinned (OpenSpec.upto asofTellsSpec)

/-- 'tidemilllaw22.AsofSelf', WHERE WHAT IT READS IS OF BULK AT MOST 1048576: true; the input reads as it did. -/
def asofSelfUptoRow : OpenClaim := { program := "ytpblabpajliagaa", sum := "a17133c211ae41c2fa6052beca68d213fe8cd823d8a9953671679547a3a6215b", func := "tidemill/tidemilllaw22.AsofSelf", spec := "asofSelf", inPlace := ["math/bits.Add64"], unfollowed := true, recurses := true, apart := false, narrowed := true }
def AsofSelfUptoSaid : Prop := asofSelfUptoRow.holds Try.pinned (OpenSpec.upto asofSelfSpec)

end Rows
end Go.Proofs.Ytpblabpajliagaa

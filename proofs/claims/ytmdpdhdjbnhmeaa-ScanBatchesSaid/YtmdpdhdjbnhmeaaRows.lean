/-
  No cell of these rows narrows 'for every input' (looked for: loops, veiled, ifaces, maps, wideKeys, modest, calm, conditions, laid).
  DERIVED. THE GIVEN ROWS OF THIS SEAT. 4 by the template 'for every input the law returns true; each argument reads behind the call as it read before'; 0 by the template 'total and deterministic' (their statements: YtmdpdhdjbnhmeaaTotals.lean).
  GIVEN WITH THE SEED: the statements are not yours to turn. If you find one false, say at which input.
  Laid BY PROGRAM, IN A SANDBOX (cutbox-rows.mjs): the forced cells as the released guide's own fill.sh prints them over the translation f9a40ff0e539d75f… (all of the seat's roots in one cut). By AI agents, Wed Nov 11 2026. No macro, syntax, notation, axiom, sorry.
-/
import Derived.Test.YtmdpdhdjbnhmeaaChecked
import GoSem.Claim
import GoSem.ClaimJoined
import GoSem.ClaimMapViews
import Derived.JoinedTies
import Derived.KernelRfl
namespace Go.Proofs.Ytmdpdhdjbnhmeaa
/- THE CELL 'sum', in the pinned program and in every row, IS THE sha256 OF THE DUMP (.gsa) THAT YtmdpdhdjbnhmeaaProg.lean LOADS. Nothing in Lean hashes anything: it is a label: what it is worth is what the hold of that sum in a sandbox is worth. -/
noncomputable def Try.pinned : Pinned := { name := "ytmdpdhdjbnhmeaa", sum := "f9a40ff0e539d75f87b4ffecaceeda1a7058e957382eb8e86fa8dac68fee24f7", checked := Try.checked }
namespace Rows
def none {H : Type} : Left H := { results := [], args := [] }

/-- 'tidemilllaw20.ScanSpans': WHATEVER THE INPUT: true; the input reads as it did. -/
def scanSpansSpec : ChangeSpec := { name := "scanSpans", fn := fun _ => fun
  | [d1, d2] => { results := [.lit (.bool true)], args := [d1, d2] }
  | _ => none }
def scanSpansRow : OpenClaim := { program := "ytmdpdhdjbnhmeaa", sum := "f9a40ff0e539d75f87b4ffecaceeda1a7058e957382eb8e86fa8dac68fee24f7", func := "tidemill/tidemilllaw20.ScanSpans", spec := "scanSpans", unfollowed := true, recurses := true, apart := false }
def ScanSpansSaid : Prop := scanSpansRow.holds Try.pinned (OpenSpec.ofChange scanSpansSpec)

/-- ITS FALSE NEIGHBOUR: 'it returns false'. Refute it at one input. -/
def scanSpansWrong : ChangeSpec := { name := "scanSpans", fn := fun _ => fun
  | [d1, d2] => { results := [.lit (.bool false)], args := [d1, d2] }
  | _ => none }
def ScanSpansWrongFalsely : Prop := scanSpansRow.holds Try.pinned (OpenSpec.ofChange scanSpansWrong)

/-- 'tidemilllaw20.ScanBatches': WHATEVER THE INPUT: true; the input reads as it did. -/
def scanBatchesSpec : ChangeSpec := { name := "scanBatches", fn := fun _ => fun
  | [d1, d2, d3] => { results := [.lit (.bool true)], args := [d1, d2, d3] }
  | _ => none }
def scanBatchesRow : OpenClaim := { program := "ytmdpdhdjbnhmeaa", sum := "f9a40ff0e539d75f87b4ffecaceeda1a7058e957382eb8e86fa8dac68fee24f7", func := "tidemill/tidemilllaw20.ScanBatches", spec := "scanBatches", unfollowed := true, recurses := true, apart := false }
def ScanBatchesSaid : Prop := scanBatchesRow.holds Try.pinned (OpenSpec.ofChange scanBatchesSpec)

/-- ITS FALSE NEIGHBOUR: 'it returns false'. Refute it at one input. -/
def scanBatchesWrong : ChangeSpec := { name := "scanBatches", fn := fun _ => fun
  | [d1, d2, d3] => { results := [.lit (.bool false)], args := [d1, d2, d3] }
  | _ => none }
def ScanBatchesWrongFalsely : Prop := scanBatchesRow.holds Try.pinned (OpenSpec.ofChange scanBatchesWrong)

/-- 'tidemilllaw20.ScanSelects': WHATEVER THE INPUT: true; the input reads as it did. -/
def scanSelectsSpec : ChangeSpec := { name := "scanSelects", fn := fun _ => fun
  | [d1, d2, d3] => { results := [.lit (.bool true)], args := [d1, d2, d3] }
  | _ => none }
def scanSelectsRow : OpenClaim := { program := "ytmdpdhdjbnhmeaa", sum := "f9a40ff0e539d75f87b4ffecaceeda1a7058e957382eb8e86fa8dac68fee24f7", func := "tidemill/tidemilllaw20.ScanSelects", spec := "scanSelects", unfollowed := true, recurses := true, apart := false }
def ScanSelectsSaid : Prop := scanSelectsRow.holds Try.pinned (OpenSpec.ofChange scanSelectsSpec)

/-- ITS FALSE NEIGHBOUR: 'it returns false'. Refute it at one input. -/
def scanSelectsWrong : ChangeSpec := { name := "scanSelects", fn := fun _ => fun
  | [d1, d2, d3] => { results := [.lit (.bool false)], args := [d1, d2, d3] }
  | _ => none }
def ScanSelectsWrongFalsely : Prop := scanSelectsRow.holds Try.pinned (OpenSpec.ofChange scanSelectsWrong)

/-- 'tidemilllaw20.ScanParts': WHATEVER THE INPUT: true; the input reads as it did. -/
def scanPartsSpec : ChangeSpec := { name := "scanParts", fn := fun _ => fun
  | [d1, d2, d3] => { results := [.lit (.bool true)], args := [d1, d2, d3] }
  | _ => none }
def scanPartsRow : OpenClaim := { program := "ytmdpdhdjbnhmeaa", sum := "f9a40ff0e539d75f87b4ffecaceeda1a7058e957382eb8e86fa8dac68fee24f7", func := "tidemill/tidemilllaw20.ScanParts", spec := "scanParts", unfollowed := true, recurses := true, apart := false }
def ScanPartsSaid : Prop := scanPartsRow.holds Try.pinned (OpenSpec.ofChange scanPartsSpec)

/-- ITS FALSE NEIGHBOUR: 'it returns false'. Refute it at one input. -/
def scanPartsWrong : ChangeSpec := { name := "scanParts", fn := fun _ => fun
  | [d1, d2, d3] => { results := [.lit (.bool false)], args := [d1, d2, d3] }
  | _ => none }
def ScanPartsWrongFalsely : Prop := scanPartsRow.holds Try.pinned (OpenSpec.ofChange scanPartsWrong)

/- THE SECOND FORM. 'bulk': how many values and letters a reading holds, each counted each time it is reached (what is shared counts as often as it is met; a slice's spare places count too). A statement '..UptoSaid' is the law's where the arguments, and the package variables that the reading takes, are together of bulk at most 1048576: NARROWER than '..Said'. Prove '..Said' where nothing that the law and all that it calls make is longer than what came in: it says more and counts as full. Else prove '..UptoSaid'. A law counts once. -/
mutual
def uptoBulk {H : Type} : DataW H → Nat
  | .lit (.string bytes) => bytes.length + 1
  | .lit _ => 1
  | .nil => 1
  | .ptr d => uptoBulk d + 1
  | .slice elems spare => uptoBulkAll elems + uptoBulkAll spare + 1
  | .agg parts => uptoBulkAll parts + 1
  | .iface _ d => uptoBulk d + 1
  | .map entries => uptoBulkEntries entries + 1
  | .held _ => 1
def uptoBulkAll {H : Type} : List (DataW H) → Nat
  | [] => 0
  | d :: r => uptoBulk d + uptoBulkAll r
def uptoBulkEntries {H : Type} : List (Lit × DataW H) → Nat
  | [] => 0
  | x :: r => uptoBulkEntry x + uptoBulkEntries r
def uptoBulkEntry {H : Type} : Lit × DataW H → Nat
  | (.string bytes, d) => bytes.length + uptoBulk d + 1
  | (_, d) => uptoBulk d + 1
 end
def uptoSmall : (H : Type) → List (DataW H) → Bool := fun _ ds => decide (uptoBulkAll ds ≤ 1048576)
def OpenSpec.upto (s : _root_.Go.ChangeSpec) : _root_.Go.OpenSpec := { _root_.Go.OpenSpec.ofChange s with cond := some uptoSmall }

/-- 'tidemilllaw20.ScanSpans', WHERE WHAT IT READS IS OF BULK AT MOST 1048576: true; the input reads as it did. -/
def scanSpansUptoRow : OpenClaim := { program := "ytmdpdhdjbnhmeaa", sum := "f9a40ff0e539d75f87b4ffecaceeda1a7058e957382eb8e86fa8dac68fee24f7", func := "tidemill/tidemilllaw20.ScanSpans", spec := "scanSpans", unfollowed := true, recurses := true, apart := false, narrowed := true }
def ScanSpansUptoSaid : Prop := scanSpansUptoRow.holds Try.pinned (OpenSpec.upto scanSpansSpec)

/-- 'tidemilllaw20.ScanBatches', WHERE WHAT IT READS IS OF BULK AT MOST 1048576: true; the input reads as it did. -/
def scanBatchesUptoRow : OpenClaim := { program := "ytmdpdhdjbnhmeaa", sum := "f9a40ff0e539d75f87b4ffecaceeda1a7058e957382eb8e86fa8dac68fee24f7", func := "tidemill/tidemilllaw20.ScanBatches", spec := "scanBatches", unfollowed := true, recurses := true, apart := false, narrowed := true }
def ScanBatchesUptoSaid : Prop := scanBatchesUptoRow.holds Try.pinned (OpenSpec.upto scanBatchesSpec)

/-- 'tidemilllaw20.ScanSelects', WHERE WHAT IT READS IS OF BULK AT MOST 1048576: true; the input reads as it did. -/
def scanSelectsUptoRow : OpenClaim := { program := "ytmdpdhdjbnhmeaa", sum := "f9a40ff0e539d75f87b4ffecaceeda1a7058e957382eb8e86fa8dac68fee24f7", func := "tidemill/tidemilllaw20.ScanSelects", spec := "scanSelects", unfollowed := true, recurses := true, apart := false, narrowed := true }
def ScanSelectsUptoSaid : Prop := scanSelectsUptoRow.holds Try.pinned (OpenSpec.upto scanSelectsSpec)

/-- 'tidemilllaw20.ScanParts', WHERE WHAT IT READS IS OF BULK AT MOST 1048576: true; the input reads as it did. -/
def scanPartsUptoRow : OpenClaim := { program := "ytmdpdhdjbnhmeaa", sum := "f9a40ff0e539d75f87b4ffecaceeda1a7058e957382eb8e86fa8dac68fee24f7", func := "tidemill/tidemilllaw20.ScanParts", spec := "scanParts", unfollowed := true, recurses := true, apart := false, narrowed := true }
def ScanPartsUptoSaid : Prop := scanPartsUptoRow.holds Try.pinned (OpenSpec.upto scanPartsSpec)

end Rows
end Go.Proofs.Ytmdpdhdjbnhmeaa

/-
  No cell of these rows narrows 'for every input' (looked for: loops, veiled, ifaces, maps, wideKeys, modest, calm, conditions, laid).
  DERIVED. THE GIVEN ROWS OF THIS SEAT. 6 by the template 'for every input the law returns true; each argument reads behind the call as it read before'; 0 by the template 'total and deterministic' (their statements: YtjbdnomnjdpckaaTotals.lean).
  GIVEN WITH THE SEED: the statements are not yours to turn. If you find one false, say at which input.
  Laid BY PROGRAM, IN A SANDBOX (cutbox-rows.mjs): the forced cells as the released guide's own fill.sh prints them over the translation 332e50d7dfb7a0d5… (all of the seat's roots in one cut). By AI agents, Wed Nov 11 2026. No macro, syntax, notation, axiom, sorry.
-/
import Derived.Test.YtjbdnomnjdpckaaChecked
import GoSem.Claim
import GoSem.ClaimJoined
import GoSem.ClaimMapViews
import Derived.JoinedTies
import Derived.KernelRfl
namespace Go.Proofs.Ytjbdnomnjdpckaa
/- THE CELL 'sum', in the pinned program and in every row, IS THE sha256 OF THE DUMP (.gsa) THAT YtjbdnomnjdpckaaProg.lean LOADS. Nothing in Lean hashes anything: it is a label: what it is worth is what the hold of that sum in a sandbox is worth. -/
noncomputable def Try.pinned : Pinned := { name := "ytjbdnomnjdpckaa", sum := "332e50d7dfb7a0d5745a567525da65e65d2a1f3eb6841d04a519463b65b52c54", checked := Try.checked }
namespace Rows
def none {H : Type} : Left H := { results := [], args := [] }

/-- 'tidemilllaw09.WindowSessions': WHATEVER THE INPUT: true; the input reads as it did. -/
def windowSessionsSpec : ChangeSpec := { name := "windowSessions", fn := fun _ => fun
  | [d1, d2] => { results := [.lit (.bool true)], args := [d1, d2] }
  | _ => none }
def windowSessionsRow : OpenClaim := { program := "ytjbdnomnjdpckaa", sum := "332e50d7dfb7a0d5745a567525da65e65d2a1f3eb6841d04a519463b65b52c54", func := "tidemill/tidemilllaw09.WindowSessions", spec := "windowSessions", apart := false }
def WindowSessionsSaid : Prop := windowSessionsRow.holds Try.pinned (OpenSpec.ofChange windowSessionsSpec)

/-- ITS FALSE NEIGHBOUR: 'it returns false'. Refute it at one input. -/
def windowSessionsWrong : ChangeSpec := { name := "windowSessions", fn := fun _ => fun
  | [d1, d2] => { results := [.lit (.bool false)], args := [d1, d2] }
  | _ => none }
def WindowSessionsWrongFalsely : Prop := windowSessionsRow.holds Try.pinned (OpenSpec.ofChange windowSessionsWrong)

/-- 'tidemilllaw09.WindowGaps': WHATEVER THE INPUT: true; the input reads as it did. -/
def windowGapsSpec : ChangeSpec := { name := "windowGaps", fn := fun _ => fun
  | [d1, d2] => { results := [.lit (.bool true)], args := [d1, d2] }
  | _ => none }
def windowGapsRow : OpenClaim := { program := "ytjbdnomnjdpckaa", sum := "332e50d7dfb7a0d5745a567525da65e65d2a1f3eb6841d04a519463b65b52c54", func := "tidemill/tidemilllaw09.WindowGaps", spec := "windowGaps", apart := false }
def WindowGapsSaid : Prop := windowGapsRow.holds Try.pinned (OpenSpec.ofChange windowGapsSpec)

/-- ITS FALSE NEIGHBOUR: 'it returns false'. Refute it at one input. -/
def windowGapsWrong : ChangeSpec := { name := "windowGaps", fn := fun _ => fun
  | [d1, d2] => { results := [.lit (.bool false)], args := [d1, d2] }
  | _ => none }
def WindowGapsWrongFalsely : Prop := windowGapsRow.holds Try.pinned (OpenSpec.ofChange windowGapsWrong)

/-- 'tidemilllaw09.WindowHas': WHATEVER THE INPUT: true; the input reads as it did. -/
def windowHasSpec : ChangeSpec := { name := "windowHas", fn := fun _ => fun
  | [d1, d2] => { results := [.lit (.bool true)], args := [d1, d2] }
  | _ => none }
def windowHasRow : OpenClaim := { program := "ytjbdnomnjdpckaa", sum := "332e50d7dfb7a0d5745a567525da65e65d2a1f3eb6841d04a519463b65b52c54", func := "tidemill/tidemilllaw09.WindowHas", spec := "windowHas", unfollowed := true, recurses := true, apart := false }
def WindowHasSaid : Prop := windowHasRow.holds Try.pinned (OpenSpec.ofChange windowHasSpec)

/-- ITS FALSE NEIGHBOUR: 'it returns false'. Refute it at one input. -/
def windowHasWrong : ChangeSpec := { name := "windowHas", fn := fun _ => fun
  | [d1, d2] => { results := [.lit (.bool false)], args := [d1, d2] }
  | _ => none }
def WindowHasWrongFalsely : Prop := windowHasRow.holds Try.pinned (OpenSpec.ofChange windowHasWrong)

/-- 'tidemilllaw09.WindowMoves': WHATEVER THE INPUT: true; the input reads as it did. -/
def windowMovesSpec : ChangeSpec := { name := "windowMoves", fn := fun _ => fun
  | [d1, d2, d3] => { results := [.lit (.bool true)], args := [d1, d2, d3] }
  | _ => none }
def windowMovesRow : OpenClaim := { program := "ytjbdnomnjdpckaa", sum := "332e50d7dfb7a0d5745a567525da65e65d2a1f3eb6841d04a519463b65b52c54", func := "tidemill/tidemilllaw09.WindowMoves", spec := "windowMoves", unfollowed := true, recurses := true, apart := false }
def WindowMovesSaid : Prop := windowMovesRow.holds Try.pinned (OpenSpec.ofChange windowMovesSpec)

/-- ITS FALSE NEIGHBOUR: 'it returns false'. Refute it at one input. -/
def windowMovesWrong : ChangeSpec := { name := "windowMoves", fn := fun _ => fun
  | [d1, d2, d3] => { results := [.lit (.bool false)], args := [d1, d2, d3] }
  | _ => none }
def WindowMovesWrongFalsely : Prop := windowMovesRow.holds Try.pinned (OpenSpec.ofChange windowMovesWrong)

/-- 'tidemilllaw09.WindowCovers': WHATEVER THE INPUT: true; the input reads as it did. -/
def windowCoversSpec : ChangeSpec := { name := "windowCovers", fn := fun _ => fun
  | [d1, d2, d3] => { results := [.lit (.bool true)], args := [d1, d2, d3] }
  | _ => none }
def windowCoversRow : OpenClaim := { program := "ytjbdnomnjdpckaa", sum := "332e50d7dfb7a0d5745a567525da65e65d2a1f3eb6841d04a519463b65b52c54", func := "tidemill/tidemilllaw09.WindowCovers", spec := "windowCovers", unfollowed := true, recurses := true, apart := false }
def WindowCoversSaid : Prop := windowCoversRow.holds Try.pinned (OpenSpec.ofChange windowCoversSpec)

/-- ITS FALSE NEIGHBOUR: 'it returns false'. Refute it at one input. -/
def windowCoversWrong : ChangeSpec := { name := "windowCovers", fn := fun _ => fun
  | [d1, d2, d3] => { results := [.lit (.bool false)], args := [d1, d2, d3] }
  | _ => none }
def WindowCoversWrongFalsely : Prop := windowCoversRow.holds Try.pinned (OpenSpec.ofChange windowCoversWrong)

/-- 'tidemilllaw09.WindowTells': WHATEVER THE INPUT: true; the input reads as it did. -/
def windowTellsSpec : ChangeSpec := { name := "windowTells", fn := fun _ => fun
  | [d1, d2, d3] => { results := [.lit (.bool true)], args := [d1, d2, d3] }
  | _ => none }
def windowTellsRow : OpenClaim := { program := "ytjbdnomnjdpckaa", sum := "332e50d7dfb7a0d5745a567525da65e65d2a1f3eb6841d04a519463b65b52c54", func := "tidemill/tidemilllaw09.WindowTells", spec := "windowTells", unfollowed := true, recurses := true, apart := false }
def WindowTellsSaid : Prop := windowTellsRow.holds Try.pinned (OpenSpec.ofChange windowTellsSpec)

/-- ITS FALSE NEIGHBOUR: 'it returns false'. Refute it at one input. -/
def windowTellsWrong : ChangeSpec := { name := "windowTells", fn := fun _ => fun
  | [d1, d2, d3] => { results := [.lit (.bool false)], args := [d1, d2, d3] }
  | _ => none }
def WindowTellsWrongFalsely : Prop := windowTellsRow.holds Try.pinned (OpenSpec.ofChange windowTellsWrong)

/- THE SECOND FORM. 'bulk': how many values and letters a reading holds, each counted each time it is reached (what is shared counts as often as it is met; a slice's spare places count too). A statement '..UptoSaid' is the law's where the arguments, and the package variables that the reading takes, are together of bulk at most 1048576: NARROWER than '..Said'. Prove '..Said' where nothing that the law and all that it calls make is longer than what came in: it says more and counts as full. Else prove '..UptoSaid'. A law counts once. -/
mutual
def uptoBulk {H : Type} : DataW H → Nat
  | .lit (.string bytes) => bytes.length + 1
  | .lit _ => 1
  | .nil => 1
  | .ptr d => uptoBulk d + 1
  | .slice elems spare => uptoBulkAll elems + uptoBulkAll spare + 1
  | .agg parts => uptoBulkAll parts + 1
  | .iface _ d => uptoBulk d + 1
  | .map entries => uptoBulkEntries entries + 1
  | .held _ => 1
def uptoBulkAll {H : Type} : List (DataW H) → Nat
  | [] => 0
  | d :: r => uptoBulk d + uptoBulkAll r
def uptoBulkEntries {H : Type} : List (Lit × DataW H) → Nat
  | [] => 0
  | x :: r => uptoBulkEntry x + uptoBulkEntries r
def uptoBulkEntry {H : Type} : Lit × DataW H → Nat
  | (.string bytes, d) => bytes.length + uptoBulk d + 1
  | (_, d) => uptoBulk d + 1
 end
def uptoSmall : (H : Type) → List (DataW H) → Bool := fun _ ds => decide (uptoBulkAll ds ≤ 1048576)
def OpenSpec.upto (s : _root_.Go.ChangeSpec) : _root_.Go.OpenSpec := { _root_.Go.OpenSpec.ofChange s with cond := some uptoSmall }

/-- 'tidemilllaw09.WindowSessions', WHERE WHAT IT READS IS OF BULK AT MOST 1048576: true; the input reads as it did. -/
def windowSessionsUptoRow : OpenClaim := { program := "ytjbdnomnjdpckaa", sum := "332e50d7dfb7a0d5745a567525da65e65d2a1f3eb6841d04a519463b65b52c54", func := "tidemill/tidemilllaw09.WindowSessions", spec := "windowSessions", apart := false, narrowed := true }
def WindowSessionsUptoSaid : Prop := windowSessionsUptoRow.holds Try.pinned (OpenSpec.upto windowSessionsSpec)

/-- 'tidemilllaw09.WindowGaps', WHERE WHAT IT READS IS OF BULK AT MOST 1048576: true; the input reads as it did. -/
def windowGapsUptoRow : OpenClaim := { program := "ytjbdnomnjdpckaa", sum := "332e50d7dfb7a0d5745a567525da65e65d2a1f3eb6841d04a519463b65b52c54", func := "tidemill/tidemilllaw09.WindowGaps", spec := "windowGaps", apart := false, narrowed := true }
def WindowGapsUptoSaid : Prop := windowGapsUptoRow.holds Try.pinned (OpenSpec.upto windowGapsSpec)

/-- 'tidemilllaw09.WindowHas', WHERE WHAT IT READS IS OF BULK AT MOST 1048576: true; the input reads as it did. -/
def windowHasUptoRow : OpenClaim := { program := "ytjbdnomnjdpckaa", sum := "332e50d7dfb7a0d5745a567525da65e65d2a1f3eb6841d04a519463b65b52c54", func := "tidemill/tidemilllaw09.WindowHas", spec := "windowHas", unfollowed := true, recurses := true, apart := false, narrowed := true }
def WindowHasUptoSaid : Prop := windowHasUptoRow.holds Try.pinned (OpenSpec.upto windowHasSpec)

/-- 'tidemilllaw09.WindowMoves', WHERE WHAT IT READS IS OF BULK AT MOST 1048576: true; the input reads as it did. -/
def windowMovesUptoRow : OpenClaim := { program := "ytjbdnomnjdpckaa", sum := "332e50d7dfb7a0d5745a567525da65e65d2a1f3eb6841d04a519463b65b52c54", func := "tidemill/tidemilllaw09.WindowMoves", spec := "windowMoves", unfollowed := true, recurses := true, apart := false, narrowed := true }
def WindowMovesUptoSaid : Prop := windowMovesUptoRow.holds Try.pinned (OpenSpec.upto windowMovesSpec)

/-- 'tidemilllaw09.WindowCovers', WHERE WHAT IT READS IS OF BULK AT MOST 1048576: true; the input reads as it did. -/
def windowCoversUptoRow : OpenClaim := { program := "ytjbdnomnjdpckaa", sum := "332e50d7dfb7a0d5745a567525da65e65d2a1f3eb6841d04a519463b65b52c54", func := "tidemill/tidemilllaw09.WindowCovers", spec := "windowCovers", unfollowed := true, recurses := true, apart := false, narrowed := true }
def WindowCoversUptoSaid : Prop := windowCoversUptoRow.holds Try.pinned (OpenSpec.upto windowCoversSpec)

/-- 'tidemilllaw09.WindowTells', WHERE WHAT IT READS IS OF BULK AT MOST 1048576: true; the input reads as it did. -/
def windowTellsUptoRow : OpenClaim := { program := "ytjbdnomnjdpckaa", sum := "332e50d7dfb7a0d5745a567525da65e65d2a1f3eb6841d04a519463b65b52c54", func := "tidemill/tidemilllaw09.WindowTells", spec := "windowTells", unfollowed := true, recurses := true, apart := false, narrowed := true }
def WindowTellsUptoSaid : Prop := windowTellsUptoRow.holds Try.pinned (OpenSpec.upto windowTellsSpec)

end Rows
end Go.Proofs.Ytjbdnomnjdpckaa

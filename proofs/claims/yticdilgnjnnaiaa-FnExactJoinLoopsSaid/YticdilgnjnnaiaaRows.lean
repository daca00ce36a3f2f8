/-
  No cell of these rows narrows 'for every input' (looked for: loops, veiled, ifaces, maps, wideKeys, modest, calm, conditions, laid).
  DERIVED. THE GIVEN ROWS OF THIS SEAT. 8 by the template 'for every input the law returns true; each argument reads behind the call as it read before'; 0 by the template 'total and deterministic' (their statements: YticdilgnjnnaiaaTotals.lean).
  GIVEN WITH THE SEED: the statements are not yours to turn. If you find one false, say at which input.
  Laid BY PROGRAM, IN A SANDBOX (cutbox-rows.mjs): the forced cells as the released guide's own fill.sh prints them over the translation fe377b22211d3f33… (all of the seat's roots in one cut). By AI agents, Wed Nov 11 2026. No macro, syntax, notation, axiom, sorry.
-/
import Derived.Test.YticdilgnjnnaiaaChecked
import GoSem.Claim
import GoSem.ClaimJoined
import GoSem.ClaimMapViews
import Derived.JoinedTies
import Derived.KernelRfl
namespace Go.Proofs.Yticdilgnjnnaiaa
/- THE CELL 'sum', in the pinned program and in every row, IS THE sha256 OF THE DUMP (.gsa) THAT YticdilgnjnnaiaaProg.lean LOADS. Nothing in Lean hashes anything: it is a label: what it is worth is what the hold of that sum in a sandbox is worth. -/
noncomputable def Try.pinned : Pinned := { name := "yticdilgnjnnaiaa", sum := "fe377b22211d3f33c64f0ffff32d28d78f079bf869118a2c9c8c3cd4ce994836", checked := Try.checked }
namespace Rows
def none {H : Type} : Left H := { results := [], args := [] }

/-- 'laws.FnExactValidLoop': WHATEVER THE INPUT: true; the input reads as it did. -/
def fnExactValidLoopSpec : ChangeSpec := { name := "fnExactValidLoop", fn := fun _ => fun
  | [d] => { results := [.lit (.bool true)], args := [d] }
  | _ => none }
def fnExactValidLoopRow : OpenClaim := { program := "yticdilgnjnnaiaa", sum := "fe377b22211d3f33c64f0ffff32d28d78f079bf869118a2c9c8c3cd4ce994836", func := "loop.example/g01063/laws.FnExactValidLoop", spec := "fnExactValidLoop", unfollowed := true, recurses := true, apart := false }
def FnExactValidLoopSaid : Prop := fnExactValidLoopRow.holds Try.pinned (OpenSpec.ofChange fnExactValidLoopSpec)

/-- ITS FALSE NEIGHBOUR: 'it returns false'. Refute it at one input. -/
def fnExactValidLoopWrong : ChangeSpec := { name := "fnExactValidLoop", fn := fun _ => fun
  | [d] => { results := [.lit (.bool false)], args := [d] }
  | _ => none }
def FnExactValidLoopWrongFalsely : Prop := fnExactValidLoopRow.holds Try.pinned (OpenSpec.ofChange fnExactValidLoopWrong)

/-- 'laws.FnExactStepsOfLoop': WHATEVER THE INPUT: true; the input reads as it did. -/
def fnExactStepsOfLoopSpec : ChangeSpec := { name := "fnExactStepsOfLoop", fn := fun _ => fun
  | [d] => { results := [.lit (.bool true)], args := [d] }
  | _ => none }
def fnExactStepsOfLoopRow : OpenClaim := { program := "yticdilgnjnnaiaa", sum := "fe377b22211d3f33c64f0ffff32d28d78f079bf869118a2c9c8c3cd4ce994836", func := "loop.example/g01063/laws.FnExactStepsOfLoop", spec := "fnExactStepsOfLoop", unfollowed := true, recurses := true, apart := false }
def FnExactStepsOfLoopSaid : Prop := fnExactStepsOfLoopRow.holds Try.pinned (OpenSpec.ofChange fnExactStepsOfLoopSpec)

/-- ITS FALSE NEIGHBOUR: 'it returns false'. Refute it at one input. -/
def fnExactStepsOfLoopWrong : ChangeSpec := { name := "fnExactStepsOfLoop", fn := fun _ => fun
  | [d] => { results := [.lit (.bool false)], args := [d] }
  | _ => none }
def FnExactStepsOfLoopWrongFalsely : Prop := fnExactStepsOfLoopRow.holds Try.pinned (OpenSpec.ofChange fnExactStepsOfLoopWrong)

/-- 'laws.FnExactRoughestStep': WHATEVER THE INPUT: true; the input reads as it did. -/
def fnExactRoughestStepSpec : ChangeSpec := { name := "fnExactRoughestStep", fn := fun _ => fun
  | [d] => { results := [.lit (.bool true)], args := [d] }
  | _ => none }
def fnExactRoughestStepRow : OpenClaim := { program := "yticdilgnjnnaiaa", sum := "fe377b22211d3f33c64f0ffff32d28d78f079bf869118a2c9c8c3cd4ce994836", func := "loop.example/g01063/laws.FnExactRoughestStep", spec := "fnExactRoughestStep", unfollowed := true, recurses := true, apart := false }
def FnExactRoughestStepSaid : Prop := fnExactRoughestStepRow.holds Try.pinned (OpenSpec.ofChange fnExactRoughestStepSpec)

/-- ITS FALSE NEIGHBOUR: 'it returns false'. Refute it at one input. -/
def fnExactRoughestStepWrong : ChangeSpec := { name := "fnExactRoughestStep", fn := fun _ => fun
  | [d] => { results := [.lit (.bool false)], args := [d] }
  | _ => none }
def FnExactRoughestStepWrongFalsely : Prop := fnExactRoughestStepRow.holds Try.pinned (OpenSpec.ofChange fnExactRoughestStepWrong)

/-- 'laws.FnExactCloseLoop': WHATEVER THE INPUT: true; the input reads as it did. -/
def fnExactCloseLoopSpec : ChangeSpec := { name := "fnExactCloseLoop", fn := fun _ => fun
  | [d1, d2] => { results := [.lit (.bool true)], args := [d1, d2] }
  | _ => none }
def fnExactCloseLoopRow : OpenClaim := { program := "yticdilgnjnnaiaa", sum := "fe377b22211d3f33c64f0ffff32d28d78f079bf869118a2c9c8c3cd4ce994836", func := "loop.example/g01063/laws.FnExactCloseLoop", spec := "fnExactCloseLoop", unfollowed := true, recurses := true, apart := false }
def FnExactCloseLoopSaid : Prop := fnExactCloseLoopRow.holds Try.pinned (OpenSpec.ofChange fnExactCloseLoopSpec)

/-- ITS FALSE NEIGHBOUR: 'it returns false'. Refute it at one input. -/
def fnExactCloseLoopWrong : ChangeSpec := { name := "fnExactCloseLoop", fn := fun _ => fun
  | [d1, d2] => { results := [.lit (.bool false)], args := [d1, d2] }
  | _ => none }
def FnExactCloseLoopWrongFalsely : Prop := fnExactCloseLoopRow.holds Try.pinned (OpenSpec.ofChange fnExactCloseLoopWrong)

/-- 'laws.FnExactJoinLoops': WHATEVER THE INPUT: true; the input reads as it did. -/
def fnExactJoinLoopsSpec : ChangeSpec := { name := "fnExactJoinLoops", fn := fun _ => fun
  | [d1, d2] => { results := [.lit (.bool true)], args := [d1, d2] }
  | _ => none }
def fnExactJoinLoopsRow : OpenClaim := { program := "yticdilgnjnnaiaa", sum := "fe377b22211d3f33c64f0ffff32d28d78f079bf869118a2c9c8c3cd4ce994836", func := "loop.example/g01063/laws.FnExactJoinLoops", spec := "fnExactJoinLoops", unfollowed := true, recurses := true, apart := false }
def FnExactJoinLoopsSaid : Prop := fnExactJoinLoopsRow.holds Try.pinned (OpenSpec.ofChange fnExactJoinLoopsSpec)

/-- ITS FALSE NEIGHBOUR: 'it returns false'. Refute it at one input. -/
def fnExactJoinLoopsWrong : ChangeSpec := { name := "fnExactJoinLoops", fn := fun _ => fun
  | [d1, d2] => { results := [.lit (.bool false)], args := [d1, d2] }
  | _ => none }
def FnExactJoinLoopsWrongFalsely : Prop := fnExactJoinLoopsRow.holds Try.pinned (OpenSpec.ofChange fnExactJoinLoopsWrong)

/-- 'laws.FnExactTurnLoop': WHATEVER THE INPUT: true; the input reads as it did. -/
def fnExactTurnLoopSpec : ChangeSpec := { name := "fnExactTurnLoop", fn := fun _ => fun
  | [d1, d2] => { results := [.lit (.bool true)], args := [d1, d2] }
  | _ => none }
def fnExactTurnLoopRow : OpenClaim := { program := "yticdilgnjnnaiaa", sum := "fe377b22211d3f33c64f0ffff32d28d78f079bf869118a2c9c8c3cd4ce994836", func := "loop.example/g01063/laws.FnExactTurnLoop", spec := "fnExactTurnLoop", unfollowed := true, recurses := true, apart := false }
def FnExactTurnLoopSaid : Prop := fnExactTurnLoopRow.holds Try.pinned (OpenSpec.ofChange fnExactTurnLoopSpec)

/-- ITS FALSE NEIGHBOUR: 'it returns false'. Refute it at one input. -/
def fnExactTurnLoopWrong : ChangeSpec := { name := "fnExactTurnLoop", fn := fun _ => fun
  | [d1, d2] => { results := [.lit (.bool false)], args := [d1, d2] }
  | _ => none }
def FnExactTurnLoopWrongFalsely : Prop := fnExactTurnLoopRow.holds Try.pinned (OpenSpec.ofChange fnExactTurnLoopWrong)

/-- 'laws.FnExactBestTurn': WHATEVER THE INPUT: true; the input reads as it did. -/
def fnExactBestTurnSpec : ChangeSpec := { name := "fnExactBestTurn", fn := fun _ => fun
  | [d1, d2] => { results := [.lit (.bool true)], args := [d1, d2] }
  | _ => none }
def fnExactBestTurnRow : OpenClaim := { program := "yticdilgnjnnaiaa", sum := "fe377b22211d3f33c64f0ffff32d28d78f079bf869118a2c9c8c3cd4ce994836", func := "loop.example/g01063/laws.FnExactBestTurn", spec := "fnExactBestTurn", unfollowed := true, recurses := true, apart := false }
def FnExactBestTurnSaid : Prop := fnExactBestTurnRow.holds Try.pinned (OpenSpec.ofChange fnExactBestTurnSpec)

/-- ITS FALSE NEIGHBOUR: 'it returns false'. Refute it at one input. -/
def fnExactBestTurnWrong : ChangeSpec := { name := "fnExactBestTurn", fn := fun _ => fun
  | [d1, d2] => { results := [.lit (.bool false)], args := [d1, d2] }
  | _ => none }
def FnExactBestTurnWrongFalsely : Prop := fnExactBestTurnRow.holds Try.pinned (OpenSpec.ofChange fnExactBestTurnWrong)

/-- 'laws.FnExactThinLoop': WHATEVER THE INPUT: true; the input reads as it did. -/
def fnExactThinLoopSpec : ChangeSpec := { name := "fnExactThinLoop", fn := fun _ => fun
  | [d1, d2] => { results := [.lit (.bool true)], args := [d1, d2] }
  | _ => none }
def fnExactThinLoopRow : OpenClaim := { program := "yticdilgnjnnaiaa", sum := "fe377b22211d3f33c64f0ffff32d28d78f079bf869118a2c9c8c3cd4ce994836", func := "loop.example/g01063/laws.FnExactThinLoop", spec := "fnExactThinLoop", unfollowed := true, recurses := true, apart := false }
def FnExactThinLoopSaid : Prop := fnExactThinLoopRow.holds Try.pinned (OpenSpec.ofChange fnExactThinLoopSpec)

/-- ITS FALSE NEIGHBOUR: 'it returns false'. Refute it at one input. -/
def fnExactThinLoopWrong : ChangeSpec := { name := "fnExactThinLoop", fn := fun _ => fun
  | [d1, d2] => { results := [.lit (.bool false)], args := [d1, d2] }
  | _ => none }
def FnExactThinLoopWrongFalsely : Prop := fnExactThinLoopRow.holds Try.pinned (OpenSpec.ofChange fnExactThinLoopWrong)

/- THE SECOND FORM. 'bulk': how many values and letters a reading holds, each counted each time it is reached (what is shared counts as often as it is met; a slice's spare places count too). A statement '..UptoSaid' is the law's where the arguments, and the package variables that the reading takes, are together of bulk at most 1048576: NARROWER than '..Said'. Prove '..Said' where nothing that the law and all that it calls make is longer than what came in: it says more and counts as full. Else prove '..UptoSaid'. A law counts once. -/
mutual
def uptoBulk {H : Type} : DataW H → Nat
  | .lit (.string bytes) => bytes.length + 1
  | .lit _ => 1
  | .nil => 1
  | .ptr d => uptoBulk d + 1
  | .slice elems spare => uptoBulkAll elems + uptoBulkAll spare + 1
  | .agg parts => uptoBulkAll parts + 1
  | .iface _ d => uptoBulk d + 1
  | .map entries => uptoBulkEntries entries + 1
  | .held _ => 1
def uptoBulkAll {H : Type} : List (DataW H) → Nat
  | [] => 0
  | d :: r => uptoBulk d + uptoBulkAll r
def uptoBulkEntries {H : Type} : List (Lit × DataW H) → Nat
  | [] => 0
  | x :: r => uptoBulkEntry x + uptoBulkEntries r
def uptoBulkEntry {H : Type} : Lit × DataW H → Nat
  | (.string bytes, d) => bytes.length + uptoBulk d + 1
  | (_, d) => uptoBulk d + 1
 end
def uptoSmall : (H : Type) → List (DataW H) → Bool := fun _ ds => decide (uptoBulkAll ds ≤ 1048576)
def OpenSpec.upto (s : _root_.Go.ChangeSpec) : _root_.Go.OpenSpec := { _root_.Go.OpenSpec.ofChange s with cond := some uptoSmall }

/-- 'laws.FnExactValidLoop', WHERE WHAT IT READS IS OF BULK AT MOST 1048576: true; the input reads as it did. -/
def fnExactValidLoopUptoRow : OpenClaim := { program := "yticdilgnjnnaiaa", sum := "fe377b22211d3f33c64f0ffff32d28d78f079bf869118a2c9c8c3cd4ce994836", func := "loop.example/g01063/laws.FnExactValidLoop", spec := "fnExactValidLoop", unfollowed := true, recurses := true, apart := false, narrowed := true }
def FnExactValidLoopUptoSaid : Prop := fnExactValidLoopUptoRow.holds Try.pinned (OpenSpec.upto fnExactValidLoopSpec)

/-- 'laws.FnExactStepsOfLoop', WHERE WHAT IT READS IS OF BULK AT MOST 1048576: true; the input reads as it did. -/
def fnExactStepsOfLoopUptoRow : OpenClaim := { program := "yticdilgnjnnaiaa", sum := "fe377b22211d3f33c64f0ffff32d28d78f079bf869118a2c9c8c3cd4ce994836", func := "loop.example/g01063/laws.FnExactStepsOfLoop", spec := "fnExactStepsOfLoop", unfollowed := true, recurses := true, apart := false, narrowed := true }
def FnExactStepsOfLoopUptoSaid : Prop := fnExactStepsOfLoopUptoRow.holds Try.pinned (OpenSpec.upto fnExactStepsOfLoopSpec)

/-- 'laws.FnExactRoughestStep', WHERE WHAT IT READS IS OF BULK AT MOST 1048576: true; the input reads as it did. -/
def fnExactRoughestStepUptoRow : OpenClaim := { program := "yticdilgnjnnaiaa", sum := "fe377b22211d3f33c64f0ffff32d28d78f079bf869118a2c9c8c3cd4ce994836", func := "loop.example/g01063/laws.FnExactRoughestStep", spec := "fnExactRoughestStep", unfollowed := true, recurses := true, apart := false, narrowed := true }
def FnExactRoughestStepUptoSaid : Prop := fnExactRoughestStepUptoRow.holds Try.pinned (OpenSpec.upto fnExactRoughestStepSpec)

/-- 'laws.FnExactCloseLoop', WHERE WHAT IT READS IS OF BULK AT MOST 1048576: true; the input reads as it did. -/
def fnExactCloseLoopUptoRow : OpenClaim := { program := "yticdilgnjnnaiaa", sum := "fe377b22211d3f33c64f0ffff32d28d78f079bf869118a2c9c8c3cd4ce994836", func := "loop.example/g01063/laws.FnExactCloseLoop", spec := "fnExactCloseLoop", unfollowed := true, recurses := true, apart := false, narrowed := true }
def FnExactCloseLoopUptoSaid : Prop := fnExactCloseLoopUptoRow.holds Try.pinned (OpenSpec.upto fnExactCloseLoopSpec)

/-- 'laws.FnExactJoinLoops', WHERE WHAT IT READS IS OF BULK AT MOST 1048576: true; the input reads as it did. -/
def fnExactJoinLoopsUptoRow : OpenClaim := { program := "yticdilgnjnnaiaa", sum := "fe377b22211d3f33c64f0ffff32d28d78f079bf869118a2c9c8c3cd4ce994836", func := "loop.example/g01063/laws.FnExactJoinLoops", spec := "fnExactJoinLoops", unfollowed := true, recurses := true, apart := false, narrowed := true }
def FnExactJoinLoopsUptoSaid : Prop := fnExactJoinLoopsUptoRow.holds Try.pinned (OpenSpec.upto fnExactJoinLoopsSpec)

/-- 'laws.FnExactTurnLoop', WHERE WHAT IT READS IS OF BULK AT MOST 1048576: true; the input reads as it did. -/
def fnExactTurnLoopUptoRow : OpenClaim := { program := "yticdilgnjnnaiaa", sum := "fe377b22211d3f33c64f0ffff32d28d78f079bf869118a2c9c8c3cd4ce994836", func := "loop.example/g01063/laws.FnExactTurnLoop", spec := "fnExactTurnLoop", unfollowed := true, recurses := true, apart := false, narrowed := true }
def FnExactTurnLoopUptoSaid : Prop := fnExactTurnLoopUptoRow.holds Try.pinned (OpenSpec.upto fnExactTurnLoopSpec)

/-- 'laws.FnExactBestTurn', WHERE WHAT IT READS IS OF BULK AT MOST 1048576: true; the input reads as it did. -/
def fnExactBestTurnUptoRow : OpenClaim := { program := "yticdilgnjnnaiaa", sum := "fe377b22211d3f33c64f0ffff32d28d78f079bf869118a2c9c8c3cd4ce994836", func := "loop.example/g01063/laws.FnExactBestTurn", spec := "fnExactBestTurn", unfollowed := true, recurses := true, apart := false, narrowed := true }
def FnExactBestTurnUptoSaid : Prop := fnExactBestTurnUptoRow.holds Try.pinned (OpenSpec.upto fnExactBestTurnSpec)

/-- 'laws.FnExactThinLoop', WHERE WHAT IT READS IS OF BULK AT MOST 1048576: true; the input reads as it did. -/
def fnExactThinLoopUptoRow : OpenClaim := { program := "yticdilgnjnnaiaa", sum := "fe377b22211d3f33c64f0ffff32d28d78f079bf869118a2c9c8c3cd4ce994836", func := "loop.example/g01063/laws.FnExactThinLoop", spec := "fnExactThinLoop", unfollowed := true, recurses := true, apart := false, narrowed := true }
def FnExactThinLoopUptoSaid : Prop := fnExactThinLoopUptoRow.holds Try.pinned (OpenSpec.upto fnExactThinLoopSpec)

end Rows
end Go.Proofs.Yticdilgnjnnaiaa

/-
  No cell of these rows narrows 'for every input' (looked for: loops, veiled, ifaces, maps, wideKeys, modest, calm, conditions, laid).
  DERIVED. THE GIVEN ROWS OF THIS SEAT. 4 by the template 'for every input the law returns true; each argument reads behind the call as it read before'; 0 by the template 'total and deterministic' (their statements: YtilifijfmdielaaTotals.lean).
  GIVEN WITH THE SEED: the statements are not yours to turn. If you find one false, say at which input.
  Laid BY PROGRAM, IN A SANDBOX (cutbox-rows.mjs): the forced cells as the released guide's own fill.sh prints them over the translation b0a16e350e983475… (all of the seat's roots in one cut). By AI agents, Wed Nov 11 2026. No macro, syntax, notation, axiom, sorry.
-/
import Derived.Test.YtilifijfmdielaaChecked
import GoSem.Claim
import GoSem.ClaimJoined
import GoSem.ClaimMapViews
import Derived.JoinedTies
import Derived.KernelRfl
namespace Go.Proofs.Ytilifijfmdielaa
/- THE CELL 'sum', in the pinned program and in every row, IS THE sha256 OF THE DUMP (.gsa) THAT YtilifijfmdielaaProg.lean LOADS. Nothing in Lean hashes anything: it is a label: what it is worth is what the hold of that sum in a sandbox is worth. -/
noncomputable def Try.pinned : Pinned := { name := "ytilifijfmdielaa", sum := "b0a16e350e9834754c5afe70a9fccfa4213e70efdfd80eb148846f161c31274f", checked := Try.checked }
namespace Rows
def none {H : Type} : Left H := { results := [], args := [] }

/-- 'laws.FnExactFirstTurn': WHATEVER THE INPUT: true; the input reads as it did. -/
def fnExactFirstTurnSpec : ChangeSpec := { name := "fnExactFirstTurn", fn := fun _ => fun
  | [d] => { results := [.lit (.bool true)], args := [d] }
  | _ => none }
def fnExactFirstTurnRow : OpenClaim := { program := "ytilifijfmdielaa", sum := "b0a16e350e9834754c5afe70a9fccfa4213e70efdfd80eb148846f161c31274f", func := "loop.example/g01063/laws.FnExactFirstTurn", spec := "fnExactFirstTurn", apart := false }
def FnExactFirstTurnSaid : Prop := fnExactFirstTurnRow.holds Try.pinned (OpenSpec.ofChange fnExactFirstTurnSpec)

/-- ITS FALSE NEIGHBOUR: 'it returns false'. Refute it at one input. -/
def fnExactFirstTurnWrong : ChangeSpec := { name := "fnExactFirstTurn", fn := fun _ => fun
  | [d] => { results := [.lit (.bool false)], args := [d] }
  | _ => none }
def FnExactFirstTurnWrongFalsely : Prop := fnExactFirstTurnRow.holds Try.pinned (OpenSpec.ofChange fnExactFirstTurnWrong)

/-- 'laws.FnExactBackMotion': WHATEVER THE INPUT: true; the input reads as it did. -/
def fnExactBackMotionSpec : ChangeSpec := { name := "fnExactBackMotion", fn := fun _ => fun
  | [d] => { results := [.lit (.bool true)], args := [d] }
  | _ => none }
def fnExactBackMotionRow : OpenClaim := { program := "ytilifijfmdielaa", sum := "b0a16e350e9834754c5afe70a9fccfa4213e70efdfd80eb148846f161c31274f", func := "loop.example/g01063/laws.FnExactBackMotion", spec := "fnExactBackMotion", apart := false }
def FnExactBackMotionSaid : Prop := fnExactBackMotionRow.holds Try.pinned (OpenSpec.ofChange fnExactBackMotionSpec)

/-- ITS FALSE NEIGHBOUR: 'it returns false'. Refute it at one input. -/
def fnExactBackMotionWrong : ChangeSpec := { name := "fnExactBackMotion", fn := fun _ => fun
  | [d] => { results := [.lit (.bool false)], args := [d] }
  | _ => none }
def FnExactBackMotionWrongFalsely : Prop := fnExactBackMotionRow.holds Try.pinned (OpenSpec.ofChange fnExactBackMotionWrong)

/-- 'laws.FnExactSameMotion': WHATEVER THE INPUT: true; the input reads as it did. -/
def fnExactSameMotionSpec : ChangeSpec := { name := "fnExactSameMotion", fn := fun _ => fun
  | [d1, d2] => { results := [.lit (.bool true)], args := [d1, d2] }
  | _ => none }
def fnExactSameMotionRow : OpenClaim := { program := "ytilifijfmdielaa", sum := "b0a16e350e9834754c5afe70a9fccfa4213e70efdfd80eb148846f161c31274f", func := "loop.example/g01063/laws.FnExactSameMotion", spec := "fnExactSameMotion", apart := false }
def FnExactSameMotionSaid : Prop := fnExactSameMotionRow.holds Try.pinned (OpenSpec.ofChange fnExactSameMotionSpec)

/-- ITS FALSE NEIGHBOUR: 'it returns false'. Refute it at one input. -/
def fnExactSameMotionWrong : ChangeSpec := { name := "fnExactSameMotion", fn := fun _ => fun
  | [d1, d2] => { results := [.lit (.bool false)], args := [d1, d2] }
  | _ => none }
def FnExactSameMotionWrongFalsely : Prop := fnExactSameMotionRow.holds Try.pinned (OpenSpec.ofChange fnExactSameMotionWrong)

/-- 'laws.FnExactLooksBack': WHATEVER THE INPUT: true; the input reads as it did. -/
def fnExactLooksBackSpec : ChangeSpec := { name := "fnExactLooksBack", fn := fun _ => fun
  | [d] => { results := [.lit (.bool true)], args := [d] }
  | _ => none }
def fnExactLooksBackRow : OpenClaim := { program := "ytilifijfmdielaa", sum := "b0a16e350e9834754c5afe70a9fccfa4213e70efdfd80eb148846f161c31274f", func := "loop.example/g01063/laws.FnExactLooksBack", spec := "fnExactLooksBack", apart := false }
def FnExactLooksBackSaid : Prop := fnExactLooksBackRow.holds Try.pinned (OpenSpec.ofChange fnExactLooksBackSpec)

/-- ITS FALSE NEIGHBOUR: 'it returns false'. Refute it at one input. -/
def fnExactLooksBackWrong : ChangeSpec := { name := "fnExactLooksBack", fn := fun _ => fun
  | [d] => { results := [.lit (.bool false)], args := [d] }
  | _ => none }
def FnExactLooksBackWrongFalsely : Prop := fnExactLooksBackRow.holds Try.pinned (OpenSpec.ofChange fnExactLooksBackWrong)

/- THE SECOND FORM. 'bulk': how many values and letters a reading holds, each counted each time it is reached (what is shared counts as often as it is met; a slice's spare places count too). A statement '..UptoSaid' is the law's where the arguments, and the package variables that the reading takes, are together of bulk at most 1048576: NARROWER than '..Said'. Prove '..Said' where nothing that the law and all that it calls make is longer than what came in: it says more and counts as full. Else prove '..UptoSaid'. A law counts once. -/
mutual
def uptoBulk {H : Type} : DataW H → Nat
  | .lit (.string bytes) => bytes.length + 1
  | .lit _ => 1
  | .nil => 1
  | .ptr d => uptoBulk d + 1
  | .slice elems spare => uptoBulkAll elems + uptoBulkAll spare + 1
  | .agg parts => uptoBulkAll parts + 1
  | .iface _ d => uptoBulk d + 1
  | .map entries => uptoBulkEntries entries + 1
  | .held _ => 1
def uptoBulkAll {H : Type} : List (DataW H) → Nat
  | [] => 0
  | d :: r => uptoBulk d + uptoBulkAll r
def uptoBulkEntries {H : Type} : List (Lit × DataW H) → Nat
  | [] => 0
  | x :: r => uptoBulkEntry x + uptoBulkEntries r
def uptoBulkEntry {H : Type} : Lit × DataW H → Nat
  | (.string bytes, d) => bytes.length + uptoBulk d + 1
  | (_, d) => uptoBulk d + 1
 end
def uptoSmall : (H : Type) → List (DataW H) → Bool := fun _ ds => decide (uptoBulkAll ds ≤ 1048576)
def OpenSpec.upto (s : _root_.Go.ChangeSpec) : _root_.Go.OpenSpec := { _root_.Go.OpenSpec.ofChange s with cond := some uptoSmall }

/-- 'laws.FnExactFirstTurn', WHERE WHAT IT READS IS OF BULK AT MOST 1048576: true; the input reads as it did. -/
def fnExactFirstTurnUptoRow : OpenClaim := { program := "ytilifijfmdielaa", sum := "b0a16e350e9834754c5afe70a9fccfa4213e70efdfd80eb148846f161c31274f", func := "loop.example/g01063/laws.FnExactFirstTurn", spec := "fnExactFirstTurn", apart := false, narrowed := true }
def FnExactFirstTurnUptoSaid : Prop := fnExactFirstTurnUptoRow.holds Try.pinned (OpenSpec.upto fnExactFirstTurnSpec)

/-- 'laws.FnExactBackMotion', WHERE WHAT IT READS IS OF BULK AT MOST 1048576: true; the input reads as it did. -/
def fnExactBackMotionUptoRow : OpenClaim := { program := "ytilifijfmdielaa", sum := "b0a16e350e9834754c5afe70a9fccfa4213e70efdfd80eb148846f161c31274f", func := "loop.example/g01063/laws.FnExactBackMotion", spec := "fnExactBackMotion", apart := false, narrowed := true }
def FnExactBackMotionUptoSaid : Prop := fnExactBackMotionUptoRow.holds Try.pinned (OpenSpec.upto fnExactBackMotionSpec)

/-- 'laws.FnExactSameMotion', WHERE WHAT IT READS IS OF BULK AT MOST 1048576: true; the input reads as it did. -/
def fnExactSameMotionUptoRow : OpenClaim := { program := "ytilifijfmdielaa", sum := "b0a16e350e9834754c5afe70a9fccfa4213e70efdfd80eb148846f161c31274f", func := "loop.example/g01063/laws.FnExactSameMotion", spec := "fnExactSameMotion", apart := false, narrowed := true }
def FnExactSameMotionUptoSaid : Prop := fnExactSameMotionUptoRow.holds Try.pinned (OpenSpec.upto fnExactSameMotionSpec)

/-- 'laws.FnExactLooksBack', WHERE WHAT IT READS IS OF BULK AT MOST 1048576: true; the input reads as it did. -/
def fnExactLooksBackUptoRow : OpenClaim := { program := "ytilifijfmdielaa", sum := "b0a16e350e9834754c5afe70a9fccfa4213e70efdfd80eb148846f161c31274f", func := "loop.example/g01063/laws.FnExactLooksBack", spec := "fnExactLooksBack", apart := false, narrowed := true }
def FnExactLooksBackUptoSaid : Prop := fnExactLooksBackUptoRow.holds Try.pinned (OpenSpec.upto fnExactLooksBackSpec)

end Rows
end Go.Proofs.Ytilifijfmdielaa

/-
  No cell of these rows narrows 'for every input' (looked for: loops, veiled, ifaces, maps, wideKeys, modest, calm, conditions, laid).
  DERIVED. THE GIVEN ROWS OF THIS SEAT. 11 by the template 'for every input the law returns true; each argument reads behind the call as it read before'; 0 by the template 'total and deterministic' (their statements: YtcfdokoellcjiaaTotals.lean).
  GIVEN WITH THE SEED: the statements are not yours to turn. If you find one false, say at which input.
  Laid BY PROGRAM, IN A SANDBOX (cutbox-rows.mjs): the forced cells as the released guide's own fill.sh prints them over the translation 6a2cd1459d48bffc… (all of the seat's roots in one cut). By AI agents, Wed Nov 11 2026. No macro, syntax, notation, axiom, sorry.
-/
import Derived.Test.YtcfdokoellcjiaaChecked
import GoSem.Claim
import GoSem.ClaimJoined
import GoSem.ClaimMapViews
import Derived.JoinedTies
import Derived.KernelRfl
namespace Go.Proofs.Ytcfdokoellcjiaa
/- THE CELL 'sum', in the pinned program and in every row, IS THE sha256 OF THE DUMP (.gsa) THAT YtcfdokoellcjiaaProg.lean LOADS. Nothing in Lean hashes anything: it is a label: what it is worth is what the hold of that sum in a sandbox is worth. -/
noncomputable def Try.pinned : Pinned := { name := "ytcfdokoellcjiaa", sum := "6a2cd1459d48bffc08d385ac5c49d09f492a67f9f83b79ea8b670f0a0a6d323c", checked := Try.checked }
namespace Rows
def none {H : Type} : Left H := { results := [], args := [] }

/-- 'laws.FnExactConstants': WHATEVER THE INPUT: true; the input reads as it did. -/
def fnExactConstantsSpec : ChangeSpec := { name := "fnExactConstants", fn := fun _ => fun
  | [] => { results := [.lit (.bool true)], args := [] }
  | _ => none }
def fnExactConstantsRow : OpenClaim := { program := "ytcfdokoellcjiaa", sum := "6a2cd1459d48bffc08d385ac5c49d09f492a67f9f83b79ea8b670f0a0a6d323c", func := "loop.example/g01063/laws.FnExactConstants", spec := "fnExactConstants", apart := false }
def FnExactConstantsSaid : Prop := fnExactConstantsRow.holds Try.pinned (OpenSpec.ofChange fnExactConstantsSpec)

/-- ITS FALSE NEIGHBOUR: 'it returns false'. Refute it at one input. -/
def fnExactConstantsWrong : ChangeSpec := { name := "fnExactConstants", fn := fun _ => fun
  | [] => { results := [.lit (.bool false)], args := [] }
  | _ => none }
def FnExactConstantsWrongFalsely : Prop := fnExactConstantsRow.holds Try.pinned (OpenSpec.ofChange fnExactConstantsWrong)

/-- 'laws.FnExactValidDrum': WHATEVER THE INPUT: true; the input reads as it did. -/
def fnExactValidDrumSpec : ChangeSpec := { name := "fnExactValidDrum", fn := fun _ => fun
  | [d] => { results := [.lit (.bool true)], args := [d] }
  | _ => none }
def fnExactValidDrumRow : OpenClaim := { program := "ytcfdokoellcjiaa", sum := "6a2cd1459d48bffc08d385ac5c49d09f492a67f9f83b79ea8b670f0a0a6d323c", func := "loop.example/g01063/laws.FnExactValidDrum", spec := "fnExactValidDrum", apart := false }
def FnExactValidDrumSaid : Prop := fnExactValidDrumRow.holds Try.pinned (OpenSpec.ofChange fnExactValidDrumSpec)

/-- ITS FALSE NEIGHBOUR: 'it returns false'. Refute it at one input. -/
def fnExactValidDrumWrong : ChangeSpec := { name := "fnExactValidDrum", fn := fun _ => fun
  | [d] => { results := [.lit (.bool false)], args := [d] }
  | _ => none }
def FnExactValidDrumWrongFalsely : Prop := fnExactValidDrumRow.holds Try.pinned (OpenSpec.ofChange fnExactValidDrumWrong)

/-- 'laws.FnExactValidMotion': WHATEVER THE INPUT: true; the input reads as it did. -/
def fnExactValidMotionSpec : ChangeSpec := { name := "fnExactValidMotion", fn := fun _ => fun
  | [d] => { results := [.lit (.bool true)], args := [d] }
  | _ => none }
def fnExactValidMotionRow : OpenClaim := { program := "ytcfdokoellcjiaa", sum := "6a2cd1459d48bffc08d385ac5c49d09f492a67f9f83b79ea8b670f0a0a6d323c", func := "loop.example/g01063/laws.FnExactValidMotion", spec := "fnExactValidMotion", apart := false }
def FnExactValidMotionSaid : Prop := fnExactValidMotionRow.holds Try.pinned (OpenSpec.ofChange fnExactValidMotionSpec)

/-- ITS FALSE NEIGHBOUR: 'it returns false'. Refute it at one input. -/
def fnExactValidMotionWrong : ChangeSpec := { name := "fnExactValidMotion", fn := fun _ => fun
  | [d] => { results := [.lit (.bool false)], args := [d] }
  | _ => none }
def FnExactValidMotionWrongFalsely : Prop := fnExactValidMotionRow.holds Try.pinned (OpenSpec.ofChange fnExactValidMotionWrong)

/-- 'laws.FnExactIsName': WHATEVER THE INPUT: true; the input reads as it did. -/
def fnExactIsNameSpec : ChangeSpec := { name := "fnExactIsName", fn := fun _ => fun
  | [d] => { results := [.lit (.bool true)], args := [d] }
  | _ => none }
def fnExactIsNameRow : OpenClaim := { program := "ytcfdokoellcjiaa", sum := "6a2cd1459d48bffc08d385ac5c49d09f492a67f9f83b79ea8b670f0a0a6d323c", func := "loop.example/g01063/laws.FnExactIsName", spec := "fnExactIsName", apart := false }
def FnExactIsNameSaid : Prop := fnExactIsNameRow.holds Try.pinned (OpenSpec.ofChange fnExactIsNameSpec)

/-- ITS FALSE NEIGHBOUR: 'it returns false'. Refute it at one input. -/
def fnExactIsNameWrong : ChangeSpec := { name := "fnExactIsName", fn := fun _ => fun
  | [d] => { results := [.lit (.bool false)], args := [d] }
  | _ => none }
def FnExactIsNameWrongFalsely : Prop := fnExactIsNameRow.holds Try.pinned (OpenSpec.ofChange fnExactIsNameWrong)

/-- 'laws.FnExactStandsStill': WHATEVER THE INPUT: true; the input reads as it did. -/
def fnExactStandsStillSpec : ChangeSpec := { name := "fnExactStandsStill", fn := fun _ => fun
  | [d1, d2] => { results := [.lit (.bool true)], args := [d1, d2] }
  | _ => none }
def fnExactStandsStillRow : OpenClaim := { program := "ytcfdokoellcjiaa", sum := "6a2cd1459d48bffc08d385ac5c49d09f492a67f9f83b79ea8b670f0a0a6d323c", func := "loop.example/g01063/laws.FnExactStandsStill", spec := "fnExactStandsStill", apart := false }
def FnExactStandsStillSaid : Prop := fnExactStandsStillRow.holds Try.pinned (OpenSpec.ofChange fnExactStandsStillSpec)

/-- ITS FALSE NEIGHBOUR: 'it returns false'. Refute it at one input. -/
def fnExactStandsStillWrong : ChangeSpec := { name := "fnExactStandsStill", fn := fun _ => fun
  | [d1, d2] => { results := [.lit (.bool false)], args := [d1, d2] }
  | _ => none }
def FnExactStandsStillWrongFalsely : Prop := fnExactStandsStillRow.holds Try.pinned (OpenSpec.ofChange fnExactStandsStillWrong)

/-- 'laws.FnExactCommonLength': WHATEVER THE INPUT: true; the input reads as it did. -/
def fnExactCommonLengthSpec : ChangeSpec := { name := "fnExactCommonLength", fn := fun _ => fun
  | [d1, d2] => { results := [.lit (.bool true)], args := [d1, d2] }
  | _ => none }
def fnExactCommonLengthRow : OpenClaim := { program := "ytcfdokoellcjiaa", sum := "6a2cd1459d48bffc08d385ac5c49d09f492a67f9f83b79ea8b670f0a0a6d323c", func := "loop.example/g01063/laws.FnExactCommonLength", spec := "fnExactCommonLength", apart := false }
def FnExactCommonLengthSaid : Prop := fnExactCommonLengthRow.holds Try.pinned (OpenSpec.ofChange fnExactCommonLengthSpec)

/-- ITS FALSE NEIGHBOUR: 'it returns false'. Refute it at one input. -/
def fnExactCommonLengthWrong : ChangeSpec := { name := "fnExactCommonLength", fn := fun _ => fun
  | [d1, d2] => { results := [.lit (.bool false)], args := [d1, d2] }
  | _ => none }
def FnExactCommonLengthWrongFalsely : Prop := fnExactCommonLengthRow.holds Try.pinned (OpenSpec.ofChange fnExactCommonLengthWrong)

/-- 'laws.FnExactValidFraction': WHATEVER THE INPUT: true; the input reads as it did. -/
def fnExactValidFractionSpec : ChangeSpec := { name := "fnExactValidFraction", fn := fun _ => fun
  | [d] => { results := [.lit (.bool true)], args := [d] }
  | _ => none }
def fnExactValidFractionRow : OpenClaim := { program := "ytcfdokoellcjiaa", sum := "6a2cd1459d48bffc08d385ac5c49d09f492a67f9f83b79ea8b670f0a0a6d323c", func := "loop.example/g01063/laws.FnExactValidFraction", spec := "fnExactValidFraction", apart := false }
def FnExactValidFractionSaid : Prop := fnExactValidFractionRow.holds Try.pinned (OpenSpec.ofChange fnExactValidFractionSpec)

/-- ITS FALSE NEIGHBOUR: 'it returns false'. Refute it at one input. -/
def fnExactValidFractionWrong : ChangeSpec := { name := "fnExactValidFraction", fn := fun _ => fun
  | [d] => { results := [.lit (.bool false)], args := [d] }
  | _ => none }
def FnExactValidFractionWrongFalsely : Prop := fnExactValidFractionRow.holds Try.pinned (OpenSpec.ofChange fnExactValidFractionWrong)

/-- 'laws.FnExactGhostsOf': WHATEVER THE INPUT: true; the input reads as it did. -/
def fnExactGhostsOfSpec : ChangeSpec := { name := "fnExactGhostsOf", fn := fun _ => fun
  | [d1, d2] => { results := [.lit (.bool true)], args := [d1, d2] }
  | _ => none }
def fnExactGhostsOfRow : OpenClaim := { program := "ytcfdokoellcjiaa", sum := "6a2cd1459d48bffc08d385ac5c49d09f492a67f9f83b79ea8b670f0a0a6d323c", func := "loop.example/g01063/laws.FnExactGhostsOf", spec := "fnExactGhostsOf", apart := false }
def FnExactGhostsOfSaid : Prop := fnExactGhostsOfRow.holds Try.pinned (OpenSpec.ofChange fnExactGhostsOfSpec)

/-- ITS FALSE NEIGHBOUR: 'it returns false'. Refute it at one input. -/
def fnExactGhostsOfWrong : ChangeSpec := { name := "fnExactGhostsOf", fn := fun _ => fun
  | [d1, d2] => { results := [.lit (.bool false)], args := [d1, d2] }
  | _ => none }
def FnExactGhostsOfWrongFalsely : Prop := fnExactGhostsOfRow.holds Try.pinned (OpenSpec.ofChange fnExactGhostsOfWrong)

/-- 'laws.FnExactPeriodOf': WHATEVER THE INPUT: true; the input reads as it did. -/
def fnExactPeriodOfSpec : ChangeSpec := { name := "fnExactPeriodOf", fn := fun _ => fun
  | [d] => { results := [.lit (.bool true)], args := [d] }
  | _ => none }
def fnExactPeriodOfRow : OpenClaim := { program := "ytcfdokoellcjiaa", sum := "6a2cd1459d48bffc08d385ac5c49d09f492a67f9f83b79ea8b670f0a0a6d323c", func := "loop.example/g01063/laws.FnExactPeriodOf", spec := "fnExactPeriodOf", apart := false }
def FnExactPeriodOfSaid : Prop := fnExactPeriodOfRow.holds Try.pinned (OpenSpec.ofChange fnExactPeriodOfSpec)

/-- ITS FALSE NEIGHBOUR: 'it returns false'. Refute it at one input. -/
def fnExactPeriodOfWrong : ChangeSpec := { name := "fnExactPeriodOf", fn := fun _ => fun
  | [d] => { results := [.lit (.bool false)], args := [d] }
  | _ => none }
def FnExactPeriodOfWrongFalsely : Prop := fnExactPeriodOfRow.holds Try.pinned (OpenSpec.ofChange fnExactPeriodOfWrong)

/-- 'laws.FnExactChangesIn': WHATEVER THE INPUT: true; the input reads as it did. -/
def fnExactChangesInSpec : ChangeSpec := { name := "fnExactChangesIn", fn := fun _ => fun
  | [d] => { results := [.lit (.bool true)], args := [d] }
  | _ => none }
def fnExactChangesInRow : OpenClaim := { program := "ytcfdokoellcjiaa", sum := "6a2cd1459d48bffc08d385ac5c49d09f492a67f9f83b79ea8b670f0a0a6d323c", func := "loop.example/g01063/laws.FnExactChangesIn", spec := "fnExactChangesIn", apart := false }
def FnExactChangesInSaid : Prop := fnExactChangesInRow.holds Try.pinned (OpenSpec.ofChange fnExactChangesInSpec)

/-- ITS FALSE NEIGHBOUR: 'it returns false'. Refute it at one input. -/
def fnExactChangesInWrong : ChangeSpec := { name := "fnExactChangesIn", fn := fun _ => fun
  | [d] => { results := [.lit (.bool false)], args := [d] }
  | _ => none }
def FnExactChangesInWrongFalsely : Prop := fnExactChangesInRow.holds Try.pinned (OpenSpec.ofChange fnExactChangesInWrong)

/-- 'laws.FnExactStripFor': WHATEVER THE INPUT: true; the input reads as it did. -/
def fnExactStripForSpec : ChangeSpec := { name := "fnExactStripFor", fn := fun _ => fun
  | [d1, d2] => { results := [.lit (.bool true)], args := [d1, d2] }
  | _ => none }
def fnExactStripForRow : OpenClaim := { program := "ytcfdokoellcjiaa", sum := "6a2cd1459d48bffc08d385ac5c49d09f492a67f9f83b79ea8b670f0a0a6d323c", func := "loop.example/g01063/laws.FnExactStripFor", spec := "fnExactStripFor", apart := false }
def FnExactStripForSaid : Prop := fnExactStripForRow.holds Try.pinned (OpenSpec.ofChange fnExactStripForSpec)

/-- ITS FALSE NEIGHBOUR: 'it returns false'. Refute it at one input. -/
def fnExactStripForWrong : ChangeSpec := { name := "fnExactStripFor", fn := fun _ => fun
  | [d1, d2] => { results := [.lit (.bool false)], args := [d1, d2] }
  | _ => none }
def FnExactStripForWrongFalsely : Prop := fnExactStripForRow.holds Try.pinned (OpenSpec.ofChange fnExactStripForWrong)

/- THE SECOND FORM. 'bulk': how many values and letters a reading holds, each counted each time it is reached (what is shared counts as often as it is met; a slice's spare places count too). A statement '..UptoSaid' is the law's where the arguments, and the package variables that the reading takes, are together of bulk at most 1048576: NARROWER than '..Said'. Prove '..Said' where nothing that the law and all that it calls make is longer than what came in: it says more and counts as full. Else prove '..UptoSaid'. A law counts once. -/
mutual
def uptoBulk {H : Type} : DataW H → Nat
  | .lit (.string bytes) => bytes.length + 1
  | .lit _ => 1
  | .nil => 1
  | .ptr d => uptoBulk d + 1
  | .slice elems spare => uptoBulkAll elems + uptoBulkAll spare + 1
  | .agg parts => uptoBulkAll parts + 1
  | .iface _ d => uptoBulk d + 1
  | .map entries => uptoBulkEntries entries + 1
  | .held _ => 1
def uptoBulkAll {H : Type} : List (DataW H) → Nat
  | [] => 0
  | d :: r => uptoBulk d + uptoBulkAll r
def uptoBulkEntries {H : Type} : List (Lit × DataW H) → Nat
  | [] => 0
  | x :: r => uptoBulkEntry x + uptoBulkEntries r
def uptoBulkEntry {H : Type} : Lit × DataW H → Nat
  | (.string bytes, d) => bytes.length + uptoBulk d + 1
  | (_, d) => uptoBulk d + 1
 end
def uptoSmall : (H : Type) → List (DataW H) → Bool := fun _ ds => decide (uptoBulkAll ds ≤ 1048576)
def OpenSpec.upto (s : _root_.Go.ChangeSpec) : _root_.Go.OpenSpec := { _root_.Go.OpenSpec.ofChange s with cond := some uptoSmall }

/-- 'laws.FnExactConstants', WHERE WHAT IT READS IS OF BULK AT MOST 1048576: true; the input reads as it did. -/
def fnExactConstantsUptoRow : OpenClaim := { program := "ytcfdokoellcjiaa", sum := "6a2cd1459d48bffc08d385ac5c49d09f492a67f9f83b79ea8b670f0a0a6d323c", func := "loop.example/g01063/laws.FnExactConstants", spec := "fnExactConstants", apart := false, narrowed := true }
def FnExactConstantsUptoSaid : Prop := fnExactConstantsUptoRow.holds Try.pinned (OpenSpec.upto fnExactConstantsSpec)

/-- 'laws.FnExactValidDrum', WHERE WHAT IT READS IS OF BULK AT MOST 1048576: true; the input reads as it did. -/
def fnExactValidDrumUptoRow : OpenClaim := { program := "ytcfdokoellcjiaa", sum := "6a2cd1459d48bffc08d385ac5c49d09f492a67f9f83b79ea8b670f0a0a6d323c", func := "loop.example/g01063/laws.FnExactValidDrum", spec := "fnExactValidDrum", apart := false, narrowed := true }
def FnExactValidDrumUptoSaid : Prop := fnExactValidDrumUptoRow.holds Try.pinned (OpenSpec.upto fnExactValidDrumSpec)

/-- 'laws.FnExactValidMotion', WHERE WHAT IT READS IS OF BULK AT MOST 1048576: true; the input reads as it did. -/
def fnExactValidMotionUptoRow : OpenClaim := { program := "ytcfdokoellcjiaa", sum := "6a2cd1459d48bffc08d385ac5c49d09f492a67f9f83b79ea8b670f0a0a6d323c", func := "loop.example/g01063/laws.FnExactValidMotion", spec := "fnExactValidMotion", apart := false, narrowed := true }
def FnExactValidMotionUptoSaid : Prop := fnExactValidMotionUptoRow.holds Try.pinned (OpenSpec.upto fnExactValidMotionSpec)

/-- 'laws.FnExactIsName', WHERE WHAT IT READS IS OF BULK AT MOST 1048576: true; the input reads as it did. -/
def fnExactIsNameUptoRow : OpenClaim := { program := "ytcfdokoellcjiaa", sum := "6a2cd1459d48bffc08d385ac5c49d09f492a67f9f83b79ea8b670f0a0a6d323c", func := "loop.example/g01063/laws.FnExactIsName", spec := "fnExactIsName", apart := false, narrowed := true }
def FnExactIsNameUptoSaid : Prop := fnExactIsNameUptoRow.holds Try.pinned (OpenSpec.upto fnExactIsNameSpec)

/-- 'laws.FnExactStandsStill', WHERE WHAT IT READS IS OF BULK AT MOST 1048576: true; the input reads as it did. -/
def fnExactStandsStillUptoRow : OpenClaim := { program := "ytcfdokoellcjiaa", sum := "6a2cd1459d48bffc08d385ac5c49d09f492a67f9f83b79ea8b670f0a0a6d323c", func := "loop.example/g01063/laws.FnExactStandsStill", spec := "fnExactStandsStill", apart := false, narrowed := true }
def FnExactStandsStillUptoSaid : Prop := fnExactStandsStillUptoRow.holds Try.pinned (OpenSpec.upto fnExactStandsStillSpec)

/-- 'laws.FnExactCommonLength', WHERE WHAT IT READS IS OF BULK AT MOST 1048576: true; the input reads as it did. -/
def fnExactCommonLengthUptoRow : OpenClaim := { program := "ytcfdokoellcjiaa", sum := "6a2cd1459d48bffc08d385ac5c49d09f492a67f9f83b79ea8b670f0a0a6d323c", func := "loop.example/g01063/laws.FnExactCommonLength", spec := "fnExactCommonLength", apart := false, narrowed := true }
def FnExactCommonLengthUptoSaid : Prop := fnExactCommonLengthUptoRow.holds Try.pinned (OpenSpec.upto fnExactCommonLengthSpec)

/-- 'laws.FnExactValidFraction', WHERE WHAT IT READS IS OF BULK AT MOST 1048576: true; the input reads as it did. -/
def fnExactValidFractionUptoRow : OpenClaim := { program := "ytcfdokoellcjiaa", sum := "6a2cd1459d48bffc08d385ac5c49d09f492a67f9f83b79ea8b670f0a0a6d323c", func := "loop.example/g01063/laws.FnExactValidFraction", spec := "fnExactValidFraction", apart := false, narrowed := true }
def FnExactValidFractionUptoSaid : Prop := fnExactValidFractionUptoRow.holds Try.pinned (OpenSpec.upto fnExactValidFractionSpec)

/-- 'laws.FnExactGhostsOf', WHERE WHAT IT READS IS OF BULK AT MOST 1048576: true; the input reads as it did. -/
def fnExactGhostsOfUptoRow : OpenClaim := { program := "ytcfdokoellcjiaa", sum := "6a2cd1459d48bffc08d385ac5c49d09f492a67f9f83b79ea8b670f0a0a6d323c", func := "loop.example/g01063/laws.FnExactGhostsOf", spec := "fnExactGhostsOf", apart := false, narrowed := true }
def FnExactGhostsOfUptoSaid : Prop := fnExactGhostsOfUptoRow.holds Try.pinned (OpenSpec.upto fnExactGhostsOfSpec)

/-- 'laws.FnExactPeriodOf', WHERE WHAT IT READS IS OF BULK AT MOST 1048576: true; the input reads as it did. -/
def fnExactPeriodOfUptoRow : OpenClaim := { program := "ytcfdokoellcjiaa", sum := "6a2cd1459d48bffc08d385ac5c49d09f492a67f9f83b79ea8b670f0a0a6d323c", func := "loop.example/g01063/laws.FnExactPeriodOf", spec := "fnExactPeriodOf", apart := false, narrowed := true }
def FnExactPeriodOfUptoSaid : Prop := fnExactPeriodOfUptoRow.holds Try.pinned (OpenSpec.upto fnExactPeriodOfSpec)

/-- 'laws.FnExactChangesIn', WHERE WHAT IT READS IS OF BULK AT MOST 1048576: true; the input reads as it did. -/
def fnExactChangesInUptoRow : OpenClaim := { program := "ytcfdokoellcjiaa", sum := "6a2cd1459d48bffc08d385ac5c49d09f492a67f9f83b79ea8b670f0a0a6d323c", func := "loop.example/g01063/laws.FnExactChangesIn", spec := "fnExactChangesIn", apart := false, narrowed := true }
def FnExactChangesInUptoSaid : Prop := fnExactChangesInUptoRow.holds Try.pinned (OpenSpec.upto fnExactChangesInSpec)

/-- 'laws.FnExactStripFor', WHERE WHAT IT READS IS OF BULK AT MOST 1048576: true; the input reads as it did. -/
def fnExactStripForUptoRow : OpenClaim := { program := "ytcfdokoellcjiaa", sum := "6a2cd1459d48bffc08d385ac5c49d09f492a67f9f83b79ea8b670f0a0a6d323c", func := "loop.example/g01063/laws.FnExactStripFor", spec := "fnExactStripFor", apart := false, narrowed := true }
def FnExactStripForUptoSaid : Prop := fnExactStripForUptoRow.holds Try.pinned (OpenSpec.upto fnExactStripForSpec)

end Rows
end Go.Proofs.Ytcfdokoellcjiaa

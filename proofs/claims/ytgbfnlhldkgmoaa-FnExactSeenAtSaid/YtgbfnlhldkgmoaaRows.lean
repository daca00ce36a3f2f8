/-
  No cell of these rows narrows 'for every input' (looked for: loops, veiled, ifaces, maps, wideKeys, modest, calm, conditions, laid).
  DERIVED. THE GIVEN ROWS OF THIS SEAT. 12 by the template 'for every input the law returns true; each argument reads behind the call as it read before'; 0 by the template 'total and deterministic' (their statements: YtgbfnlhldkgmoaaTotals.lean).
  GIVEN WITH THE SEED: the statements are not yours to turn. If you find one false, say at which input.
  Laid BY PROGRAM, IN A SANDBOX (cutbox-rows.mjs): the forced cells as the released guide's own fill.sh prints them over the translation e5d1a6f95abc10b0… (all of the seat's roots in one cut). By AI agents, Wed Nov 11 2026. No macro, syntax, notation, axiom, sorry.
-/
import Derived.Test.YtgbfnlhldkgmoaaChecked
import GoSem.Claim
import GoSem.ClaimJoined
import GoSem.ClaimMapViews
import Derived.JoinedTies
import Derived.KernelRfl
namespace Go.Proofs.Ytgbfnlhldkgmoaa
/- THE CELL 'sum', in the pinned program and in every row, IS THE sha256 OF THE DUMP (.gsa) THAT YtgbfnlhldkgmoaaProg.lean LOADS. Nothing in Lean hashes anything: it is a label: what it is worth is what the hold of that sum in a sandbox is worth. -/
noncomputable def Try.pinned : Pinned := { name := "ytgbfnlhldkgmoaa", sum := "e5d1a6f95abc10b0a02ad0a1a614c347a8ad567db7ac82362f09b46c85b1fa9d", checked := Try.checked }
namespace Rows
def none {H : Type} : Left H := { results := [], args := [] }

/-- 'laws.FnExactCompareFractions': WHATEVER THE INPUT: true; the input reads as it did. -/
def fnExactCompareFractionsSpec : ChangeSpec := { name := "fnExactCompareFractions", fn := fun _ => fun
  | [d1, d2] => { results := [.lit (.bool true)], args := [d1, d2] }
  | _ => none }
def fnExactCompareFractionsRow : OpenClaim := { program := "ytgbfnlhldkgmoaa", sum := "e5d1a6f95abc10b0a02ad0a1a614c347a8ad567db7ac82362f09b46c85b1fa9d", func := "loop.example/g01063/laws.FnExactCompareFractions", spec := "fnExactCompareFractions", apart := false }
def FnExactCompareFractionsSaid : Prop := fnExactCompareFractionsRow.holds Try.pinned (OpenSpec.ofChange fnExactCompareFractionsSpec)

/-- ITS FALSE NEIGHBOUR: 'it returns false'. Refute it at one input. -/
def fnExactCompareFractionsWrong : ChangeSpec := { name := "fnExactCompareFractions", fn := fun _ => fun
  | [d1, d2] => { results := [.lit (.bool false)], args := [d1, d2] }
  | _ => none }
def FnExactCompareFractionsWrongFalsely : Prop := fnExactCompareFractionsRow.holds Try.pinned (OpenSpec.ofChange fnExactCompareFractionsWrong)

/-- 'laws.FnExactMakeFraction': WHATEVER THE INPUT: true; the input reads as it did. -/
def fnExactMakeFractionSpec : ChangeSpec := { name := "fnExactMakeFraction", fn := fun _ => fun
  | [d1, d2] => { results := [.lit (.bool true)], args := [d1, d2] }
  | _ => none }
def fnExactMakeFractionRow : OpenClaim := { program := "ytgbfnlhldkgmoaa", sum := "e5d1a6f95abc10b0a02ad0a1a614c347a8ad567db7ac82362f09b46c85b1fa9d", func := "loop.example/g01063/laws.FnExactMakeFraction", spec := "fnExactMakeFraction", apart := false }
def FnExactMakeFractionSaid : Prop := fnExactMakeFractionRow.holds Try.pinned (OpenSpec.ofChange fnExactMakeFractionSpec)

/-- ITS FALSE NEIGHBOUR: 'it returns false'. Refute it at one input. -/
def fnExactMakeFractionWrong : ChangeSpec := { name := "fnExactMakeFraction", fn := fun _ => fun
  | [d1, d2] => { results := [.lit (.bool false)], args := [d1, d2] }
  | _ => none }
def FnExactMakeFractionWrongFalsely : Prop := fnExactMakeFractionRow.holds Try.pinned (OpenSpec.ofChange fnExactMakeFractionWrong)

/-- 'laws.FnExactWholeTurns': WHATEVER THE INPUT: true; the input reads as it did. -/
def fnExactWholeTurnsSpec : ChangeSpec := { name := "fnExactWholeTurns", fn := fun _ => fun
  | [d1, d2] => { results := [.lit (.bool true)], args := [d1, d2] }
  | _ => none }
def fnExactWholeTurnsRow : OpenClaim := { program := "ytgbfnlhldkgmoaa", sum := "e5d1a6f95abc10b0a02ad0a1a614c347a8ad567db7ac82362f09b46c85b1fa9d", func := "loop.example/g01063/laws.FnExactWholeTurns", spec := "fnExactWholeTurns", apart := false }
def FnExactWholeTurnsSaid : Prop := fnExactWholeTurnsRow.holds Try.pinned (OpenSpec.ofChange fnExactWholeTurnsSpec)

/-- ITS FALSE NEIGHBOUR: 'it returns false'. Refute it at one input. -/
def fnExactWholeTurnsWrong : ChangeSpec := { name := "fnExactWholeTurns", fn := fun _ => fun
  | [d1, d2] => { results := [.lit (.bool false)], args := [d1, d2] }
  | _ => none }
def FnExactWholeTurnsWrongFalsely : Prop := fnExactWholeTurnsRow.holds Try.pinned (OpenSpec.ofChange fnExactWholeTurnsWrong)

/-- 'laws.FnExactGearedRate': WHATEVER THE INPUT: true; the input reads as it did. -/
def fnExactGearedRateSpec : ChangeSpec := { name := "fnExactGearedRate", fn := fun _ => fun
  | [d1, d2, d3] => { results := [.lit (.bool true)], args := [d1, d2, d3] }
  | _ => none }
def fnExactGearedRateRow : OpenClaim := { program := "ytgbfnlhldkgmoaa", sum := "e5d1a6f95abc10b0a02ad0a1a614c347a8ad567db7ac82362f09b46c85b1fa9d", func := "loop.example/g01063/laws.FnExactGearedRate", spec := "fnExactGearedRate", apart := false }
def FnExactGearedRateSaid : Prop := fnExactGearedRateRow.holds Try.pinned (OpenSpec.ofChange fnExactGearedRateSpec)

/-- ITS FALSE NEIGHBOUR: 'it returns false'. Refute it at one input. -/
def fnExactGearedRateWrong : ChangeSpec := { name := "fnExactGearedRate", fn := fun _ => fun
  | [d1, d2, d3] => { results := [.lit (.bool false)], args := [d1, d2, d3] }
  | _ => none }
def FnExactGearedRateWrongFalsely : Prop := fnExactGearedRateRow.holds Try.pinned (OpenSpec.ofChange fnExactGearedRateWrong)

/-- 'laws.FnExactAddFractions': WHATEVER THE INPUT: true; the input reads as it did. -/
def fnExactAddFractionsSpec : ChangeSpec := { name := "fnExactAddFractions", fn := fun _ => fun
  | [d1, d2] => { results := [.lit (.bool true)], args := [d1, d2] }
  | _ => none }
def fnExactAddFractionsRow : OpenClaim := { program := "ytgbfnlhldkgmoaa", sum := "e5d1a6f95abc10b0a02ad0a1a614c347a8ad567db7ac82362f09b46c85b1fa9d", func := "loop.example/g01063/laws.FnExactAddFractions", spec := "fnExactAddFractions", apart := false }
def FnExactAddFractionsSaid : Prop := fnExactAddFractionsRow.holds Try.pinned (OpenSpec.ofChange fnExactAddFractionsSpec)

/-- ITS FALSE NEIGHBOUR: 'it returns false'. Refute it at one input. -/
def fnExactAddFractionsWrong : ChangeSpec := { name := "fnExactAddFractions", fn := fun _ => fun
  | [d1, d2] => { results := [.lit (.bool false)], args := [d1, d2] }
  | _ => none }
def FnExactAddFractionsWrongFalsely : Prop := fnExactAddFractionsRow.holds Try.pinned (OpenSpec.ofChange fnExactAddFractionsWrong)

/-- 'laws.FnExactMultiplyFractions': WHATEVER THE INPUT: true; the input reads as it did. -/
def fnExactMultiplyFractionsSpec : ChangeSpec := { name := "fnExactMultiplyFractions", fn := fun _ => fun
  | [d1, d2] => { results := [.lit (.bool true)], args := [d1, d2] }
  | _ => none }
def fnExactMultiplyFractionsRow : OpenClaim := { program := "ytgbfnlhldkgmoaa", sum := "e5d1a6f95abc10b0a02ad0a1a614c347a8ad567db7ac82362f09b46c85b1fa9d", func := "loop.example/g01063/laws.FnExactMultiplyFractions", spec := "fnExactMultiplyFractions", apart := false }
def FnExactMultiplyFractionsSaid : Prop := fnExactMultiplyFractionsRow.holds Try.pinned (OpenSpec.ofChange fnExactMultiplyFractionsSpec)

/-- ITS FALSE NEIGHBOUR: 'it returns false'. Refute it at one input. -/
def fnExactMultiplyFractionsWrong : ChangeSpec := { name := "fnExactMultiplyFractions", fn := fun _ => fun
  | [d1, d2] => { results := [.lit (.bool false)], args := [d1, d2] }
  | _ => none }
def FnExactMultiplyFractionsWrongFalsely : Prop := fnExactMultiplyFractionsRow.holds Try.pinned (OpenSpec.ofChange fnExactMultiplyFractionsWrong)

/-- 'laws.FnExactBeatRate': WHATEVER THE INPUT: true; the input reads as it did. -/
def fnExactBeatRateSpec : ChangeSpec := { name := "fnExactBeatRate", fn := fun _ => fun
  | [d1, d2] => { results := [.lit (.bool true)], args := [d1, d2] }
  | _ => none }
def fnExactBeatRateRow : OpenClaim := { program := "ytgbfnlhldkgmoaa", sum := "e5d1a6f95abc10b0a02ad0a1a614c347a8ad567db7ac82362f09b46c85b1fa9d", func := "loop.example/g01063/laws.FnExactBeatRate", spec := "fnExactBeatRate", apart := false }
def FnExactBeatRateSaid : Prop := fnExactBeatRateRow.holds Try.pinned (OpenSpec.ofChange fnExactBeatRateSpec)

/-- ITS FALSE NEIGHBOUR: 'it returns false'. Refute it at one input. -/
def fnExactBeatRateWrong : ChangeSpec := { name := "fnExactBeatRate", fn := fun _ => fun
  | [d1, d2] => { results := [.lit (.bool false)], args := [d1, d2] }
  | _ => none }
def FnExactBeatRateWrongFalsely : Prop := fnExactBeatRateRow.holds Try.pinned (OpenSpec.ofChange fnExactBeatRateWrong)

/-- 'laws.FnExactCommonTime': WHATEVER THE INPUT: true; the input reads as it did. -/
def fnExactCommonTimeSpec : ChangeSpec := { name := "fnExactCommonTime", fn := fun _ => fun
  | [d1, d2] => { results := [.lit (.bool true)], args := [d1, d2] }
  | _ => none }
def fnExactCommonTimeRow : OpenClaim := { program := "ytgbfnlhldkgmoaa", sum := "e5d1a6f95abc10b0a02ad0a1a614c347a8ad567db7ac82362f09b46c85b1fa9d", func := "loop.example/g01063/laws.FnExactCommonTime", spec := "fnExactCommonTime", apart := false }
def FnExactCommonTimeSaid : Prop := fnExactCommonTimeRow.holds Try.pinned (OpenSpec.ofChange fnExactCommonTimeSpec)

/-- ITS FALSE NEIGHBOUR: 'it returns false'. Refute it at one input. -/
def fnExactCommonTimeWrong : ChangeSpec := { name := "fnExactCommonTime", fn := fun _ => fun
  | [d1, d2] => { results := [.lit (.bool false)], args := [d1, d2] }
  | _ => none }
def FnExactCommonTimeWrongFalsely : Prop := fnExactCommonTimeRow.holds Try.pinned (OpenSpec.ofChange fnExactCommonTimeWrong)

/-- 'laws.FnExactPictureRate': WHATEVER THE INPUT: true; the input reads as it did. -/
def fnExactPictureRateSpec : ChangeSpec := { name := "fnExactPictureRate", fn := fun _ => fun
  | [d1, d2] => { results := [.lit (.bool true)], args := [d1, d2] }
  | _ => none }
def fnExactPictureRateRow : OpenClaim := { program := "ytgbfnlhldkgmoaa", sum := "e5d1a6f95abc10b0a02ad0a1a614c347a8ad567db7ac82362f09b46c85b1fa9d", func := "loop.example/g01063/laws.FnExactPictureRate", spec := "fnExactPictureRate", apart := false }
def FnExactPictureRateSaid : Prop := fnExactPictureRateRow.holds Try.pinned (OpenSpec.ofChange fnExactPictureRateSpec)

/-- ITS FALSE NEIGHBOUR: 'it returns false'. Refute it at one input. -/
def fnExactPictureRateWrong : ChangeSpec := { name := "fnExactPictureRate", fn := fun _ => fun
  | [d1, d2] => { results := [.lit (.bool false)], args := [d1, d2] }
  | _ => none }
def FnExactPictureRateWrongFalsely : Prop := fnExactPictureRateRow.holds Try.pinned (OpenSpec.ofChange fnExactPictureRateWrong)

/-- 'laws.FnExactDriftOf': WHATEVER THE INPUT: true; the input reads as it did. -/
def fnExactDriftOfSpec : ChangeSpec := { name := "fnExactDriftOf", fn := fun _ => fun
  | [d1, d2] => { results := [.lit (.bool true)], args := [d1, d2] }
  | _ => none }
def fnExactDriftOfRow : OpenClaim := { program := "ytgbfnlhldkgmoaa", sum := "e5d1a6f95abc10b0a02ad0a1a614c347a8ad567db7ac82362f09b46c85b1fa9d", func := "loop.example/g01063/laws.FnExactDriftOf", spec := "fnExactDriftOf", apart := false }
def FnExactDriftOfSaid : Prop := fnExactDriftOfRow.holds Try.pinned (OpenSpec.ofChange fnExactDriftOfSpec)

/-- ITS FALSE NEIGHBOUR: 'it returns false'. Refute it at one input. -/
def fnExactDriftOfWrong : ChangeSpec := { name := "fnExactDriftOf", fn := fun _ => fun
  | [d1, d2] => { results := [.lit (.bool false)], args := [d1, d2] }
  | _ => none }
def FnExactDriftOfWrongFalsely : Prop := fnExactDriftOfRow.holds Try.pinned (OpenSpec.ofChange fnExactDriftOfWrong)

/-- 'laws.FnExactDriftRate': WHATEVER THE INPUT: true; the input reads as it did. -/
def fnExactDriftRateSpec : ChangeSpec := { name := "fnExactDriftRate", fn := fun _ => fun
  | [d1, d2, d3] => { results := [.lit (.bool true)], args := [d1, d2, d3] }
  | _ => none }
def fnExactDriftRateRow : OpenClaim := { program := "ytgbfnlhldkgmoaa", sum := "e5d1a6f95abc10b0a02ad0a1a614c347a8ad567db7ac82362f09b46c85b1fa9d", func := "loop.example/g01063/laws.FnExactDriftRate", spec := "fnExactDriftRate", apart := false }
def FnExactDriftRateSaid : Prop := fnExactDriftRateRow.holds Try.pinned (OpenSpec.ofChange fnExactDriftRateSpec)

/-- ITS FALSE NEIGHBOUR: 'it returns false'. Refute it at one input. -/
def fnExactDriftRateWrong : ChangeSpec := { name := "fnExactDriftRate", fn := fun _ => fun
  | [d1, d2, d3] => { results := [.lit (.bool false)], args := [d1, d2, d3] }
  | _ => none }
def FnExactDriftRateWrongFalsely : Prop := fnExactDriftRateRow.holds Try.pinned (OpenSpec.ofChange fnExactDriftRateWrong)

/-- 'laws.FnExactSeenAt': WHATEVER THE INPUT: true; the input reads as it did. -/
def fnExactSeenAtSpec : ChangeSpec := { name := "fnExactSeenAt", fn := fun _ => fun
  | [d1, d2, d3] => { results := [.lit (.bool true)], args := [d1, d2, d3] }
  | _ => none }
def fnExactSeenAtRow : OpenClaim := { program := "ytgbfnlhldkgmoaa", sum := "e5d1a6f95abc10b0a02ad0a1a614c347a8ad567db7ac82362f09b46c85b1fa9d", func := "loop.example/g01063/laws.FnExactSeenAt", spec := "fnExactSeenAt", apart := false }
def FnExactSeenAtSaid : Prop := fnExactSeenAtRow.holds Try.pinned (OpenSpec.ofChange fnExactSeenAtSpec)

/-- ITS FALSE NEIGHBOUR: 'it returns false'. Refute it at one input. -/
def fnExactSeenAtWrong : ChangeSpec := { name := "fnExactSeenAt", fn := fun _ => fun
  | [d1, d2, d3] => { results := [.lit (.bool false)], args := [d1, d2, d3] }
  | _ => none }
def FnExactSeenAtWrongFalsely : Prop := fnExactSeenAtRow.holds Try.pinned (OpenSpec.ofChange fnExactSeenAtWrong)

/- THE SECOND FORM. 'bulk': how many values and letters a reading holds, each counted each time it is reached (what is shared counts as often as it is met; a slice's spare places count too). A statement '..UptoSaid' is the law's where the arguments, and the package variables that the reading takes, are together of bulk at most 1048576: NARROWER than '..Said'. Prove '..Said' where nothing that the law and all that it calls make is longer than what came in: it says more and counts as full. Else prove '..UptoSaid'. A law counts once. -/
mutual
def uptoBulk {H : Type} : DataW H → Nat
  | .lit (.string bytes) => bytes.length + 1
  | .lit _ => 1
  | .nil => 1
  | .ptr d => uptoBulk d + 1
  | .slice elems spare => uptoBulkAll elems + uptoBulkAll spare + 1
  | .agg parts => uptoBulkAll parts + 1
  | .iface _ d => uptoBulk d + 1
  | .map entries => uptoBulkEntries entries + 1
  | .held _ => 1
def uptoBulkAll {H : Type} : List (DataW H) → Nat
  | [] => 0
  | d :: r => uptoBulk d + uptoBulkAll r
def uptoBulkEntries {H : Type} : List (Lit × DataW H) → Nat
  | [] => 0
  | x :: r => uptoBulkEntry x + uptoBulkEntries r
def uptoBulkEntry {H : Type} : Lit × DataW H → Nat
  | (.string bytes, d) => bytes.length + uptoBulk d + 1
  | (_, d) => uptoBulk d + 1
 end
def uptoSmall : (H : Type) → List (DataW H) → Bool := fun _ ds => decide (uptoBulkAll ds ≤ 1048576)
def OpenSpec.upto (s : _root_.Go.ChangeSpec) : _root_.Go.OpenSpec := { _root_.Go.OpenSpec.ofChange s with cond := some uptoSmall }

/-- 'laws.FnExactCompareFractions', WHERE WHAT IT READS IS OF BULK AT MOST 1048576: true; the input reads as it did. -/
def fnExactCompareFractionsUptoRow : OpenClaim := { program := "ytgbfnlhldkgmoaa", sum := "e5d1a6f95abc10b0a02ad0a1a614c347a8ad567db7ac82362f09b46c85b1fa9d", func := "loop.example/g01063/laws.FnExactCompareFractions", spec := "fnExactCompareFractions", apart := false, narrowed := true }
def FnExactCompareFractionsUptoSaid : Prop := fnExactCompareFractionsUptoRow.holds Try.pinned (OpenSpec.upto fnExactCompareFractionsSpec)

/-- 'laws.FnExactMakeFraction', WHERE WHAT IT READS IS OF BULK AT MOST 1048576: true; the input reads as it did. -/
def fnExactMakeFractionUptoRow : OpenClaim := { program := "ytgbfnlhldkgmoaa", sum := "e5d1a6f95abc10b0a02ad0a1a614c347a8ad567db7ac82362f09b46c85b1fa9d", func := "loop.example/g01063/laws.FnExactMakeFraction", spec := "fnExactMakeFraction", apart := false, narrowed := true }
def FnExactMakeFractionUptoSaid : Prop := fnExactMakeFractionUptoRow.holds Try.pinned (OpenSpec.upto fnExactMakeFractionSpec)

/-- 'laws.FnExactWholeTurns', WHERE WHAT IT READS IS OF BULK AT MOST 1048576: true; the input reads as it did. -/
def fnExactWholeTurnsUptoRow : OpenClaim := { program := "ytgbfnlhldkgmoaa", sum := "e5d1a6f95abc10b0a02ad0a1a614c347a8ad567db7ac82362f09b46c85b1fa9d", func := "loop.example/g01063/laws.FnExactWholeTurns", spec := "fnExactWholeTurns", apart := false, narrowed := true }
def FnExactWholeTurnsUptoSaid : Prop := fnExactWholeTurnsUptoRow.holds Try.pinned (OpenSpec.upto fnExactWholeTurnsSpec)

/-- 'laws.FnExactGearedRate', WHERE WHAT IT READS IS OF BULK AT MOST 1048576: true; the input reads as it did. -/
def fnExactGearedRateUptoRow : OpenClaim := { program := "ytgbfnlhldkgmoaa", sum := "e5d1a6f95abc10b0a02ad0a1a614c347a8ad567db7ac82362f09b46c85b1fa9d", func := "loop.example/g01063/laws.FnExactGearedRate", spec := "fnExactGearedRate", apart := false, narrowed := true }
def FnExactGearedRateUptoSaid : Prop := fnExactGearedRateUptoRow.holds Try.pinned (OpenSpec.upto fnExactGearedRateSpec)

/-- 'laws.FnExactAddFractions', WHERE WHAT IT READS IS OF BULK AT MOST 1048576: true; the input reads as it did. -/
def fnExactAddFractionsUptoRow : OpenClaim := { program := "ytgbfnlhldkgmoaa", sum := "e5d1a6f95abc10b0a02ad0a1a614c347a8ad567db7ac82362f09b46c85b1fa9d", func := "loop.example/g01063/laws.FnExactAddFractions", spec := "fnExactAddFractions", apart := false, narrowed := true }
def FnExactAddFractionsUptoSaid : Prop := fnExactAddFractionsUptoRow.holds Try.pinned (OpenSpec.upto fnExactAddFractionsSpec)

/-- 'laws.FnExactMultiplyFractions', WHERE WHAT IT READS IS OF BULK AT MOST 1048576: true; the input reads as it did. -/
def fnExactMultiplyFractionsUptoRow : OpenClaim := { program := "ytgbfnlhldkgmoaa", sum := "e5d1a6f95abc10b0a02ad0a1a614c347a8ad567db7ac82362f09b46c85b1fa9d", func := "loop.example/g01063/laws.FnExactMultiplyFractions", spec := "fnExactMultiplyFractions", apart := false, narrowed := true }
def FnExactMultiplyFractionsUptoSaid : Prop := fnExactMultiplyFractionsUptoRow.holds Try.pinned (OpenSpec.upto fnExactMultiplyFractionsSpec)

/-- 'laws.FnExactBeatRate', WHERE WHAT IT READS IS OF BULK AT MOST 1048576: true; the input reads as it did. -/
def fnExactBeatRateUptoRow : OpenClaim := { program := "ytgbfnlhldkgmoaa", sum := "e5d1a6f95abc10b0a02ad0a1a614c347a8ad567db7ac82362f09b46c85b1fa9d", func := "loop.example/g01063/laws.FnExactBeatRate", spec := "fnExactBeatRate", apart := false, narrowed := true }
def FnExactBeatRateUptoSaid : Prop := fnExactBeatRateUptoRow.holds Try.pinned (OpenSpec.upto fnExactBeatRateSpec)

/-- 'laws.FnExactCommonTime', WHERE WHAT IT READS IS OF BULK AT MOST 1048576: true; the input reads as it did. -/
def fnExactCommonTimeUptoRow : OpenClaim := { program := "ytgbfnlhldkgmoaa", sum := "e5d1a6f95abc10b0a02ad0a1a614c347a8ad567db7ac82362f09b46c85b1fa9d", func := "loop.example/g01063/laws.FnExactCommonTime", spec := "fnExactCommonTime", apart := false, narrowed := true }
def FnExactCommonTimeUptoSaid : Prop := fnExactCommonTimeUptoRow.holds Try.pinned (OpenSpec.upto fnExactCommonTimeSpec)

/-- 'laws.FnExactPictureRate', WHERE WHAT IT READS IS OF BULK AT MOST 1048576: true; the input reads as it did. -/
def fnExactPictureRateUptoRow : OpenClaim := { program := "ytgbfnlhldkgmoaa", sum := "e5d1a6f95abc10b0a02ad0a1a614c347a8ad567db7ac82362f09b46c85b1fa9d", func := "loop.example/g01063/laws.FnExactPictureRate", spec := "fnExactPictureRate", apart := false, narrowed := true }
def FnExactPictureRateUptoSaid : Prop := fnExactPictureRateUptoRow.holds Try.pinned (OpenSpec.upto fnExactPictureRateSpec)

/-- 'laws.FnExactDriftOf', WHERE WHAT IT READS IS OF BULK AT MOST 1048576: true; the input reads as it did. -/
def fnExactDriftOfUptoRow : OpenClaim := { program := "ytgbfnlhldkgmoaa", sum := "e5d1a6f95abc10b0a02ad0a1a614c347a8ad567db7ac82362f09b46c85b1fa9d", func := "loop.example/g01063/laws.FnExactDriftOf", spec := "fnExactDriftOf", apart := false, narrowed := true }
def FnExactDriftOfUptoSaid : Prop := fnExactDriftOfUptoRow.holds Try.pinned (OpenSpec.upto fnExactDriftOfSpec)

/-- 'laws.FnExactDriftRate', WHERE WHAT IT READS IS OF BULK AT MOST 1048576: true; the input reads as it did. -/
def fnExactDriftRateUptoRow : OpenClaim := { program := "ytgbfnlhldkgmoaa", sum := "e5d1a6f95abc10b0a02ad0a1a614c347a8ad567db7ac82362f09b46c85b1fa9d", func := "loop.example/g01063/laws.FnExactDriftRate", spec := "fnExactDriftRate", apart := false, narrowed := true }
def FnExactDriftRateUptoSaid : Prop := fnExactDriftRateUptoRow.holds Try.pinned (OpenSpec.upto fnExactDriftRateSpec)

/-- 'laws.FnExactSeenAt', WHERE WHAT IT READS IS OF BULK AT MOST 1048576: true; the input reads as it did. -/
def fnExactSeenAtUptoRow : OpenClaim := { program := "ytgbfnlhldkgmoaa", sum := "e5d1a6f95abc10b0a02ad0a1a614c347a8ad567db7ac82362f09b46c85b1fa9d", func := "loop.example/g01063/laws.FnExactSeenAt", spec := "fnExactSeenAt", apart := false, narrowed := true }
def FnExactSeenAtUptoSaid : Prop := fnExactSeenAtUptoRow.holds Try.pinned (OpenSpec.upto fnExactSeenAtSpec)

end Rows
end Go.Proofs.Ytgbfnlhldkgmoaa

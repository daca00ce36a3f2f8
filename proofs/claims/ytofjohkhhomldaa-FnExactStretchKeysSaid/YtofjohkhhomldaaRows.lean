/-
  No cell of these rows narrows 'for every input' (looked for: loops, veiled, ifaces, maps, wideKeys, modest, calm, conditions, laid).
  DERIVED. THE GIVEN ROWS OF THIS SEAT. 10 by the template 'for every input the law returns true; each argument reads behind the call as it read before'; 0 by the template 'total and deterministic' (their statements: YtofjohkhhomldaaTotals.lean).
  GIVEN WITH THE SEED: the statements are not yours to turn. If you find one false, say at which input.
  Laid BY PROGRAM, IN A SANDBOX (cutbox-rows.mjs): the forced cells as the released guide's own fill.sh prints them over the translation 8b2641dc77957f85… (all of the seat's roots in one cut). By AI agents, Wed Nov 11 2026. No macro, syntax, notation, axiom, sorry.
-/
import Derived.Test.YtofjohkhhomldaaChecked
import GoSem.Claim
import GoSem.ClaimJoined
import GoSem.ClaimMapViews
import Derived.JoinedTies
import Derived.KernelRfl
namespace Go.Proofs.Ytofjohkhhomldaa
/- THE CELL 'sum', in the pinned program and in every row, IS THE sha256 OF THE DUMP (.gsa) THAT YtofjohkhhomldaaProg.lean LOADS. Nothing in Lean hashes anything: it is a label: what it is worth is what the hold of that sum in a sandbox is worth. -/
noncomputable def Try.pinned : Pinned := { name := "ytofjohkhhomldaa", sum := "8b2641dc77957f85efdea67dcb39521eb0cda46388053bb25bf7cfe0fe68d552", checked := Try.checked }
namespace Rows
def none {H : Type} : Left H := { results := [], args := [] }

/-- 'laws.FnExactSamePose': WHATEVER THE INPUT: true; the input reads as it did. -/
def fnExactSamePoseSpec : ChangeSpec := { name := "fnExactSamePose", fn := fun _ => fun
  | [d1, d2] => { results := [.lit (.bool true)], args := [d1, d2] }
  | _ => none }
def fnExactSamePoseRow : OpenClaim := { program := "ytofjohkhhomldaa", sum := "8b2641dc77957f85efdea67dcb39521eb0cda46388053bb25bf7cfe0fe68d552", func := "loop.example/g01063/laws.FnExactSamePose", spec := "fnExactSamePose", apart := false }
def FnExactSamePoseSaid : Prop := fnExactSamePoseRow.holds Try.pinned (OpenSpec.ofChange fnExactSamePoseSpec)

/-- ITS FALSE NEIGHBOUR: 'it returns false'. Refute it at one input. -/
def fnExactSamePoseWrong : ChangeSpec := { name := "fnExactSamePose", fn := fun _ => fun
  | [d1, d2] => { results := [.lit (.bool false)], args := [d1, d2] }
  | _ => none }
def FnExactSamePoseWrongFalsely : Prop := fnExactSamePoseRow.holds Try.pinned (OpenSpec.ofChange fnExactSamePoseWrong)

/-- 'laws.FnExactValidPose': WHATEVER THE INPUT: true; the input reads as it did. -/
def fnExactValidPoseSpec : ChangeSpec := { name := "fnExactValidPose", fn := fun _ => fun
  | [d] => { results := [.lit (.bool true)], args := [d] }
  | _ => none }
def fnExactValidPoseRow : OpenClaim := { program := "ytofjohkhhomldaa", sum := "8b2641dc77957f85efdea67dcb39521eb0cda46388053bb25bf7cfe0fe68d552", func := "loop.example/g01063/laws.FnExactValidPose", spec := "fnExactValidPose", unfollowed := true, recurses := true, apart := false }
def FnExactValidPoseSaid : Prop := fnExactValidPoseRow.holds Try.pinned (OpenSpec.ofChange fnExactValidPoseSpec)

/-- ITS FALSE NEIGHBOUR: 'it returns false'. Refute it at one input. -/
def fnExactValidPoseWrong : ChangeSpec := { name := "fnExactValidPose", fn := fun _ => fun
  | [d] => { results := [.lit (.bool false)], args := [d] }
  | _ => none }
def FnExactValidPoseWrongFalsely : Prop := fnExactValidPoseRow.holds Try.pinned (OpenSpec.ofChange fnExactValidPoseWrong)

/-- 'laws.FnExactGreatestMove': WHATEVER THE INPUT: true; the input reads as it did. -/
def fnExactGreatestMoveSpec : ChangeSpec := { name := "fnExactGreatestMove", fn := fun _ => fun
  | [d1, d2] => { results := [.lit (.bool true)], args := [d1, d2] }
  | _ => none }
def fnExactGreatestMoveRow : OpenClaim := { program := "ytofjohkhhomldaa", sum := "8b2641dc77957f85efdea67dcb39521eb0cda46388053bb25bf7cfe0fe68d552", func := "loop.example/g01063/laws.FnExactGreatestMove", spec := "fnExactGreatestMove", unfollowed := true, recurses := true, apart := false }
def FnExactGreatestMoveSaid : Prop := fnExactGreatestMoveRow.holds Try.pinned (OpenSpec.ofChange fnExactGreatestMoveSpec)

/-- ITS FALSE NEIGHBOUR: 'it returns false'. Refute it at one input. -/
def fnExactGreatestMoveWrong : ChangeSpec := { name := "fnExactGreatestMove", fn := fun _ => fun
  | [d1, d2] => { results := [.lit (.bool false)], args := [d1, d2] }
  | _ => none }
def FnExactGreatestMoveWrongFalsely : Prop := fnExactGreatestMoveRow.holds Try.pinned (OpenSpec.ofChange fnExactGreatestMoveWrong)

/-- 'laws.FnExactMirrorPose': WHATEVER THE INPUT: true; the input reads as it did. -/
def fnExactMirrorPoseSpec : ChangeSpec := { name := "fnExactMirrorPose", fn := fun _ => fun
  | [d1, d2] => { results := [.lit (.bool true)], args := [d1, d2] }
  | _ => none }
def fnExactMirrorPoseRow : OpenClaim := { program := "ytofjohkhhomldaa", sum := "8b2641dc77957f85efdea67dcb39521eb0cda46388053bb25bf7cfe0fe68d552", func := "loop.example/g01063/laws.FnExactMirrorPose", spec := "fnExactMirrorPose", unfollowed := true, recurses := true, apart := false }
def FnExactMirrorPoseSaid : Prop := fnExactMirrorPoseRow.holds Try.pinned (OpenSpec.ofChange fnExactMirrorPoseSpec)

/-- ITS FALSE NEIGHBOUR: 'it returns false'. Refute it at one input. -/
def fnExactMirrorPoseWrong : ChangeSpec := { name := "fnExactMirrorPose", fn := fun _ => fun
  | [d1, d2] => { results := [.lit (.bool false)], args := [d1, d2] }
  | _ => none }
def FnExactMirrorPoseWrongFalsely : Prop := fnExactMirrorPoseRow.holds Try.pinned (OpenSpec.ofChange fnExactMirrorPoseWrong)

/-- 'laws.FnExactPoseBetween': WHATEVER THE INPUT: true; the input reads as it did. -/
def fnExactPoseBetweenSpec : ChangeSpec := { name := "fnExactPoseBetween", fn := fun _ => fun
  | [d1, d2, d3, d4] => { results := [.lit (.bool true)], args := [d1, d2, d3, d4] }
  | _ => none }
def fnExactPoseBetweenRow : OpenClaim := { program := "ytofjohkhhomldaa", sum := "8b2641dc77957f85efdea67dcb39521eb0cda46388053bb25bf7cfe0fe68d552", func := "loop.example/g01063/laws.FnExactPoseBetween", spec := "fnExactPoseBetween", unfollowed := true, recurses := true, apart := false }
def FnExactPoseBetweenSaid : Prop := fnExactPoseBetweenRow.holds Try.pinned (OpenSpec.ofChange fnExactPoseBetweenSpec)

/-- ITS FALSE NEIGHBOUR: 'it returns false'. Refute it at one input. -/
def fnExactPoseBetweenWrong : ChangeSpec := { name := "fnExactPoseBetween", fn := fun _ => fun
  | [d1, d2, d3, d4] => { results := [.lit (.bool false)], args := [d1, d2, d3, d4] }
  | _ => none }
def FnExactPoseBetweenWrongFalsely : Prop := fnExactPoseBetweenRow.holds Try.pinned (OpenSpec.ofChange fnExactPoseBetweenWrong)

/-- 'laws.FnExactValidKeys': WHATEVER THE INPUT: true; the input reads as it did. -/
def fnExactValidKeysSpec : ChangeSpec := { name := "fnExactValidKeys", fn := fun _ => fun
  | [d] => { results := [.lit (.bool true)], args := [d] }
  | _ => none }
def fnExactValidKeysRow : OpenClaim := { program := "ytofjohkhhomldaa", sum := "8b2641dc77957f85efdea67dcb39521eb0cda46388053bb25bf7cfe0fe68d552", func := "loop.example/g01063/laws.FnExactValidKeys", spec := "fnExactValidKeys", unfollowed := true, recurses := true, apart := false }
def FnExactValidKeysSaid : Prop := fnExactValidKeysRow.holds Try.pinned (OpenSpec.ofChange fnExactValidKeysSpec)

/-- ITS FALSE NEIGHBOUR: 'it returns false'. Refute it at one input. -/
def fnExactValidKeysWrong : ChangeSpec := { name := "fnExactValidKeys", fn := fun _ => fun
  | [d] => { results := [.lit (.bool false)], args := [d] }
  | _ => none }
def FnExactValidKeysWrongFalsely : Prop := fnExactValidKeysRow.holds Try.pinned (OpenSpec.ofChange fnExactValidKeysWrong)

/-- 'laws.FnExactStretchKeys': WHATEVER THE INPUT: true; the input reads as it did. -/
def fnExactStretchKeysSpec : ChangeSpec := { name := "fnExactStretchKeys", fn := fun _ => fun
  | [d1, d2] => { results := [.lit (.bool true)], args := [d1, d2] }
  | _ => none }
def fnExactStretchKeysRow : OpenClaim := { program := "ytofjohkhhomldaa", sum := "8b2641dc77957f85efdea67dcb39521eb0cda46388053bb25bf7cfe0fe68d552", func := "loop.example/g01063/laws.FnExactStretchKeys", spec := "fnExactStretchKeys", unfollowed := true, recurses := true, apart := false }
def FnExactStretchKeysSaid : Prop := fnExactStretchKeysRow.holds Try.pinned (OpenSpec.ofChange fnExactStretchKeysSpec)

/-- ITS FALSE NEIGHBOUR: 'it returns false'. Refute it at one input. -/
def fnExactStretchKeysWrong : ChangeSpec := { name := "fnExactStretchKeys", fn := fun _ => fun
  | [d1, d2] => { results := [.lit (.bool false)], args := [d1, d2] }
  | _ => none }
def FnExactStretchKeysWrongFalsely : Prop := fnExactStretchKeysRow.holds Try.pinned (OpenSpec.ofChange fnExactStretchKeysWrong)

/-- 'laws.FnExactPoseAt': WHATEVER THE INPUT: true; the input reads as it did. -/
def fnExactPoseAtSpec : ChangeSpec := { name := "fnExactPoseAt", fn := fun _ => fun
  | [d1, d2] => { results := [.lit (.bool true)], args := [d1, d2] }
  | _ => none }
def fnExactPoseAtRow : OpenClaim := { program := "ytofjohkhhomldaa", sum := "8b2641dc77957f85efdea67dcb39521eb0cda46388053bb25bf7cfe0fe68d552", func := "loop.example/g01063/laws.FnExactPoseAt", spec := "fnExactPoseAt", unfollowed := true, recurses := true, apart := false }
def FnExactPoseAtSaid : Prop := fnExactPoseAtRow.holds Try.pinned (OpenSpec.ofChange fnExactPoseAtSpec)

/-- ITS FALSE NEIGHBOUR: 'it returns false'. Refute it at one input. -/
def fnExactPoseAtWrong : ChangeSpec := { name := "fnExactPoseAt", fn := fun _ => fun
  | [d1, d2] => { results := [.lit (.bool false)], args := [d1, d2] }
  | _ => none }
def FnExactPoseAtWrongFalsely : Prop := fnExactPoseAtRow.holds Try.pinned (OpenSpec.ofChange fnExactPoseAtWrong)

/-- 'laws.FnExactNeedlessKeys': WHATEVER THE INPUT: true; the input reads as it did. -/
def fnExactNeedlessKeysSpec : ChangeSpec := { name := "fnExactNeedlessKeys", fn := fun _ => fun
  | [d] => { results := [.lit (.bool true)], args := [d] }
  | _ => none }
def fnExactNeedlessKeysRow : OpenClaim := { program := "ytofjohkhhomldaa", sum := "8b2641dc77957f85efdea67dcb39521eb0cda46388053bb25bf7cfe0fe68d552", func := "loop.example/g01063/laws.FnExactNeedlessKeys", spec := "fnExactNeedlessKeys", unfollowed := true, recurses := true, apart := false }
def FnExactNeedlessKeysSaid : Prop := fnExactNeedlessKeysRow.holds Try.pinned (OpenSpec.ofChange fnExactNeedlessKeysSpec)

/-- ITS FALSE NEIGHBOUR: 'it returns false'. Refute it at one input. -/
def fnExactNeedlessKeysWrong : ChangeSpec := { name := "fnExactNeedlessKeys", fn := fun _ => fun
  | [d] => { results := [.lit (.bool false)], args := [d] }
  | _ => none }
def FnExactNeedlessKeysWrongFalsely : Prop := fnExactNeedlessKeysRow.holds Try.pinned (OpenSpec.ofChange fnExactNeedlessKeysWrong)

/-- 'laws.FnExactAllPoses': WHATEVER THE INPUT: true; the input reads as it did. -/
def fnExactAllPosesSpec : ChangeSpec := { name := "fnExactAllPoses", fn := fun _ => fun
  | [d1, d2] => { results := [.lit (.bool true)], args := [d1, d2] }
  | _ => none }
def fnExactAllPosesRow : OpenClaim := { program := "ytofjohkhhomldaa", sum := "8b2641dc77957f85efdea67dcb39521eb0cda46388053bb25bf7cfe0fe68d552", func := "loop.example/g01063/laws.FnExactAllPoses", spec := "fnExactAllPoses", unfollowed := true, recurses := true, apart := false }
def FnExactAllPosesSaid : Prop := fnExactAllPosesRow.holds Try.pinned (OpenSpec.ofChange fnExactAllPosesSpec)

/-- ITS FALSE NEIGHBOUR: 'it returns false'. Refute it at one input. -/
def fnExactAllPosesWrong : ChangeSpec := { name := "fnExactAllPoses", fn := fun _ => fun
  | [d1, d2] => { results := [.lit (.bool false)], args := [d1, d2] }
  | _ => none }
def FnExactAllPosesWrongFalsely : Prop := fnExactAllPosesRow.holds Try.pinned (OpenSpec.ofChange fnExactAllPosesWrong)

/- THE SECOND FORM. 'bulk': how many values and letters a reading holds, each counted each time it is reached (what is shared counts as often as it is met; a slice's spare places count too). A statement '..UptoSaid' is the law's where the arguments, and the package variables that the reading takes, are together of bulk at most 1048576: NARROWER than '..Said'. Prove '..Said' where nothing that the law and all that it calls make is longer than what came in: it says more and counts as full. Else prove '..UptoSaid'. A law counts once. -/
mutual
def uptoBulk {H : Type} : DataW H → Nat
  | .lit (.string bytes) => bytes.length + 1
  | .lit _ => 1
  | .nil => 1
  | .ptr d => uptoBulk d + 1
  | .slice elems spare => uptoBulkAll elems + uptoBulkAll spare + 1
  | .agg parts => uptoBulkAll parts + 1
  | .iface _ d => uptoBulk d + 1
  | .map entries => uptoBulkEntries entries + 1
  | .held _ => 1
def uptoBulkAll {H : Type} : List (DataW H) → Nat
  | [] => 0
  | d :: r => uptoBulk d + uptoBulkAll r
def uptoBulkEntries {H : Type} : List (Lit × DataW H) → Nat
  | [] => 0
  | x :: r => uptoBulkEntry x + uptoBulkEntries r
def uptoBulkEntry {H : Type} : Lit × DataW H → Nat
  | (.string bytes, d) => bytes.length + uptoBulk d + 1
  | (_, d) => uptoBulk d + 1
 end
def uptoSmall : (H : Type) → List (DataW H) → Bool := fun _ ds => decide (uptoBulkAll ds ≤ 1048576)
def OpenSpec.upto (s : _root_.Go.ChangeSpec) : _root_.Go.OpenSpec := { _root_.Go.OpenSpec.ofChange s with cond := some uptoSmall }

/-- 'laws.FnExactSamePose', WHERE WHAT IT READS IS OF BULK AT MOST 1048576: true; the input reads as it did. -/
def fnExactSamePoseUptoRow : OpenClaim := { program := "ytofjohkhhomldaa", sum := "8b2641dc77957f85efdea67dcb39521eb0cda46388053bb25bf7cfe0fe68d552", func := "loop.example/g01063/laws.FnExactSamePose", spec := "fnExactSamePose", apart := false, narrowed := true }
def FnExactSamePoseUptoSaid : Prop := fnExactSamePoseUptoRow.holds Try.pinned (OpenSpec.upto fnExactSamePoseSpec)

/-- 'laws.FnExactValidPose', WHERE WHAT IT READS IS OF BULK AT MOST 1048576: true; the input reads as it did. -/
def fnExactValidPoseUptoRow : OpenClaim := { program := "ytofjohkhhomldaa", sum := "8b2641dc77957f85efdea67dcb39521eb0cda46388053bb25bf7cfe0fe68d552", func := "loop.example/g01063/laws.FnExactValidPose", spec := "fnExactValidPose", unfollowed := true, recurses := true, apart := false, narrowed := true }
def FnExactValidPoseUptoSaid : Prop := fnExactValidPoseUptoRow.holds Try.pinned (OpenSpec.upto fnExactValidPoseSpec)

/-- 'laws.FnExactGreatestMove', WHERE WHAT IT READS IS OF BULK AT MOST 1048576: true; the input reads as it did. -/
def fnExactGreatestMoveUptoRow : OpenClaim := { program := "ytofjohkhhomldaa", sum := "8b2641dc77957f85efdea67dcb39521eb0cda46388053bb25bf7cfe0fe68d552", func := "loop.example/g01063/laws.FnExactGreatestMove", spec := "fnExactGreatestMove", unfollowed := true, recurses := true, apart := false, narrowed := true }
def FnExactGreatestMoveUptoSaid : Prop := fnExactGreatestMoveUptoRow.holds Try.pinned (OpenSpec.upto fnExactGreatestMoveSpec)

/-- 'laws.FnExactMirrorPose', WHERE WHAT IT READS IS OF BULK AT MOST 1048576: true; the input reads as it did. -/
def fnExactMirrorPoseUptoRow : OpenClaim := { program := "ytofjohkhhomldaa", sum := "8b2641dc77957f85efdea67dcb39521eb0cda46388053bb25bf7cfe0fe68d552", func := "loop.example/g01063/laws.FnExactMirrorPose", spec := "fnExactMirrorPose", unfollowed := true, recurses := true, apart := false, narrowed := true }
def FnExactMirrorPoseUptoSaid : Prop := fnExactMirrorPoseUptoRow.holds Try.pinned (OpenSpec.upto fnExactMirrorPoseSpec)

/-- 'laws.FnExactPoseBetween', WHERE WHAT IT READS IS OF BULK AT MOST 1048576: true; the input reads as it did. -/
def fnExactPoseBetweenUptoRow : OpenClaim := { program := "ytofjohkhhomldaa", sum := "8b2641dc77957f85efdea67dcb39521eb0cda46388053bb25bf7cfe0fe68d552", func := "loop.example/g01063/laws.FnExactPoseBetween", spec := "fnExactPoseBetween", unfollowed := true, recurses := true, apart := false, narrowed := true }
def FnExactPoseBetweenUptoSaid : Prop := fnExactPoseBetweenUptoRow.holds Try.pinned (OpenSpec.upto fnExactPoseBetweenSpec)

/-- 'laws.FnExactValidKeys', WHERE WHAT IT READS IS OF BULK AT MOST 1048576: true; the input reads as it did. -/
def fnExactValidKeysUptoRow : OpenClaim := { program := "ytofjohkhhomldaa", sum := "8b2641dc77957f85efdea67dcb39521eb0cda46388053bb25bf7cfe0fe68d552", func := "loop.example/g01063/laws.FnExactValidKeys", spec := "fnExactValidKeys", unfollowed := true, recurses := true, apart := false, narrowed := true }
def FnExactValidKeysUptoSaid : Prop := fnExactValidKeysUptoRow.holds Try.pinned (OpenSpec.upto fnExactValidKeysSpec)

/-- 'laws.FnExactStretchKeys', WHERE WHAT IT READS IS OF BULK AT MOST 1048576: true; the input reads as it did. -/
def fnExactStretchKeysUptoRow : OpenClaim := { program := "ytofjohkhhomldaa", sum := "8b2641dc77957f85efdea67dcb39521eb0cda46388053bb25bf7cfe0fe68d552", func := "loop.example/g01063/laws.FnExactStretchKeys", spec := "fnExactStretchKeys", unfollowed := true, recurses := true, apart := false, narrowed := true }
def FnExactStretchKeysUptoSaid : Prop := fnExactStretchKeysUptoRow.holds Try.pinned (OpenSpec.upto fnExactStretchKeysSpec)

/-- 'laws.FnExactPoseAt', WHERE WHAT IT READS IS OF BULK AT MOST 1048576: true; the input reads as it did. -/
def fnExactPoseAtUptoRow : OpenClaim := { program := "ytofjohkhhomldaa", sum := "8b2641dc77957f85efdea67dcb39521eb0cda46388053bb25bf7cfe0fe68d552", func := "loop.example/g01063/laws.FnExactPoseAt", spec := "fnExactPoseAt", unfollowed := true, recurses := true, apart := false, narrowed := true }
def FnExactPoseAtUptoSaid : Prop := fnExactPoseAtUptoRow.holds Try.pinned (OpenSpec.upto fnExactPoseAtSpec)

/-- 'laws.FnExactNeedlessKeys', WHERE WHAT IT READS IS OF BULK AT MOST 1048576: true; the input reads as it did. -/
def fnExactNeedlessKeysUptoRow : OpenClaim := { program := "ytofjohkhhomldaa", sum := "8b2641dc77957f85efdea67dcb39521eb0cda46388053bb25bf7cfe0fe68d552", func := "loop.example/g01063/laws.FnExactNeedlessKeys", spec := "fnExactNeedlessKeys", unfollowed := true, recurses := true, apart := false, narrowed := true }
def FnExactNeedlessKeysUptoSaid : Prop := fnExactNeedlessKeysUptoRow.holds Try.pinned (OpenSpec.upto fnExactNeedlessKeysSpec)

/-- 'laws.FnExactAllPoses', WHERE WHAT IT READS IS OF BULK AT MOST 1048576: true; the input reads as it did. -/
def fnExactAllPosesUptoRow : OpenClaim := { program := "ytofjohkhhomldaa", sum := "8b2641dc77957f85efdea67dcb39521eb0cda46388053bb25bf7cfe0fe68d552", func := "loop.example/g01063/laws.FnExactAllPoses", spec := "fnExactAllPoses", unfollowed := true, recurses := true, apart := false, narrowed := true }
def FnExactAllPosesUptoSaid : Prop := fnExactAllPosesUptoRow.holds Try.pinned (OpenSpec.upto fnExactAllPosesSpec)

end Rows
end Go.Proofs.Ytofjohkhhomldaa

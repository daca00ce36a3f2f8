/-
  No cell of these rows narrows 'for every input' (looked for: loops, veiled, ifaces, maps, wideKeys, modest, calm, conditions, laid).
  DERIVED. THE GIVEN ROWS OF THIS SEAT. 12 by the template 'for every input the law returns true; each argument reads behind the call as it read before'; 0 by the template 'total and deterministic' (their statements: YtdmiieijflochaaTotals.lean).
  GIVEN WITH THE SEED: the statements are not yours to turn. If you find one false, say at which input.
  Laid BY PROGRAM, IN A SANDBOX (cutbox-rows.mjs): the forced cells as the released guide's own fill.sh prints them over the translation 6d357ce8be2e46fe… (all of the seat's roots in one cut). By AI agents, Wed Nov 11 2026. No macro, syntax, notation, axiom, sorry.
-/
import Derived.Test.YtdmiieijflochaaChecked
import GoSem.Claim
import GoSem.ClaimJoined
import GoSem.ClaimMapViews
import Derived.JoinedTies
import Derived.KernelRfl
namespace Go.Proofs.Ytdmiieijflochaa
/- THE CELL 'sum', in the pinned program and in every row, IS THE sha256 OF THE DUMP (.gsa) THAT YtdmiieijflochaaProg.lean LOADS. Nothing in Lean hashes anything: it is a label: what it is worth is what the hold of that sum in a sandbox is worth. -/
noncomputable def Try.pinned : Pinned := { name := "ytdmiieijflochaa", sum := "6d357ce8be2e46fe26c6c2b408ce2b021b776beee74965ee1b64f191b9a72ae7", checked := Try.checked }
namespace Rows
def none {H : Type} : Left H := { results := [], args := [] }

/-- 'laws.FnExactWidestPicture': WHATEVER THE INPUT: true; the input reads as it did. -/
def fnExactWidestPictureSpec : ChangeSpec := { name := "fnExactWidestPicture", fn := fun _ => fun
  | [d1, d2, d3] => { results := [.lit (.bool true)], args := [d1, d2, d3] }
  | _ => none }
def fnExactWidestPictureRow : OpenClaim := { program := "ytdmiieijflochaa", sum := "6d357ce8be2e46fe26c6c2b408ce2b021b776beee74965ee1b64f191b9a72ae7", func := "loop.example/g01063/laws.FnExactWidestPicture", spec := "fnExactWidestPicture", apart := false }
def FnExactWidestPictureSaid : Prop := fnExactWidestPictureRow.holds Try.pinned (OpenSpec.ofChange fnExactWidestPictureSpec)

/-- ITS FALSE NEIGHBOUR: 'it returns false'. Refute it at one input. -/
def fnExactWidestPictureWrong : ChangeSpec := { name := "fnExactWidestPicture", fn := fun _ => fun
  | [d1, d2, d3] => { results := [.lit (.bool false)], args := [d1, d2, d3] }
  | _ => none }
def FnExactWidestPictureWrongFalsely : Prop := fnExactWidestPictureRow.holds Try.pinned (OpenSpec.ofChange fnExactWidestPictureWrong)

/-- 'laws.FnExactStripsFrom': WHATEVER THE INPUT: true; the input reads as it did. -/
def fnExactStripsFromSpec : ChangeSpec := { name := "fnExactStripsFrom", fn := fun _ => fun
  | [d1, d2, d3, d4] => { results := [.lit (.bool true)], args := [d1, d2, d3, d4] }
  | _ => none }
def fnExactStripsFromRow : OpenClaim := { program := "ytdmiieijflochaa", sum := "6d357ce8be2e46fe26c6c2b408ce2b021b776beee74965ee1b64f191b9a72ae7", func := "loop.example/g01063/laws.FnExactStripsFrom", spec := "fnExactStripsFrom", apart := false }
def FnExactStripsFromSaid : Prop := fnExactStripsFromRow.holds Try.pinned (OpenSpec.ofChange fnExactStripsFromSpec)

/-- ITS FALSE NEIGHBOUR: 'it returns false'. Refute it at one input. -/
def fnExactStripsFromWrong : ChangeSpec := { name := "fnExactStripsFrom", fn := fun _ => fun
  | [d1, d2, d3, d4] => { results := [.lit (.bool false)], args := [d1, d2, d3, d4] }
  | _ => none }
def FnExactStripsFromWrongFalsely : Prop := fnExactStripsFromRow.holds Try.pinned (OpenSpec.ofChange fnExactStripsFromWrong)

/-- 'laws.FnExactPiecesFor': WHATEVER THE INPUT: true; the input reads as it did. -/
def fnExactPiecesForSpec : ChangeSpec := { name := "fnExactPiecesFor", fn := fun _ => fun
  | [d1, d2, d3] => { results := [.lit (.bool true)], args := [d1, d2, d3] }
  | _ => none }
def fnExactPiecesForRow : OpenClaim := { program := "ytdmiieijflochaa", sum := "6d357ce8be2e46fe26c6c2b408ce2b021b776beee74965ee1b64f191b9a72ae7", func := "loop.example/g01063/laws.FnExactPiecesFor", spec := "fnExactPiecesFor", apart := false }
def FnExactPiecesForSaid : Prop := fnExactPiecesForRow.holds Try.pinned (OpenSpec.ofChange fnExactPiecesForSpec)

/-- ITS FALSE NEIGHBOUR: 'it returns false'. Refute it at one input. -/
def fnExactPiecesForWrong : ChangeSpec := { name := "fnExactPiecesFor", fn := fun _ => fun
  | [d1, d2, d3] => { results := [.lit (.bool false)], args := [d1, d2, d3] }
  | _ => none }
def FnExactPiecesForWrongFalsely : Prop := fnExactPiecesForRow.holds Try.pinned (OpenSpec.ofChange fnExactPiecesForWrong)

/-- 'laws.FnExactSlitPlaces': WHATEVER THE INPUT: true; the input reads as it did. -/
def fnExactSlitPlacesSpec : ChangeSpec := { name := "fnExactSlitPlaces", fn := fun _ => fun
  | [d] => { results := [.lit (.bool true)], args := [d] }
  | _ => none }
def fnExactSlitPlacesRow : OpenClaim := { program := "ytdmiieijflochaa", sum := "6d357ce8be2e46fe26c6c2b408ce2b021b776beee74965ee1b64f191b9a72ae7", func := "loop.example/g01063/laws.FnExactSlitPlaces", spec := "fnExactSlitPlaces", apart := false }
def FnExactSlitPlacesSaid : Prop := fnExactSlitPlacesRow.holds Try.pinned (OpenSpec.ofChange fnExactSlitPlacesSpec)

/-- ITS FALSE NEIGHBOUR: 'it returns false'. Refute it at one input. -/
def fnExactSlitPlacesWrong : ChangeSpec := { name := "fnExactSlitPlaces", fn := fun _ => fun
  | [d] => { results := [.lit (.bool false)], args := [d] }
  | _ => none }
def FnExactSlitPlacesWrongFalsely : Prop := fnExactSlitPlacesRow.holds Try.pinned (OpenSpec.ofChange fnExactSlitPlacesWrong)

/-- 'laws.FnExactPlacesOf': WHATEVER THE INPUT: true; the input reads as it did. -/
def fnExactPlacesOfSpec : ChangeSpec := { name := "fnExactPlacesOf", fn := fun _ => fun
  | [d1, d2] => { results := [.lit (.bool true)], args := [d1, d2] }
  | _ => none }
def fnExactPlacesOfRow : OpenClaim := { program := "ytdmiieijflochaa", sum := "6d357ce8be2e46fe26c6c2b408ce2b021b776beee74965ee1b64f191b9a72ae7", func := "loop.example/g01063/laws.FnExactPlacesOf", spec := "fnExactPlacesOf", apart := false }
def FnExactPlacesOfSaid : Prop := fnExactPlacesOfRow.holds Try.pinned (OpenSpec.ofChange fnExactPlacesOfSpec)

/-- ITS FALSE NEIGHBOUR: 'it returns false'. Refute it at one input. -/
def fnExactPlacesOfWrong : ChangeSpec := { name := "fnExactPlacesOf", fn := fun _ => fun
  | [d1, d2] => { results := [.lit (.bool false)], args := [d1, d2] }
  | _ => none }
def FnExactPlacesOfWrongFalsely : Prop := fnExactPlacesOfRow.holds Try.pinned (OpenSpec.ofChange fnExactPlacesOfWrong)

/-- 'laws.FnExactWorstSlit': WHATEVER THE INPUT: true; the input reads as it did. -/
def fnExactWorstSlitSpec : ChangeSpec := { name := "fnExactWorstSlit", fn := fun _ => fun
  | [d1, d2] => { results := [.lit (.bool true)], args := [d1, d2] }
  | _ => none }
def fnExactWorstSlitRow : OpenClaim := { program := "ytdmiieijflochaa", sum := "6d357ce8be2e46fe26c6c2b408ce2b021b776beee74965ee1b64f191b9a72ae7", func := "loop.example/g01063/laws.FnExactWorstSlit", spec := "fnExactWorstSlit", apart := false }
def FnExactWorstSlitSaid : Prop := fnExactWorstSlitRow.holds Try.pinned (OpenSpec.ofChange fnExactWorstSlitSpec)

/-- ITS FALSE NEIGHBOUR: 'it returns false'. Refute it at one input. -/
def fnExactWorstSlitWrong : ChangeSpec := { name := "fnExactWorstSlit", fn := fun _ => fun
  | [d1, d2] => { results := [.lit (.bool false)], args := [d1, d2] }
  | _ => none }
def FnExactWorstSlitWrongFalsely : Prop := fnExactWorstSlitRow.holds Try.pinned (OpenSpec.ofChange fnExactWorstSlitWrong)

/-- 'laws.FnExactSeenOrder': WHATEVER THE INPUT: true; the input reads as it did. -/
def fnExactSeenOrderSpec : ChangeSpec := { name := "fnExactSeenOrder", fn := fun _ => fun
  | [d1, d2] => { results := [.lit (.bool true)], args := [d1, d2] }
  | _ => none }
def fnExactSeenOrderRow : OpenClaim := { program := "ytdmiieijflochaa", sum := "6d357ce8be2e46fe26c6c2b408ce2b021b776beee74965ee1b64f191b9a72ae7", func := "loop.example/g01063/laws.FnExactSeenOrder", spec := "fnExactSeenOrder", apart := false }
def FnExactSeenOrderSaid : Prop := fnExactSeenOrderRow.holds Try.pinned (OpenSpec.ofChange fnExactSeenOrderSpec)

/-- ITS FALSE NEIGHBOUR: 'it returns false'. Refute it at one input. -/
def fnExactSeenOrderWrong : ChangeSpec := { name := "fnExactSeenOrder", fn := fun _ => fun
  | [d1, d2] => { results := [.lit (.bool false)], args := [d1, d2] }
  | _ => none }
def FnExactSeenOrderWrongFalsely : Prop := fnExactSeenOrderRow.holds Try.pinned (OpenSpec.ofChange fnExactSeenOrderWrong)

/-- 'laws.FnExactMissedPictures': WHATEVER THE INPUT: true; the input reads as it did. -/
def fnExactMissedPicturesSpec : ChangeSpec := { name := "fnExactMissedPictures", fn := fun _ => fun
  | [d1, d2] => { results := [.lit (.bool true)], args := [d1, d2] }
  | _ => none }
def fnExactMissedPicturesRow : OpenClaim := { program := "ytdmiieijflochaa", sum := "6d357ce8be2e46fe26c6c2b408ce2b021b776beee74965ee1b64f191b9a72ae7", func := "loop.example/g01063/laws.FnExactMissedPictures", spec := "fnExactMissedPictures", apart := false }
def FnExactMissedPicturesSaid : Prop := fnExactMissedPicturesRow.holds Try.pinned (OpenSpec.ofChange fnExactMissedPicturesSpec)

/-- ITS FALSE NEIGHBOUR: 'it returns false'. Refute it at one input. -/
def fnExactMissedPicturesWrong : ChangeSpec := { name := "fnExactMissedPictures", fn := fun _ => fun
  | [d1, d2] => { results := [.lit (.bool false)], args := [d1, d2] }
  | _ => none }
def FnExactMissedPicturesWrongFalsely : Prop := fnExactMissedPicturesRow.holds Try.pinned (OpenSpec.ofChange fnExactMissedPicturesWrong)

/-- 'laws.FnExactSlitsForDrift': WHATEVER THE INPUT: true; the input reads as it did. -/
def fnExactSlitsForDriftSpec : ChangeSpec := { name := "fnExactSlitsForDrift", fn := fun _ => fun
  | [d1, d2] => { results := [.lit (.bool true)], args := [d1, d2] }
  | _ => none }
def fnExactSlitsForDriftRow : OpenClaim := { program := "ytdmiieijflochaa", sum := "6d357ce8be2e46fe26c6c2b408ce2b021b776beee74965ee1b64f191b9a72ae7", func := "loop.example/g01063/laws.FnExactSlitsForDrift", spec := "fnExactSlitsForDrift", apart := false }
def FnExactSlitsForDriftSaid : Prop := fnExactSlitsForDriftRow.holds Try.pinned (OpenSpec.ofChange fnExactSlitsForDriftSpec)

/-- ITS FALSE NEIGHBOUR: 'it returns false'. Refute it at one input. -/
def fnExactSlitsForDriftWrong : ChangeSpec := { name := "fnExactSlitsForDrift", fn := fun _ => fun
  | [d1, d2] => { results := [.lit (.bool false)], args := [d1, d2] }
  | _ => none }
def FnExactSlitsForDriftWrongFalsely : Prop := fnExactSlitsForDriftRow.holds Try.pinned (OpenSpec.ofChange fnExactSlitsForDriftWrong)

/-- 'laws.FnExactMotionOf': WHATEVER THE INPUT: true; the input reads as it did. -/
def fnExactMotionOfSpec : ChangeSpec := { name := "fnExactMotionOf", fn := fun _ => fun
  | [d1, d2] => { results := [.lit (.bool true)], args := [d1, d2] }
  | _ => none }
def fnExactMotionOfRow : OpenClaim := { program := "ytdmiieijflochaa", sum := "6d357ce8be2e46fe26c6c2b408ce2b021b776beee74965ee1b64f191b9a72ae7", func := "loop.example/g01063/laws.FnExactMotionOf", spec := "fnExactMotionOf", apart := false }
def FnExactMotionOfSaid : Prop := fnExactMotionOfRow.holds Try.pinned (OpenSpec.ofChange fnExactMotionOfSpec)

/-- ITS FALSE NEIGHBOUR: 'it returns false'. Refute it at one input. -/
def fnExactMotionOfWrong : ChangeSpec := { name := "fnExactMotionOf", fn := fun _ => fun
  | [d1, d2] => { results := [.lit (.bool false)], args := [d1, d2] }
  | _ => none }
def FnExactMotionOfWrongFalsely : Prop := fnExactMotionOfRow.holds Try.pinned (OpenSpec.ofChange fnExactMotionOfWrong)

/-- 'laws.FnExactDiscFor': WHATEVER THE INPUT: true; the input reads as it did. -/
def fnExactDiscForSpec : ChangeSpec := { name := "fnExactDiscFor", fn := fun _ => fun
  | [d1, d2] => { results := [.lit (.bool true)], args := [d1, d2] }
  | _ => none }
def fnExactDiscForRow : OpenClaim := { program := "ytdmiieijflochaa", sum := "6d357ce8be2e46fe26c6c2b408ce2b021b776beee74965ee1b64f191b9a72ae7", func := "loop.example/g01063/laws.FnExactDiscFor", spec := "fnExactDiscFor", apart := false }
def FnExactDiscForSaid : Prop := fnExactDiscForRow.holds Try.pinned (OpenSpec.ofChange fnExactDiscForSpec)

/-- ITS FALSE NEIGHBOUR: 'it returns false'. Refute it at one input. -/
def fnExactDiscForWrong : ChangeSpec := { name := "fnExactDiscFor", fn := fun _ => fun
  | [d1, d2] => { results := [.lit (.bool false)], args := [d1, d2] }
  | _ => none }
def FnExactDiscForWrongFalsely : Prop := fnExactDiscForRow.holds Try.pinned (OpenSpec.ofChange fnExactDiscForWrong)

/-- 'laws.FnExactFewestPictures': WHATEVER THE INPUT: true; the input reads as it did. -/
def fnExactFewestPicturesSpec : ChangeSpec := { name := "fnExactFewestPictures", fn := fun _ => fun
  | [d] => { results := [.lit (.bool true)], args := [d] }
  | _ => none }
def fnExactFewestPicturesRow : OpenClaim := { program := "ytdmiieijflochaa", sum := "6d357ce8be2e46fe26c6c2b408ce2b021b776beee74965ee1b64f191b9a72ae7", func := "loop.example/g01063/laws.FnExactFewestPictures", spec := "fnExactFewestPictures", apart := false }
def FnExactFewestPicturesSaid : Prop := fnExactFewestPicturesRow.holds Try.pinned (OpenSpec.ofChange fnExactFewestPicturesSpec)

/-- ITS FALSE NEIGHBOUR: 'it returns false'. Refute it at one input. -/
def fnExactFewestPicturesWrong : ChangeSpec := { name := "fnExactFewestPictures", fn := fun _ => fun
  | [d] => { results := [.lit (.bool false)], args := [d] }
  | _ => none }
def FnExactFewestPicturesWrongFalsely : Prop := fnExactFewestPicturesRow.holds Try.pinned (OpenSpec.ofChange fnExactFewestPicturesWrong)

/- THE SECOND FORM. 'bulk': how many values and letters a reading holds, each counted each time it is reached (what is shared counts as often as it is met; a slice's spare places count too). A statement '..UptoSaid' is the law's where the arguments, and the package variables that the reading takes, are together of bulk at most 1048576: NARROWER than '..Said'. Prove '..Said' where nothing that the law and all that it calls make is longer than what came in: it says more and counts as full. Else prove '..UptoSaid'. A law counts once. -/
mutual
def uptoBulk {H : Type} : DataW H → Nat
  | .lit (.string bytes) => bytes.length + 1
  | .lit _ => 1
  | .nil => 1
  | .ptr d => uptoBulk d + 1
  | .slice elems spare => uptoBulkAll elems + uptoBulkAll spare + 1
  | .agg parts => uptoBulkAll parts + 1
  | .iface _ d => uptoBulk d + 1
  | .map entries => uptoBulkEntries entries + 1
  | .held _ => 1
def uptoBulkAll {H : Type} : List (DataW H) → Nat
  | [] => 0
  | d :: r => uptoBulk d + uptoBulkAll r
def uptoBulkEntries {H : Type} : List (Lit × DataW H) → Nat
  | [] => 0
  | x :: r => uptoBulkEntry x + uptoBulkEntries r
def uptoBulkEntry {H : Type} : Lit × DataW H → Nat
  | (.string bytes, d) => bytes.length + uptoBulk d + 1
  | (_, d) => uptoBulk d + 1
 end
def uptoSmall : (H : Type) → List (DataW H) → Bool := fun _ ds => decide (uptoBulkAll ds ≤ 1048576)
def OpenSpec.upto (s : _root_.Go.ChangeSpec) : _root_.Go.OpenSpec := { _root_.Go.OpenSpec.ofChange s with cond := some uptoSmall }

/-- 'laws.FnExactWidestPicture', WHERE WHAT IT READS IS OF BULK AT MOST 1048576: true; the input reads as it did. -/
def fnExactWidestPictureUptoRow : OpenClaim := { program := "ytdmiieijflochaa", sum := "6d357ce8be2e46fe26c6c2b408ce2b021b776beee74965ee1b64f191b9a72ae7", func := "loop.example/g01063/laws.FnExactWidestPicture", spec := "fnExactWidestPicture", apart := false, narrowed := true }
def FnExactWidestPictureUptoSaid : Prop := fnExactWidestPictureUptoRow.holds Try.pinned (OpenSpec.upto fnExactWidestPictureSpec)

/-- 'laws.FnExactStripsFrom', WHERE WHAT IT READS IS OF BULK AT MOST 1048576: true; the input reads as it did. -/
def fnExactStripsFromUptoRow : OpenClaim := { program := "ytdmiieijflochaa", sum := "6d357ce8be2e46fe26c6c2b408ce2b021b776beee74965ee1b64f191b9a72ae7", func := "loop.example/g01063/laws.FnExactStripsFrom", spec := "fnExactStripsFrom", apart := false, narrowed := true }
def FnExactStripsFromUptoSaid : Prop := fnExactStripsFromUptoRow.holds Try.pinned (OpenSpec.upto fnExactStripsFromSpec)

/-- 'laws.FnExactPiecesFor', WHERE WHAT IT READS IS OF BULK AT MOST 1048576: true; the input reads as it did. -/
def fnExactPiecesForUptoRow : OpenClaim := { program := "ytdmiieijflochaa", sum := "6d357ce8be2e46fe26c6c2b408ce2b021b776beee74965ee1b64f191b9a72ae7", func := "loop.example/g01063/laws.FnExactPiecesFor", spec := "fnExactPiecesFor", apart := false, narrowed := true }
def FnExactPiecesForUptoSaid : Prop := fnExactPiecesForUptoRow.holds Try.pinned (OpenSpec.upto fnExactPiecesForSpec)

/-- 'laws.FnExactSlitPlaces', WHERE WHAT IT READS IS OF BULK AT MOST 1048576: true; the input reads as it did. -/
def fnExactSlitPlacesUptoRow : OpenClaim := { program := "ytdmiieijflochaa", sum := "6d357ce8be2e46fe26c6c2b408ce2b021b776beee74965ee1b64f191b9a72ae7", func := "loop.example/g01063/laws.FnExactSlitPlaces", spec := "fnExactSlitPlaces", apart := false, narrowed := true }
def FnExactSlitPlacesUptoSaid : Prop := fnExactSlitPlacesUptoRow.holds Try.pinned (OpenSpec.upto fnExactSlitPlacesSpec)

/-- 'laws.FnExactPlacesOf', WHERE WHAT IT READS IS OF BULK AT MOST 1048576: true; the input reads as it did. -/
def fnExactPlacesOfUptoRow : OpenClaim := { program := "ytdmiieijflochaa", sum := "6d357ce8be2e46fe26c6c2b408ce2b021b776beee74965ee1b64f191b9a72ae7", func := "loop.example/g01063/laws.FnExactPlacesOf", spec := "fnExactPlacesOf", apart := false, narrowed := true }
def FnExactPlacesOfUptoSaid : Prop := fnExactPlacesOfUptoRow.holds Try.pinned (OpenSpec.upto fnExactPlacesOfSpec)

/-- 'laws.FnExactWorstSlit', WHERE WHAT IT READS IS OF BULK AT MOST 1048576: true; the input reads as it did. -/
def fnExactWorstSlitUptoRow : OpenClaim := { program := "ytdmiieijflochaa", sum := "6d357ce8be2e46fe26c6c2b408ce2b021b776beee74965ee1b64f191b9a72ae7", func := "loop.example/g01063/laws.FnExactWorstSlit", spec := "fnExactWorstSlit", apart := false, narrowed := true }
def FnExactWorstSlitUptoSaid : Prop := fnExactWorstSlitUptoRow.holds Try.pinned (OpenSpec.upto fnExactWorstSlitSpec)

/-- 'laws.FnExactSeenOrder', WHERE WHAT IT READS IS OF BULK AT MOST 1048576: true; the input reads as it did. -/
def fnExactSeenOrderUptoRow : OpenClaim := { program := "ytdmiieijflochaa", sum := "6d357ce8be2e46fe26c6c2b408ce2b021b776beee74965ee1b64f191b9a72ae7", func := "loop.example/g01063/laws.FnExactSeenOrder", spec := "fnExactSeenOrder", apart := false, narrowed := true }
def FnExactSeenOrderUptoSaid : Prop := fnExactSeenOrderUptoRow.holds Try.pinned (OpenSpec.upto fnExactSeenOrderSpec)

/-- 'laws.FnExactMissedPictures', WHERE WHAT IT READS IS OF BULK AT MOST 1048576: true; the input reads as it did. -/
def fnExactMissedPicturesUptoRow : OpenClaim := { program := "ytdmiieijflochaa", sum := "6d357ce8be2e46fe26c6c2b408ce2b021b776beee74965ee1b64f191b9a72ae7", func := "loop.example/g01063/laws.FnExactMissedPictures", spec := "fnExactMissedPictures", apart := false, narrowed := true }
def FnExactMissedPicturesUptoSaid : Prop := fnExactMissedPicturesUptoRow.holds Try.pinned (OpenSpec.upto fnExactMissedPicturesSpec)

/-- 'laws.FnExactSlitsForDrift', WHERE WHAT IT READS IS OF BULK AT MOST 1048576: true; the input reads as it did. -/
def fnExactSlitsForDriftUptoRow : OpenClaim := { program := "ytdmiieijflochaa", sum := "6d357ce8be2e46fe26c6c2b408ce2b021b776beee74965ee1b64f191b9a72ae7", func := "loop.example/g01063/laws.FnExactSlitsForDrift", spec := "fnExactSlitsForDrift", apart := false, narrowed := true }
def FnExactSlitsForDriftUptoSaid : Prop := fnExactSlitsForDriftUptoRow.holds Try.pinned (OpenSpec.upto fnExactSlitsForDriftSpec)

/-- 'laws.FnExactMotionOf', WHERE WHAT IT READS IS OF BULK AT MOST 1048576: true; the input reads as it did. -/
def fnExactMotionOfUptoRow : OpenClaim := { program := "ytdmiieijflochaa", sum := "6d357ce8be2e46fe26c6c2b408ce2b021b776beee74965ee1b64f191b9a72ae7", func := "loop.example/g01063/laws.FnExactMotionOf", spec := "fnExactMotionOf", apart := false, narrowed := true }
def FnExactMotionOfUptoSaid : Prop := fnExactMotionOfUptoRow.holds Try.pinned (OpenSpec.upto fnExactMotionOfSpec)

/-- 'laws.FnExactDiscFor', WHERE WHAT IT READS IS OF BULK AT MOST 1048576: true; the input reads as it did. -/
def fnExactDiscForUptoRow : OpenClaim := { program := "ytdmiieijflochaa", sum := "6d357ce8be2e46fe26c6c2b408ce2b021b776beee74965ee1b64f191b9a72ae7", func := "loop.example/g01063/laws.FnExactDiscFor", spec := "fnExactDiscFor", apart := false, narrowed := true }
def FnExactDiscForUptoSaid : Prop := fnExactDiscForUptoRow.holds Try.pinned (OpenSpec.upto fnExactDiscForSpec)

/-- 'laws.FnExactFewestPictures', WHERE WHAT IT READS IS OF BULK AT MOST 1048576: true; the input reads as it did. -/
def fnExactFewestPicturesUptoRow : OpenClaim := { program := "ytdmiieijflochaa", sum := "6d357ce8be2e46fe26c6c2b408ce2b021b776beee74965ee1b64f191b9a72ae7", func := "loop.example/g01063/laws.FnExactFewestPictures", spec := "fnExactFewestPictures", apart := false, narrowed := true }
def FnExactFewestPicturesUptoSaid : Prop := fnExactFewestPicturesUptoRow.holds Try.pinned (OpenSpec.upto fnExactFewestPicturesSpec)

end Rows
end Go.Proofs.Ytdmiieijflochaa

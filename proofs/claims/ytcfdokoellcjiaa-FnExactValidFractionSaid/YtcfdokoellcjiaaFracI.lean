/-
  PROVED HERE: the walks of WholeTurns, CompareFractions and ValidFraction: the program and the reference agree. CONDITIONS: none beyond that each number is an int64.
-/
import Derived.Test.YtcfdokoellcjiaaFracA
namespace Go.Proofs.Ytcfdokoellcjiaa
open Go.RowKit

set_option maxHeartbeats 1000000 in
theorem law_ValidFraction (a : Int) (_wa : (Lit.int .i64 a).wf = true) (b : Int) (_wb : (Lit.int .i64 b).wf = true) (w : World) :
    Calls Try.prog 9 #[.agg #[.int .i64 a, .int .i64 b]] w fun e w' => e = .returned (.bool true) ∧ Below w.heap.size w w' := by
  go_enter Try.func9, Try.ntmps9
  go_wp2_with (first | (go_at_call 26; refine (toFraction_any _ _ _).mono ?_; rintro e w' ⟨rfl, o1, o2, o3, rfl⟩) | (go_at_call 27; refine (ValidFraction_any _ _ _).mono ?_; rintro e w' ⟨rfl, o1, k1, rfl⟩) | (go_at_call 47; refine (l02Ok_any _ _ _).mono ?_; rintro e w' ⟨rfl, o1, k1, rfl⟩) | (go_at_call 37; refine (within_any _ _ _ _).mono ?_; rintro e w' ⟨rfl, rfl⟩) | (go_at_call 44; refine (l00In_any _ _ _ _).mono ?_; rintro e w' ⟨rfl, rfl⟩) | go_in)
  all_goals
    go_ret
    refine ⟨rfl, ?_⟩
    repeat (first | exact Below.refl _ _ | assumption | refine bl_drewN ?_ _ | refine Below.drew ?_ | refine bl_al ?_ _ | (refine Below.setCell ?_ (by simp <;> omega) _) | refine bl_tr ?_ (by assumption))
end Go.Proofs.Ytcfdokoellcjiaa

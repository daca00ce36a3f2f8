/-
  PROVED HERE: the walks of WholeTurns, CompareFractions and ValidFraction: the program and the reference agree. CONDITIONS: none beyond that each number is an int64.
-/
import Derived.Test.YtgbfnlhldkgmoaaFracA
namespace Go.Proofs.Ytgbfnlhldkgmoaa
open Go.RowKit

set_option maxHeartbeats 1000000 in
theorem law_WholeTurns (a : Int) (_wa : (Lit.int .i64 a).wf = true) (b : Int) (_wb : (Lit.int .i64 b).wf = true) (x : Int) (_wx : (Lit.int .i64 x).wf = true) (w : World) :
    Calls Try.prog 5 #[.agg #[.int .i64 a, .int .i64 b], .int .i64 x] w fun e w' => e = .returned (.bool true) ∧ Below w.heap.size w w' := by
  cases hv : vf a b
  case false =>
    go_enter Try.func5, Try.ntmps5
    go_wp2_with (first | (go_at_call 16; refine (toFraction_any _ _ _).mono ?_; rintro e w' ⟨rfl, o1, o2, o3, rfl⟩) | (go_at_call 42; refine (ValidFraction_any _ _ _).mono ?_; rintro e w' ⟨rfl, o1, k1, rfl⟩) | (go_at_call 49; refine (l02Ok_any _ _ _).mono ?_; rintro e w' ⟨rfl, o1, k1, rfl⟩) | (go_at_call 48; refine (lowest_any _ _ _ (by omega) (by omega) (by omega) (by omega)).mono ?_; rintro e w' ⟨rfl, o1, k1, rfl⟩) | (go_at_call 47; refine (checked_any _ _ _).mono ?_; rintro e w' ⟨rfl, o1, o2, o3, k1, rfl⟩) | (go_at_call 45; refine (l02Full_any _ _ _ (by omega) (by omega) (by omega) (by omega)).mono ?_; rintro e w' ⟨rfl, o1, o2, o3, o4, k1, rfl⟩) | (go_at_call 58; refine (l02Make_any _ _ _ (by omega) (by omega) (by omega) (by omega)).mono ?_; rintro e w' ⟨rfl, o1, k1, rfl⟩) | (go_at_call 46; refine (within_any _ _ _ _).mono ?_; rintro e w' ⟨rfl, rfl⟩) | (go_at_call 44; refine (l00In_any _ _ _ _).mono ?_; rintro e w' ⟨rfl, rfl⟩) | go_in)
    all_goals
      go_ret
      refine ⟨rfl, ?_⟩
      repeat (first | exact Below.refl _ _ | assumption | refine bl_drewN ?_ _ | refine Below.drew ?_ | refine bl_al ?_ _ | (refine Below.setCell ?_ (by simp <;> omega) _) | refine bl_tr ?_ (by assumption))
  case true =>
    obtain ⟨⟨_, _⟩, _, _⟩ := vf_t hv
    cases h1 : inB x 0 1000000
    case false =>
      go_enter Try.func5, Try.ntmps5
      go_wp2_with (first | (go_at_call 16; refine (toFraction_any _ _ _).mono ?_; rintro e w' ⟨rfl, o1, o2, o3, rfl⟩) | (go_at_call 42; refine (ValidFraction_any _ _ _).mono ?_; rintro e w' ⟨rfl, o1, k1, rfl⟩) | (go_at_call 49; refine (l02Ok_any _ _ _).mono ?_; rintro e w' ⟨rfl, o1, k1, rfl⟩) | (go_at_call 48; refine (lowest_any _ _ _ (by omega) (by omega) (by omega) (by omega)).mono ?_; rintro e w' ⟨rfl, o1, k1, rfl⟩) | (go_at_call 47; refine (checked_any _ _ _).mono ?_; rintro e w' ⟨rfl, o1, o2, o3, k1, rfl⟩) | (go_at_call 45; refine (l02Full_any _ _ _ (by omega) (by omega) (by omega) (by omega)).mono ?_; rintro e w' ⟨rfl, o1, o2, o3, o4, k1, rfl⟩) | (go_at_call 58; refine (l02Make_any _ _ _ (by omega) (by omega) (by omega) (by omega)).mono ?_; rintro e w' ⟨rfl, o1, k1, rfl⟩) | (go_at_call 46; refine (within_any _ _ _ _).mono ?_; rintro e w' ⟨rfl, rfl⟩) | (go_at_call 44; refine (l00In_any _ _ _ _).mono ?_; rintro e w' ⟨rfl, rfl⟩) | go_in)
      all_goals
        go_ret
        refine ⟨rfl, ?_⟩
        repeat (first | exact Below.refl _ _ | assumption | refine bl_drewN ?_ _ | refine Below.drew ?_ | refine bl_al ?_ _ | (refine Below.setCell ?_ (by simp <;> omega) _) | refine bl_tr ?_ (by assumption))
    case true =>
      obtain ⟨_, _⟩ := inB_t h1
      by_cases hp : a < 0
      · go_enter Try.func5, Try.ntmps5
        go_wp2_with (first | (go_at_call 16; refine (toFraction_any _ _ _).mono ?_; rintro e w' ⟨rfl, o1, o2, o3, rfl⟩) | (go_at_call 42; refine (ValidFraction_any _ _ _).mono ?_; rintro e w' ⟨rfl, o1, k1, rfl⟩) | (go_at_call 49; refine (l02Ok_any _ _ _).mono ?_; rintro e w' ⟨rfl, o1, k1, rfl⟩) | (go_at_call 48; refine (lowest_any _ _ _ (by omega) (by omega) (by omega) (by omega)).mono ?_; rintro e w' ⟨rfl, o1, k1, rfl⟩) | (go_at_call 47; refine (checked_any _ _ _).mono ?_; rintro e w' ⟨rfl, o1, o2, o3, k1, rfl⟩) | (go_at_call 45; refine (l02Full_any _ _ _ (by omega) (by omega) (by omega) (by omega)).mono ?_; rintro e w' ⟨rfl, o1, o2, o3, o4, k1, rfl⟩) | (go_at_call 58; refine (l02Make_any _ _ _ (by omega) (by omega) (by omega) (by omega)).mono ?_; rintro e w' ⟨rfl, o1, k1, rfl⟩) | (go_at_call 46; refine (within_any _ _ _ _).mono ?_; rintro e w' ⟨rfl, rfl⟩) | (go_at_call 44; refine (l00In_any _ _ _ _).mono ?_; rintro e w' ⟨rfl, rfl⟩) | go_in)
        all_goals
          go_ret
          refine ⟨rfl, ?_⟩
          repeat (first | exact Below.refl _ _ | assumption | refine bl_drewN ?_ _ | refine Below.drew ?_ | refine bl_al ?_ _ | (refine Below.setCell ?_ (by simp <;> omega) _) | refine bl_tr ?_ (by assumption))
      · have m0 : 0 ≤ a * x := Int.mul_nonneg (by omega) (by omega)
        have m1 : a * x ≤ 1000000 * x := Int.mul_le_mul_of_nonneg_right (by omega) (by omega)
        have m2 : a * x ≤ 1000000000000 := by omega
        clear m1
        go_enter Try.func5, Try.ntmps5
        go_wp2_with (first | (go_at_call 16; refine (toFraction_any _ _ _).mono ?_; rintro e w' ⟨rfl, o1, o2, o3, rfl⟩) | (go_at_call 42; refine (ValidFraction_any _ _ _).mono ?_; rintro e w' ⟨rfl, o1, k1, rfl⟩) | (go_at_call 49; refine (l02Ok_any _ _ _).mono ?_; rintro e w' ⟨rfl, o1, k1, rfl⟩) | (go_at_call 48; refine (lowest_any _ _ _ (by omega) (by omega) (by omega) (by omega)).mono ?_; rintro e w' ⟨rfl, o1, k1, rfl⟩) | (go_at_call 47; refine (checked_any _ _ _).mono ?_; rintro e w' ⟨rfl, o1, o2, o3, k1, rfl⟩) | (go_at_call 45; refine (l02Full_any _ _ _ (by omega) (by omega) (by omega) (by omega)).mono ?_; rintro e w' ⟨rfl, o1, o2, o3, o4, k1, rfl⟩) | (go_at_call 58; refine (l02Make_any _ _ _ (by omega) (by omega) (by omega) (by omega)).mono ?_; rintro e w' ⟨rfl, o1, k1, rfl⟩) | (go_at_call 46; refine (within_any _ _ _ _).mono ?_; rintro e w' ⟨rfl, rfl⟩) | (go_at_call 44; refine (l00In_any _ _ _ _).mono ?_; rintro e w' ⟨rfl, rfl⟩) | go_in)
        all_goals
          go_ret
          refine ⟨rfl, ?_⟩
          repeat (first | exact Below.refl _ _ | assumption | refine bl_drewN ?_ _ | refine Below.drew ?_ | refine bl_al ?_ _ | (refine Below.setCell ?_ (by simp <;> omega) _) | refine bl_tr ?_ (by assumption))
end Go.Proofs.Ytgbfnlhldkgmoaa

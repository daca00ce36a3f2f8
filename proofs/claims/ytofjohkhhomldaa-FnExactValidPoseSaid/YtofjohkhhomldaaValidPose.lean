/-
  PROVED HERE: the walk of ValidPose: the program and the reference agree. CONDITIONS: the arguments' cells lie in the world.
-/
import Derived.Test.YtofjohkhhomldaaPose
import Derived.Test.YtofjohkhhomldaaTouch
namespace Go.Proofs.Ytofjohkhhomldaa
open Go.RowKit

theorem ValidPose_v (A : Option Addr) (n c : Nat) (ps : List Pnt) (w : World) (hm : n ≤ 1048576) (hA : PI w A n ps) :
    Calls Try.prog 19 #[.slice A n c] w fun e w' => e = .returned (.bool (vp ps)) ∧ Below w.heap.size w w' := ValidPose_any A n c ps w (by omega) hA
theorem lValidPose_v (A : Option Addr) (n c : Nat) (ps : List Pnt) (w : World) (hm : n ≤ 1048576) (hA : PI w A n ps) :
    Calls Try.prog 18 #[.slice A n c] w fun e w' => e = .returned (.bool (vp ps)) ∧ Below w.heap.size w w' := by
  have HA := Lib.hid hA
  clear hA
  go_enter Try.func18, Try.ntmps18
  go_wp2_with (go_at_call 52; refine (l04Ok_any _ _ _ ps _ (by omega) HA.out).mono ?_; rintro e w' ⟨rfl, rfl⟩)
  go_ret
  exact ⟨rfl, Below.refl _ _⟩
set_option maxHeartbeats 4000000 in
theorem law_ValidPose (w : World) (A0 : Option Addr) (n0 c0 : Nat) (p0 : List Pnt) (hA0 : PI w A0 n0 p0) (hN0 : n0 ≤ maxLen) :
    Calls Try.prog 4 #[.slice A0 n0 c0] w fun e w' => e = .returned (.bool true) ∧ Below w.heap.size w w' := by
  obtain rfl : n0 = p0.length := hA0.1.symm
  by_cases hb0 : 1048576 < p0.length
  · clear hA0
    go_enter Try.func4, Try.ntmps4
    go_wp2_with fail
    refine (szP_no _ _ _ _ _ hN0 (by omega) (by omega) (by omega)).mono ?_
    rintro e w' ⟨rfl, rfl⟩
    go_wp2
    go_ret
    exact ⟨rfl, Below.refl _ _⟩
  have hm0 : p0.length ≤ 1048576 := by omega
  have hM0 : p0.length ≤ 1152921504606846976 := by omega
  have FA0_0 := Lib.hid (AP.mk hA0)
  clear hA0
  go_enter Try.func4, Try.ntmps4
  go_wp2_with fail
  refine (szP_yes _ _ _ _ _ (by omega) (by omega)).mono ?_
  rintro e w' ⟨rfl, rfl⟩
  go_wp2_with fail
  refine (toPointS_any _ _ _ p0 _ hm0 (by with_reducible first | exact FA0_0.out.pi | exact (FA0_0.out.pi).drewN _)).mono ?_
  rintro e w1 ⟨T0, cT0, rfl, own1, hb1⟩
  have M1 := Lib.hid (show Below w.heap.size w w1 from by
    repeat (first | exact Below.refl _ _ | assumption | refine bl_drewN ?_ _ | refine Below.drew ?_ | refine bl_al ?_ _ | (refine Below.setCell ?_ (by simp <;> omega) _) | refine bl_tr ?_ (by assumption)))
  have U1 := Lib.hid (M1.out)
  have Z1 := Lib.hid (show w.heap.size ≤ w1.heap.size from M1.out.size)
  have FA0_1 := Lib.hid (FA0_0.out.below M1.out)
  have FT0_1 := Lib.hid (show OP w1 w.heap.size w1.heap.size T0 p0.length cT0 p0 from OP.mk own1)
  clear own1 hb1
  go_wp2_with fail
  refine (lValidPose_v _ _ _ p0 _ hm0 (by with_reducible first | exact FT0_1.out.pi | exact (FT0_1.out.pi).drewN _)).mono ?_
  rintro e w2 ⟨rfl, hb2⟩
  have M2 := Lib.hid (show Below w1.heap.size w1 w2 from by
    repeat (first | exact Below.refl _ _ | assumption | refine bl_drewN ?_ _ | refine Below.drew ?_ | refine bl_al ?_ _ | (refine Below.setCell ?_ (by simp <;> omega) _) | refine bl_tr ?_ (by assumption)))
  have U2 := Lib.hid (bl_tr U1.out M2.out)
  have Z2 := Lib.hid (show w1.heap.size ≤ w2.heap.size from M2.out.size)
  have FA0_2 := Lib.hid (FA0_1.out.below M2.out)
  have FT0_2 := Lib.hid (FT0_1.out.below M2.out)
  clear hb2
  go_wp2_with fail
  refine (toPointS_any _ _ _ p0 _ hm0 (by with_reducible first | exact FA0_2.out.pi | exact (FA0_2.out.pi).drewN _)).mono ?_
  rintro e w3 ⟨X0, cX0, rfl, own3, hb3⟩
  have M3 := Lib.hid (show Below w2.heap.size w2 w3 from by
    repeat (first | exact Below.refl _ _ | assumption | refine bl_drewN ?_ _ | refine Below.drew ?_ | refine bl_al ?_ _ | (refine Below.setCell ?_ (by simp <;> omega) _) | refine bl_tr ?_ (by assumption)))
  have U3 := Lib.hid (bl_tr U2.out M3.out)
  have Z3 := Lib.hid (show w2.heap.size ≤ w3.heap.size from M3.out.size)
  have FA0_3 := Lib.hid (FA0_2.out.below M3.out)
  have FX0_3 := Lib.hid (show OP w3 w2.heap.size w3.heap.size X0 p0.length cX0 p0 from OP.mk own3)
  clear own3 hb3
  go_wp2_with fail
  refine (ValidPose_v _ _ _ p0 _ hm0 (by with_reducible first | exact FX0_3.out.pi | exact (FX0_3.out.pi).drewN _)).mono ?_
  rintro e w4 ⟨rfl, hb4⟩
  have M4 := Lib.hid (show Below w3.heap.size w3 w4 from by
    repeat (first | exact Below.refl _ _ | assumption | refine bl_drewN ?_ _ | refine Below.drew ?_ | refine bl_al ?_ _ | (refine Below.setCell ?_ (by simp <;> omega) _) | refine bl_tr ?_ (by assumption)))
  have U4 := Lib.hid (bl_tr U3.out M4.out)
  have Z4 := Lib.hid (show w3.heap.size ≤ w4.heap.size from M4.out.size)
  have FA0_4 := Lib.hid (FA0_3.out.below M4.out)
  have FX0_4 := Lib.hid (FX0_3.out.below M4.out)
  clear hb4
  go_wp2_with fail
  refine (toPointS_any _ _ _ p0 _ hm0 (by with_reducible first | exact FA0_4.out.pi | exact (FA0_4.out.pi).drewN _)).mono ?_
  rintro e w5 ⟨V0, cV0, rfl, own5, hb5⟩
  have M5 := Lib.hid (show Below w4.heap.size w4 w5 from by
    repeat (first | exact Below.refl _ _ | assumption | refine bl_drewN ?_ _ | refine Below.drew ?_ | refine bl_al ?_ _ | (refine Below.setCell ?_ (by simp <;> omega) _) | refine bl_tr ?_ (by assumption)))
  have U5 := Lib.hid (bl_tr U4.out M5.out)
  have Z5 := Lib.hid (show w4.heap.size ≤ w5.heap.size from M5.out.size)
  have FA0_5 := Lib.hid (FA0_4.out.below M5.out)
  have FX0_5 := Lib.hid (FX0_4.out.below M5.out)
  have FV0_5 := Lib.hid (show OP w5 w4.heap.size w5.heap.size V0 p0.length cV0 p0 from OP.mk own5)
  clear own5 hb5
  go_wp2_with fail
  refine (eqPointS_same _ _ _ _ _ (p0) _ hM0 (by with_reducible first | exact FX0_5.out.pi | exact (FX0_5.out.pi).drewN _) (by with_reducible first | exact FV0_5.out.pi | exact (FV0_5.out.pi).drewN _)).mono ?_
  rintro e w6 ⟨rfl, hb6⟩
  have M6 := Lib.hid (show Below w5.heap.size w5 w6 from by
    repeat (first | exact Below.refl _ _ | assumption | refine bl_drewN ?_ _ | refine Below.drew ?_ | refine bl_al ?_ _ | (refine Below.setCell ?_ (by simp <;> omega) _) | refine bl_tr ?_ (by assumption)))
  have U6 := Lib.hid (bl_tr U5.out M6.out)
  have Z6 := Lib.hid (show w5.heap.size ≤ w6.heap.size from M6.out.size)
  have FA0_6 := Lib.hid (FA0_5.out.below M6.out)
  have FX0_6 := Lib.hid (FX0_5.out.below M6.out)
  have FV0_6 := Lib.hid (FV0_5.out.below M6.out)
  clear hb6
  go_wp2_with fail
  go_ret
  exact ⟨rfl, by first | exact U6.out | exact bl_drewN U6.out _⟩
end Go.Proofs.Ytofjohkhhomldaa

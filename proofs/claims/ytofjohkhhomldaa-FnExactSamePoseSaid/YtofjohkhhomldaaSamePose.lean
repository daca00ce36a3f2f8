/-
  PROVED HERE: the walk of SamePose: the program and the reference agree. CONDITIONS: the arguments' cells lie in the world.
-/
import Derived.Test.YtofjohkhhomldaaPose
import Derived.Test.YtofjohkhhomldaaTouch
namespace Go.Proofs.Ytofjohkhhomldaa
open Go.RowKit

theorem SamePose_v (A : Option Addr) (n ca : Nat) (ps : List Pnt) (B : Option Addr) (m cb : Nat) (qs : List Pnt) (w : World) (hn : n ≤ 1048576) (hm : m ≤ 1048576) (hA : PI w A n ps) (hB : PI w B m qs) :
    Calls Try.prog 16 #[.slice A n ca, .slice B m cb] w fun e w' => e = .returned (.bool (spB ps qs)) ∧ Below w.heap.size w w' :=
  (SamePose_any A B n m ca cb ps qs w (by omega) (by omega) hA hB).mono fun _ _ ⟨he, k, hw⟩ => ⟨he, by rw [hw]; exact bl_drewN (Below.refl _ _) k⟩
theorem lSamePose_v (A : Option Addr) (n ca : Nat) (ps : List Pnt) (B : Option Addr) (m cb : Nat) (qs : List Pnt) (w : World) (hn : n ≤ 1048576) (hm : m ≤ 1048576) (hA : PI w A n ps) (hB : PI w B m qs) :
    Calls Try.prog 14 #[.slice A n ca, .slice B m cb] w fun e w' => e = .returned (.bool (spB ps qs)) ∧ Below w.heap.size w w' :=
  (lSamePose_any A B n m ca cb ps qs w (by omega) (by omega) hA hB).mono fun _ _ ⟨he, k, hw⟩ => ⟨he, by rw [hw]; exact bl_drewN (Below.refl _ _) k⟩
set_option maxHeartbeats 4000000 in
theorem law_SamePose (w : World) (A0 : Option Addr) (n0 c0 : Nat) (p0 : List Pnt) (hA0 : PI w A0 n0 p0) (hN0 : n0 ≤ maxLen) (A1 : Option Addr) (n1 c1 : Nat) (p1 : List Pnt) (hA1 : PI w A1 n1 p1) (hN1 : n1 ≤ maxLen) :
    Calls Try.prog 3 #[.slice A0 n0 c0, .slice A1 n1 c1] w fun e w' => e = .returned (.bool true) ∧ Below w.heap.size w w' := by
  obtain rfl : n0 = p0.length := hA0.1.symm
  obtain rfl : n1 = p1.length := hA1.1.symm
  by_cases hb0 : 1048576 < p0.length
  · clear hA0 hA1
    go_enter Try.func3, Try.ntmps3
    go_wp2_with fail
    refine (szP_no _ _ _ _ _ hN0 (by omega) (by omega) (by omega)).mono ?_
    rintro e w' ⟨rfl, rfl⟩
    go_wp2
    go_ret
    exact ⟨rfl, Below.refl _ _⟩
  by_cases hb1 : 1048576 < p0.length + p1.length
  · clear hA0 hA1
    go_enter Try.func3, Try.ntmps3
    go_wp2_with fail
    refine (szP_yes _ _ _ _ _ (by omega) (by omega)).mono ?_
    rintro e w' ⟨rfl, rfl⟩
    go_wp2_with fail
    refine (szP_no _ _ _ _ _ hN1 (by omega) (by omega) (by omega)).mono ?_
    rintro e w' ⟨rfl, rfl⟩
    go_wp2
    go_ret
    exact ⟨rfl, Below.refl _ _⟩
  have hm0 : p0.length ≤ 1048576 := by omega
  have hM0 : p0.length ≤ 1152921504606846976 := by omega
  have hm1 : p1.length ≤ 1048576 := by omega
  have hM1 : p1.length ≤ 1152921504606846976 := by omega
  have FA0_0 := Lib.hid (AP.mk hA0)
  have FA1_0 := Lib.hid (AP.mk hA1)
  clear hA0 hA1
  go_enter Try.func3, Try.ntmps3
  go_wp2_with fail
  refine (szP_yes _ _ _ _ _ (by omega) (by omega)).mono ?_
  rintro e w' ⟨rfl, rfl⟩
  go_wp2_with fail
  refine (szP_yes _ _ _ _ _ (by omega) (by omega)).mono ?_
  rintro e w' ⟨rfl, rfl⟩
  go_wp2_with fail
  refine (toPointS_any _ _ _ p0 _ hm0 (by with_reducible first | exact FA0_0.out.pi | exact (FA0_0.out.pi).drewN _)).mono ?_
  rintro e w1 ⟨T0, cT0, rfl, own1, hb1⟩
  have M1 := Lib.hid (show Below w.heap.size w w1 from by
    repeat (first | exact Below.refl _ _ | assumption | refine bl_drewN ?_ _ | refine Below.drew ?_ | refine bl_al ?_ _ | (refine Below.setCell ?_ (by simp <;> omega) _) | refine bl_tr ?_ (by assumption)))
  have U1 := Lib.hid (M1.out)
  have Z1 := Lib.hid (show w.heap.size ≤ w1.heap.size from M1.out.size)
  have FA0_1 := Lib.hid (FA0_0.out.below M1.out)
  have FA1_1 := Lib.hid (FA1_0.out.below M1.out)
  have FT0_1 := Lib.hid (show OP w1 w.heap.size w1.heap.size T0 p0.length cT0 p0 from OP.mk own1)
  clear own1 hb1
  go_wp2_with fail
  refine (toPointS_any _ _ _ p1 _ hm1 (by with_reducible first | exact FA1_1.out.pi | exact (FA1_1.out.pi).drewN _)).mono ?_
  rintro e w2 ⟨T1, cT1, rfl, own2, hb2⟩
  have M2 := Lib.hid (show Below w1.heap.size w1 w2 from by
    repeat (first | exact Below.refl _ _ | assumption | refine bl_drewN ?_ _ | refine Below.drew ?_ | refine bl_al ?_ _ | (refine Below.setCell ?_ (by simp <;> omega) _) | refine bl_tr ?_ (by assumption)))
  have U2 := Lib.hid (bl_tr U1.out M2.out)
  have Z2 := Lib.hid (show w1.heap.size ≤ w2.heap.size from M2.out.size)
  have FA0_2 := Lib.hid (FA0_1.out.below M2.out)
  have FA1_2 := Lib.hid (FA1_1.out.below M2.out)
  have FT0_2 := Lib.hid (FT0_1.out.below M2.out)
  have FT1_2 := Lib.hid (show OP w2 w1.heap.size w2.heap.size T1 p1.length cT1 p1 from OP.mk own2)
  clear own2 hb2
  go_wp2_with fail
  refine (lSamePose_v _ _ _ p0 _ _ _ p1 _ hm0 hm1 (by with_reducible first | exact FT0_2.out.pi | exact (FT0_2.out.pi).drewN _) (by with_reducible first | exact FT1_2.out.pi | exact (FT1_2.out.pi).drewN _)).mono ?_
  rintro e w3 ⟨rfl, hb3⟩
  have M3 := Lib.hid (show Below w2.heap.size w2 w3 from by
    repeat (first | exact Below.refl _ _ | assumption | refine bl_drewN ?_ _ | refine Below.drew ?_ | refine bl_al ?_ _ | (refine Below.setCell ?_ (by simp <;> omega) _) | refine bl_tr ?_ (by assumption)))
  have U3 := Lib.hid (bl_tr U2.out M3.out)
  have Z3 := Lib.hid (show w2.heap.size ≤ w3.heap.size from M3.out.size)
  have FA0_3 := Lib.hid (FA0_2.out.below M3.out)
  have FA1_3 := Lib.hid (FA1_2.out.below M3.out)
  have FT0_3 := Lib.hid (FT0_2.out.below M3.out)
  have FT1_3 := Lib.hid (FT1_2.out.below M3.out)
  clear hb3
  go_wp2_with fail
  refine (toPointS_any _ _ _ p0 _ hm0 (by with_reducible first | exact FA0_3.out.pi | exact (FA0_3.out.pi).drewN _)).mono ?_
  rintro e w4 ⟨X0, cX0, rfl, own4, hb4⟩
  have M4 := Lib.hid (show Below w3.heap.size w3 w4 from by
    repeat (first | exact Below.refl _ _ | assumption | refine bl_drewN ?_ _ | refine Below.drew ?_ | refine bl_al ?_ _ | (refine Below.setCell ?_ (by simp <;> omega) _) | refine bl_tr ?_ (by assumption)))
  have U4 := Lib.hid (bl_tr U3.out M4.out)
  have Z4 := Lib.hid (show w3.heap.size ≤ w4.heap.size from M4.out.size)
  have FA0_4 := Lib.hid (FA0_3.out.below M4.out)
  have FA1_4 := Lib.hid (FA1_3.out.below M4.out)
  have FX0_4 := Lib.hid (show OP w4 w3.heap.size w4.heap.size X0 p0.length cX0 p0 from OP.mk own4)
  clear own4 hb4
  go_wp2_with fail
  refine (toPointS_any _ _ _ p1 _ hm1 (by with_reducible first | exact FA1_4.out.pi | exact (FA1_4.out.pi).drewN _)).mono ?_
  rintro e w5 ⟨X1, cX1, rfl, own5, hb5⟩
  have M5 := Lib.hid (show Below w4.heap.size w4 w5 from by
    repeat (first | exact Below.refl _ _ | assumption | refine bl_drewN ?_ _ | refine Below.drew ?_ | refine bl_al ?_ _ | (refine Below.setCell ?_ (by simp <;> omega) _) | refine bl_tr ?_ (by assumption)))
  have U5 := Lib.hid (bl_tr U4.out M5.out)
  have Z5 := Lib.hid (show w4.heap.size ≤ w5.heap.size from M5.out.size)
  have FA0_5 := Lib.hid (FA0_4.out.below M5.out)
  have FA1_5 := Lib.hid (FA1_4.out.below M5.out)
  have FX0_5 := Lib.hid (FX0_4.out.below M5.out)
  have FX1_5 := Lib.hid (show OP w5 w4.heap.size w5.heap.size X1 p1.length cX1 p1 from OP.mk own5)
  clear own5 hb5
  go_wp2_with fail
  refine (SamePose_v _ _ _ p0 _ _ _ p1 _ hm0 hm1 (by with_reducible first | exact FX0_5.out.pi | exact (FX0_5.out.pi).drewN _) (by with_reducible first | exact FX1_5.out.pi | exact (FX1_5.out.pi).drewN _)).mono ?_
  rintro e w6 ⟨rfl, hb6⟩
  have M6 := Lib.hid (show Below w5.heap.size w5 w6 from by
    repeat (first | exact Below.refl _ _ | assumption | refine bl_drewN ?_ _ | refine Below.drew ?_ | refine bl_al ?_ _ | (refine Below.setCell ?_ (by simp <;> omega) _) | refine bl_tr ?_ (by assumption)))
  have U6 := Lib.hid (bl_tr U5.out M6.out)
  have Z6 := Lib.hid (show w5.heap.size ≤ w6.heap.size from M6.out.size)
  have FA0_6 := Lib.hid (FA0_5.out.below M6.out)
  have FA1_6 := Lib.hid (FA1_5.out.below M6.out)
  have FX0_6 := Lib.hid (FX0_5.out.below M6.out)
  have FX1_6 := Lib.hid (FX1_5.out.below M6.out)
  clear hb6
  go_wp2_with fail
  refine (toPointS_any _ _ _ p0 _ hm0 (by with_reducible first | exact FA0_6.out.pi | exact (FA0_6.out.pi).drewN _)).mono ?_
  rintro e w7 ⟨V0, cV0, rfl, own7, hb7⟩
  have M7 := Lib.hid (show Below w6.heap.size w6 w7 from by
    repeat (first | exact Below.refl _ _ | assumption | refine bl_drewN ?_ _ | refine Below.drew ?_ | refine bl_al ?_ _ | (refine Below.setCell ?_ (by simp <;> omega) _) | refine bl_tr ?_ (by assumption)))
  have U7 := Lib.hid (bl_tr U6.out M7.out)
  have Z7 := Lib.hid (show w6.heap.size ≤ w7.heap.size from M7.out.size)
  have FA0_7 := Lib.hid (FA0_6.out.below M7.out)
  have FA1_7 := Lib.hid (FA1_6.out.below M7.out)
  have FX0_7 := Lib.hid (FX0_6.out.below M7.out)
  have FX1_7 := Lib.hid (FX1_6.out.below M7.out)
  have FV0_7 := Lib.hid (show OP w7 w6.heap.size w7.heap.size V0 p0.length cV0 p0 from OP.mk own7)
  clear own7 hb7
  go_wp2_with fail
  refine (eqPointS_same _ _ _ _ _ (p0) _ hM0 (by with_reducible first | exact FX0_7.out.pi | exact (FX0_7.out.pi).drewN _) (by with_reducible first | exact FV0_7.out.pi | exact (FV0_7.out.pi).drewN _)).mono ?_
  rintro e w8 ⟨rfl, hb8⟩
  have M8 := Lib.hid (show Below w7.heap.size w7 w8 from by
    repeat (first | exact Below.refl _ _ | assumption | refine bl_drewN ?_ _ | refine Below.drew ?_ | refine bl_al ?_ _ | (refine Below.setCell ?_ (by simp <;> omega) _) | refine bl_tr ?_ (by assumption)))
  have U8 := Lib.hid (bl_tr U7.out M8.out)
  have Z8 := Lib.hid (show w7.heap.size ≤ w8.heap.size from M8.out.size)
  have FA0_8 := Lib.hid (FA0_7.out.below M8.out)
  have FA1_8 := Lib.hid (FA1_7.out.below M8.out)
  have FX0_8 := Lib.hid (FX0_7.out.below M8.out)
  have FX1_8 := Lib.hid (FX1_7.out.below M8.out)
  have FV0_8 := Lib.hid (FV0_7.out.below M8.out)
  clear hb8
  go_wp2_with fail
  refine (toPointS_any _ _ _ p1 _ hm1 (by with_reducible first | exact FA1_8.out.pi | exact (FA1_8.out.pi).drewN _)).mono ?_
  rintro e w9 ⟨V1, cV1, rfl, own9, hb9⟩
  have M9 := Lib.hid (show Below w8.heap.size w8 w9 from by
    repeat (first | exact Below.refl _ _ | assumption | refine bl_drewN ?_ _ | refine Below.drew ?_ | refine bl_al ?_ _ | (refine Below.setCell ?_ (by simp <;> omega) _) | refine bl_tr ?_ (by assumption)))
  have U9 := Lib.hid (bl_tr U8.out M9.out)
  have Z9 := Lib.hid (show w8.heap.size ≤ w9.heap.size from M9.out.size)
  have FA0_9 := Lib.hid (FA0_8.out.below M9.out)
  have FA1_9 := Lib.hid (FA1_8.out.below M9.out)
  have FX0_9 := Lib.hid (FX0_8.out.below M9.out)
  have FX1_9 := Lib.hid (FX1_8.out.below M9.out)
  have FV1_9 := Lib.hid (show OP w9 w8.heap.size w9.heap.size V1 p1.length cV1 p1 from OP.mk own9)
  clear own9 hb9
  go_wp2_with fail
  refine (eqPointS_same _ _ _ _ _ (p1) _ hM1 (by with_reducible first | exact FX1_9.out.pi | exact (FX1_9.out.pi).drewN _) (by with_reducible first | exact FV1_9.out.pi | exact (FV1_9.out.pi).drewN _)).mono ?_
  rintro e w10 ⟨rfl, hb10⟩
  have M10 := Lib.hid (show Below w9.heap.size w9 w10 from by
    repeat (first | exact Below.refl _ _ | assumption | refine bl_drewN ?_ _ | refine Below.drew ?_ | refine bl_al ?_ _ | (refine Below.setCell ?_ (by simp <;> omega) _) | refine bl_tr ?_ (by assumption)))
  have U10 := Lib.hid (bl_tr U9.out M10.out)
  have Z10 := Lib.hid (show w9.heap.size ≤ w10.heap.size from M10.out.size)
  have FA0_10 := Lib.hid (FA0_9.out.below M10.out)
  have FA1_10 := Lib.hid (FA1_9.out.below M10.out)
  have FX0_10 := Lib.hid (FX0_9.out.below M10.out)
  have FX1_10 := Lib.hid (FX1_9.out.below M10.out)
  have FV1_10 := Lib.hid (FV1_9.out.below M10.out)
  clear hb10
  go_wp2_with fail
  go_ret
  exact ⟨rfl, by first | exact U10.out | exact bl_drewN U10.out _⟩
end Go.Proofs.Ytofjohkhhomldaa

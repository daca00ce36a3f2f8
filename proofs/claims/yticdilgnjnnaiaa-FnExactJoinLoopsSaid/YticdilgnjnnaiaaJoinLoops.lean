/-
  PROVED HERE: the walk of JoinLoops: the program and the reference agree. CONDITIONS: the arguments' cells lie in the world.
-/
import Derived.Test.YticdilgnjnnaiaaJoinI
import Derived.Test.YticdilgnjnnaiaaJoinS
namespace Go.Proofs.Yticdilgnjnnaiaa
open Go.RowKit

set_option maxHeartbeats 4000000 in
theorem law_JoinLoops (w : World) (A0 : Option Addr) (n0 c0 : Nat) (p0 : List Int) (hA0 : RI w A0 n0 p0) (A1 : Option Addr) (n1 c1 : Nat) (p1 : List Int) (hA1 : RI w A1 n1 p1) :
    Calls Try.prog 7 #[.slice A0 n0 c0, .slice A1 n1 c1] w fun e w' => e = .returned (.bool true) ∧ Below w.heap.size w w' := by
  obtain rfl : n0 = p0.length := hA0.1.symm
  obtain rfl : n1 = p1.length := hA1.1.symm
  by_cases hb0 : 1048576 < p0.length
  · have hd0 : decide (1048576 < (p0.length : Int)) = true := by simp; omega
    clear hA0 hA1
    go_enter Try.func7, Try.ntmps7
    go_wp2
    go_ret
    exact ⟨rfl, Below.refl _ _⟩
  by_cases hb1 : 1048576 < p1.length
  · have hd1 : decide (1048576 < (p1.length : Int)) = true := by simp; omega
    have hd0 : decide (1048576 < (p0.length : Int)) = false := by simp; omega
    clear hA0 hA1
    go_enter Try.func7, Try.ntmps7
    go_wp2
    go_ret
    exact ⟨rfl, Below.refl _ _⟩
  have hm0 : p0.length ≤ 1048576 := by omega
  have hM0 : p0.length ≤ 1152921504606846976 := by omega
  have hm1 : p1.length ≤ 1048576 := by omega
  have hM1 : p1.length ≤ 1152921504606846976 := by omega
  have hr := jlX_le p0 p1
  have hR : Qbulk (jlX p0 p1) ≤ 1152921504606846976 := by omega
  have hRK : Qbulk (jlX p0 p1) ≤ 10000000 := by omega
  have hRc : Qcnt (jlX p0 p1) ≤ 20000000 := by have := Qcnt_le (jlX p0 p1); omega
  have FA0_0 := Lib.hid (AI.mk hA0)
  have FA1_0 := Lib.hid (AI.mk hA1)
  clear hA0 hA1
  go_enter Try.func7, Try.ntmps7
  go_wp2_with fail
  refine (toInt64S_any _ _ _ p0 _ hm0 (by with_reducible first | exact FA0_0.out.ri | exact (FA0_0.out.ri).drewN _)).mono ?_
  rintro e w1 ⟨T0, cT0, rfl, own1, hb1⟩
  have M1 := Lib.hid (show Below w.heap.size w w1 from by
    repeat (first | exact Below.refl _ _ | assumption | refine bl_drewN ?_ _ | refine Below.drew ?_ | refine bl_al ?_ _ | (refine Below.setCell ?_ (by simp <;> omega) _) | refine bl_tr ?_ (by assumption)))
  have U1 := Lib.hid (M1.out)
  have Z1 := Lib.hid (show w.heap.size ≤ w1.heap.size from M1.out.size)
  have FA0_1 := Lib.hid (FA0_0.out.below M1.out)
  have FA1_1 := Lib.hid (FA1_0.out.below M1.out)
  have FT0_1 := Lib.hid (show OI w1 w.heap.size w1.heap.size T0 p0.length cT0 p0 from OI.mk own1)
  clear own1 hb1
  go_wp2_with fail
  refine (toInt64S_any _ _ _ p1 _ hm1 (by with_reducible first | exact FA1_1.out.ri | exact (FA1_1.out.ri).drewN _)).mono ?_
  rintro e w2 ⟨T1, cT1, rfl, own2, hb2⟩
  have M2 := Lib.hid (show Below w1.heap.size w1 w2 from by
    repeat (first | exact Below.refl _ _ | assumption | refine bl_drewN ?_ _ | refine Below.drew ?_ | refine bl_al ?_ _ | (refine Below.setCell ?_ (by simp <;> omega) _) | refine bl_tr ?_ (by assumption)))
  have U2 := Lib.hid (bl_tr U1.out M2.out)
  have Z2 := Lib.hid (show w1.heap.size ≤ w2.heap.size from M2.out.size)
  have FA0_2 := Lib.hid (FA0_1.out.below M2.out)
  have FA1_2 := Lib.hid (FA1_1.out.below M2.out)
  have FT0_2 := Lib.hid (FT0_1.out.below M2.out)
  have FT1_2 := Lib.hid (show OI w2 w1.heap.size w2.heap.size T1 p1.length cT1 p1 from OI.mk own2)
  clear own2 hb2
  go_wp2_with fail
  refine (lJoinLoops_v _ _ _ p0 _ _ _ p1 _ hm0 hm1 (by with_reducible first | exact FT0_2.out.ri | exact (FT0_2.out.ri).drewN _) (by with_reducible first | exact FT1_2.out.ri | exact (FT1_2.out.ri).drewN _)).mono ?_
  rintro e w3 ⟨W0, cW0, rfl, own3, hb3⟩
  have M3 := Lib.hid (show Below w2.heap.size w2 w3 from by
    repeat (first | exact Below.refl _ _ | assumption | refine bl_drewN ?_ _ | refine Below.drew ?_ | refine bl_al ?_ _ | (refine Below.setCell ?_ (by simp <;> omega) _) | refine bl_tr ?_ (by assumption)))
  have U3 := Lib.hid (bl_tr U2.out M3.out)
  have Z3 := Lib.hid (show w2.heap.size ≤ w3.heap.size from M3.out.size)
  have FA0_3 := Lib.hid (FA0_2.out.below M3.out)
  have FA1_3 := Lib.hid (FA1_2.out.below M3.out)
  have FT0_3 := Lib.hid (FT0_2.out.below M3.out)
  have FT1_3 := Lib.hid (FT1_2.out.below M3.out)
  have FW0_3 := Lib.hid (show OWQ w3 w2.heap.size w3.heap.size W0 (jlX p0 p1).length cW0 (jlX p0 p1) from OWQ.mk own3)
  clear own3 hb3
  go_wp2_with fail
  refine (toInt64S_any _ _ _ p0 _ hm0 (by with_reducible first | exact FA0_3.out.ri | exact (FA0_3.out.ri).drewN _)).mono ?_
  rintro e w4 ⟨X0, cX0, rfl, own4, hb4⟩
  have M4 := Lib.hid (show Below w3.heap.size w3 w4 from by
    repeat (first | exact Below.refl _ _ | assumption | refine bl_drewN ?_ _ | refine Below.drew ?_ | refine bl_al ?_ _ | (refine Below.setCell ?_ (by simp <;> omega) _) | refine bl_tr ?_ (by assumption)))
  have U4 := Lib.hid (bl_tr U3.out M4.out)
  have Z4 := Lib.hid (show w3.heap.size ≤ w4.heap.size from M4.out.size)
  have FA0_4 := Lib.hid (FA0_3.out.below M4.out)
  have FA1_4 := Lib.hid (FA1_3.out.below M4.out)
  have FW0_4 := Lib.hid (FW0_3.out.below M4.out)
  have FX0_4 := Lib.hid (show OI w4 w3.heap.size w4.heap.size X0 p0.length cX0 p0 from OI.mk own4)
  clear own4 hb4
  go_wp2_with fail
  refine (toInt64S_any _ _ _ p1 _ hm1 (by with_reducible first | exact FA1_4.out.ri | exact (FA1_4.out.ri).drewN _)).mono ?_
  rintro e w5 ⟨X1, cX1, rfl, own5, hb5⟩
  have M5 := Lib.hid (show Below w4.heap.size w4 w5 from by
    repeat (first | exact Below.refl _ _ | assumption | refine bl_drewN ?_ _ | refine Below.drew ?_ | refine bl_al ?_ _ | (refine Below.setCell ?_ (by simp <;> omega) _) | refine bl_tr ?_ (by assumption)))
  have U5 := Lib.hid (bl_tr U4.out M5.out)
  have Z5 := Lib.hid (show w4.heap.size ≤ w5.heap.size from M5.out.size)
  have FA0_5 := Lib.hid (FA0_4.out.below M5.out)
  have FA1_5 := Lib.hid (FA1_4.out.below M5.out)
  have FW0_5 := Lib.hid (FW0_4.out.below M5.out)
  have FX0_5 := Lib.hid (FX0_4.out.below M5.out)
  have FX1_5 := Lib.hid (show OI w5 w4.heap.size w5.heap.size X1 p1.length cX1 p1 from OI.mk own5)
  clear own5 hb5
  go_wp2_with fail
  refine (JoinLoops_v _ _ _ p0 _ _ _ p1 _ hm0 hm1 (by with_reducible first | exact FX0_5.out.ri | exact (FX0_5.out.ri).drewN _) (by with_reducible first | exact FX1_5.out.ri | exact (FX1_5.out.ri).drewN _)).mono ?_
  rintro e w6 ⟨G0, cG0, rfl, own6, hb6⟩
  have M6 := Lib.hid (show Below w5.heap.size w5 w6 from by
    repeat (first | exact Below.refl _ _ | assumption | refine bl_drewN ?_ _ | refine Below.drew ?_ | refine bl_al ?_ _ | (refine Below.setCell ?_ (by simp <;> omega) _) | refine bl_tr ?_ (by assumption)))
  have U6 := Lib.hid (bl_tr U5.out M6.out)
  have Z6 := Lib.hid (show w5.heap.size ≤ w6.heap.size from M6.out.size)
  have FA0_6 := Lib.hid (FA0_5.out.below M6.out)
  have FA1_6 := Lib.hid (FA1_5.out.below M6.out)
  have FW0_6 := Lib.hid (FW0_5.out.below M6.out)
  have FX0_6 := Lib.hid (FX0_5.out.below M6.out)
  have FX1_6 := Lib.hid (FX1_5.out.below M6.out)
  have FG0_6 := Lib.hid (show OWQ w6 w5.heap.size w6.heap.size G0 (jlX p0 p1).length cG0 (jlX p0 p1) from OWQ.mk own6)
  clear own6 hb6
  go_wp2_with fail
  refine (eqInt64SS_same _ _ _ _ _ (jlX p0 p1) _ hR (by with_reducible first | exact FG0_6.out.ki | exact (FG0_6.out.ki).drewN _) (by with_reducible first | exact FW0_6.out.ki | exact (FW0_6.out.ki).drewN _)).mono ?_
  rintro e w7 ⟨rfl, hb7⟩
  have M7 := Lib.hid (show Below w6.heap.size w6 w7 from by
    repeat (first | exact Below.refl _ _ | assumption | refine bl_drewN ?_ _ | refine Below.drew ?_ | refine bl_al ?_ _ | (refine Below.setCell ?_ (by simp <;> omega) _) | refine bl_tr ?_ (by assumption)))
  have U7 := Lib.hid (bl_tr U6.out M7.out)
  have Z7 := Lib.hid (show w6.heap.size ≤ w7.heap.size from M7.out.size)
  have FA0_7 := Lib.hid (FA0_6.out.below M7.out)
  have FA1_7 := Lib.hid (FA1_6.out.below M7.out)
  have FW0_7 := Lib.hid (FW0_6.out.below M7.out)
  have FX0_7 := Lib.hid (FX0_6.out.below M7.out)
  have FX1_7 := Lib.hid (FX1_6.out.below M7.out)
  have FG0_7 := Lib.hid (FG0_6.out.below M7.out)
  clear hb7
  go_wp2_with fail
  refine (toInt64S_any _ _ _ p0 _ hm0 (by with_reducible first | exact FA0_7.out.ri | exact (FA0_7.out.ri).drewN _)).mono ?_
  rintro e w8 ⟨V0, cV0, rfl, own8, hb8⟩
  have M8 := Lib.hid (show Below w7.heap.size w7 w8 from by
    repeat (first | exact Below.refl _ _ | assumption | refine bl_drewN ?_ _ | refine Below.drew ?_ | refine bl_al ?_ _ | (refine Below.setCell ?_ (by simp <;> omega) _) | refine bl_tr ?_ (by assumption)))
  have U8 := Lib.hid (bl_tr U7.out M8.out)
  have Z8 := Lib.hid (show w7.heap.size ≤ w8.heap.size from M8.out.size)
  have FA0_8 := Lib.hid (FA0_7.out.below M8.out)
  have FA1_8 := Lib.hid (FA1_7.out.below M8.out)
  have FW0_8 := Lib.hid (FW0_7.out.below M8.out)
  have FX0_8 := Lib.hid (FX0_7.out.below M8.out)
  have FX1_8 := Lib.hid (FX1_7.out.below M8.out)
  have FG0_8 := Lib.hid (FG0_7.out.below M8.out)
  have FV0_8 := Lib.hid (show OI w8 w7.heap.size w8.heap.size V0 p0.length cV0 p0 from OI.mk own8)
  clear own8 hb8
  go_wp2_with fail
  refine (eqInt64S_same _ _ _ _ _ (p0) _ hM0 (by with_reducible first | exact FX0_8.out.ri | exact (FX0_8.out.ri).drewN _) (by with_reducible first | exact FV0_8.out.ri | exact (FV0_8.out.ri).drewN _)).mono ?_
  rintro e w' ⟨rfl, k1, rfl⟩
  go_wp2_with fail
  refine (toInt64S_any _ _ _ p1 _ hm1 (by with_reducible first | exact FA1_8.out.ri | exact (FA1_8.out.ri).drewN _)).mono ?_
  rintro e w9 ⟨V1, cV1, rfl, own9, hb9⟩
  have M9 := Lib.hid (show Below w8.heap.size w8 w9 from by
    repeat (first | exact Below.refl _ _ | assumption | refine bl_drewN ?_ _ | refine Below.drew ?_ | refine bl_al ?_ _ | (refine Below.setCell ?_ (by simp <;> omega) _) | refine bl_tr ?_ (by assumption)))
  have U9 := Lib.hid (bl_tr U8.out M9.out)
  have Z9 := Lib.hid (show w8.heap.size ≤ w9.heap.size from M9.out.size)
  have FA0_9 := Lib.hid (FA0_8.out.below M9.out)
  have FA1_9 := Lib.hid (FA1_8.out.below M9.out)
  have FW0_9 := Lib.hid (FW0_8.out.below M9.out)
  have FX0_9 := Lib.hid (FX0_8.out.below M9.out)
  have FX1_9 := Lib.hid (FX1_8.out.below M9.out)
  have FG0_9 := Lib.hid (FG0_8.out.below M9.out)
  have FV1_9 := Lib.hid (show OI w9 w8.heap.size w9.heap.size V1 p1.length cV1 p1 from OI.mk own9)
  clear own9 hb9
  go_wp2_with fail
  refine (eqInt64S_same _ _ _ _ _ (p1) _ hM1 (by with_reducible first | exact FX1_9.out.ri | exact (FX1_9.out.ri).drewN _) (by with_reducible first | exact FV1_9.out.ri | exact (FV1_9.out.ri).drewN _)).mono ?_
  rintro e w' ⟨rfl, k2, rfl⟩
  have kp10 : (0 : Int) ≤ 1 := by omega
  have kq10 : (1 : Int) ≤ 1152921504606846976 := by omega
  go_wp2_with fail
  refine (markInt64S_any _ _ _ _ _ (1) _ hM0 kp10 kq10 (by with_reducible first | exact FX0_9.out.own | exact own_drewN FX0_9.out.own _)).mono ?_
  rintro e w10 ⟨rfl, own10, hg10⟩
  have T10 := Lib.hid (show Touch w3.heap.size w4.heap.size w9 w10 from by first | exact Touch.of_grown hg10 (fun k hk => ⟨(FX0_9.out.1.lt k hk).1, FX0_9.out.2 k hk⟩) | exact (Touch.of_grown hg10 (fun k hk => ⟨(FX0_9.out.1.lt k hk).1, FX0_9.out.2 k hk⟩)).drewN)
  have Z10 := Lib.hid (show w9.heap.size ≤ w10.heap.size from T10.out.size)
  have U10 := Lib.hid (T10.out.below U9.out (Nat.le_trans (Nat.le_trans Z1.out Z2.out) Z3.out) (Nat.le_trans (Nat.le_trans (Nat.le_trans (Nat.le_trans (Nat.le_trans (Nat.le_trans (Nat.le_trans (Nat.le_trans Z1.out Z2.out) Z3.out) Z4.out) Z5.out) Z6.out) Z7.out) Z8.out) Z9.out))
  have FA0_10 := Lib.hid (FA0_9.out.touch T10.out (Nat.le_trans (Nat.le_trans Z1.out Z2.out) Z3.out))
  have FA1_10 := Lib.hid (FA1_9.out.touch T10.out (Nat.le_trans (Nat.le_trans Z1.out Z2.out) Z3.out))
  have FW0_10 := Lib.hid (FW0_9.out.touch T10.out (.inl (Nat.le_refl _)))
  have FX1_10 := Lib.hid (FX1_9.out.touch T10.out (.inr (Nat.le_refl _)))
  have FG0_10 := Lib.hid (FG0_9.out.touch T10.out (.inr Z5.out))
  clear own10 hg10
  have kp11 : (0 : Int) ≤ 1 + p0.length := by omega
  have kq11 : (1 + p0.length : Int) ≤ 1152921504606846976 := by omega
  go_wp2_with fail
  refine (markInt64S_any _ _ _ _ _ (1 + p0.length) _ hM1 kp11 kq11 (by with_reducible first | exact FX1_10.out.own | exact own_drewN FX1_10.out.own _)).mono ?_
  rintro e w11 ⟨rfl, own11, hg11⟩
  have T11 := Lib.hid (show Touch w4.heap.size w5.heap.size w10 w11 from by first | exact Touch.of_grown hg11 (fun k hk => ⟨(FX1_10.out.1.lt k hk).1, FX1_10.out.2 k hk⟩) | exact (Touch.of_grown hg11 (fun k hk => ⟨(FX1_10.out.1.lt k hk).1, FX1_10.out.2 k hk⟩)).drewN)
  have Z11 := Lib.hid (show w10.heap.size ≤ w11.heap.size from T11.out.size)
  have U11 := Lib.hid (T11.out.below U10.out (Nat.le_trans (Nat.le_trans (Nat.le_trans Z1.out Z2.out) Z3.out) Z4.out) (Nat.le_trans (Nat.le_trans (Nat.le_trans (Nat.le_trans (Nat.le_trans (Nat.le_trans (Nat.le_trans (Nat.le_trans (Nat.le_trans Z1.out Z2.out) Z3.out) Z4.out) Z5.out) Z6.out) Z7.out) Z8.out) Z9.out) Z10.out))
  have FA0_11 := Lib.hid (FA0_10.out.touch T11.out (Nat.le_trans (Nat.le_trans (Nat.le_trans Z1.out Z2.out) Z3.out) Z4.out))
  have FA1_11 := Lib.hid (FA1_10.out.touch T11.out (Nat.le_trans (Nat.le_trans (Nat.le_trans Z1.out Z2.out) Z3.out) Z4.out))
  have FW0_11 := Lib.hid (FW0_10.out.touch T11.out (.inl Z4.out))
  have FG0_11 := Lib.hid (FG0_10.out.touch T11.out (.inr (Nat.le_refl _)))
  clear own11 hg11
  have kr : (0 : Int) ≤ 1 + p0.length + p1.length := by omega
  go_wp2_with fail
  refine (eqInt64SS_same _ _ _ _ _ (jlX p0 p1) _ hR (by with_reducible first | exact FG0_11.out.ki | exact (FG0_11.out.ki).drewN _) (by with_reducible first | exact FW0_11.out.ki | exact (FW0_11.out.ki).drewN _)).mono ?_
  rintro e w12 ⟨rfl, hb12⟩
  have M12 := Lib.hid (show Below w11.heap.size w11 w12 from by
    repeat (first | exact Below.refl _ _ | assumption | refine bl_drewN ?_ _ | refine Below.drew ?_ | refine bl_al ?_ _ | (refine Below.setCell ?_ (by simp <;> omega) _) | refine bl_tr ?_ (by assumption)))
  have U12 := Lib.hid (bl_tr U11.out M12.out)
  have Z12 := Lib.hid (show w11.heap.size ≤ w12.heap.size from M12.out.size)
  have FA0_12 := Lib.hid (FA0_11.out.below M12.out)
  have FA1_12 := Lib.hid (FA1_11.out.below M12.out)
  have FW0_12 := Lib.hid (FW0_11.out.below M12.out)
  have FG0_12 := Lib.hid (FG0_11.out.below M12.out)
  clear hb12
  have kp13 : (0 : Int) ≤ 1 := by omega
  have kq13 : (1 : Int) ≤ 1000000000 := by omega
  go_wp2_with fail
  refine (markInt64SS_any _ _ _ _ _ (1) (jlX p0 p1) _ hRK kp13 kq13 (by with_reducible first | exact FG0_12.out | exact FG0_12.out.drewN _)).mono ?_
  rintro e w13 ⟨rfl, own13, hg13⟩
  have T13 := Lib.hid (show Touch w5.heap.size w6.heap.size w12 w13 from by first | exact hg13 | exact hg13.drewN)
  have Z13 := Lib.hid (show w12.heap.size ≤ w13.heap.size from T13.out.size)
  have U13 := Lib.hid (T13.out.below U12.out (Nat.le_trans (Nat.le_trans (Nat.le_trans (Nat.le_trans Z1.out Z2.out) Z3.out) Z4.out) Z5.out) (Nat.le_trans (Nat.le_trans (Nat.le_trans (Nat.le_trans (Nat.le_trans (Nat.le_trans (Nat.le_trans (Nat.le_trans (Nat.le_trans (Nat.le_trans (Nat.le_trans Z1.out Z2.out) Z3.out) Z4.out) Z5.out) Z6.out) Z7.out) Z8.out) Z9.out) Z10.out) Z11.out) Z12.out))
  have FA0_13 := Lib.hid (FA0_12.out.touch T13.out (Nat.le_trans (Nat.le_trans (Nat.le_trans (Nat.le_trans Z1.out Z2.out) Z3.out) Z4.out) Z5.out))
  have FA1_13 := Lib.hid (FA1_12.out.touch T13.out (Nat.le_trans (Nat.le_trans (Nat.le_trans (Nat.le_trans Z1.out Z2.out) Z3.out) Z4.out) Z5.out))
  have FW0_13 := Lib.hid (FW0_12.out.touch T13.out (.inl (Nat.le_trans Z4.out Z5.out)))
  have FG0_13 := Lib.hid (show OWQ w13 w5.heap.size w6.heap.size G0 (jlX p0 p1).length cG0 (mkQQ (1) (jlX p0 p1)) from own13)
  clear own13 hg13
  have ks : (0 : Int) ≤ 1 + (Qcnt (jlX p0 p1) : Nat) := by omega
  go_wp2_with fail
  refine (heldInt64SS_same (jlX p0 p1) _ _ _ 1 _ hRK (by omega) (by omega) (by with_reducible first | exact FG0_13.out.ki | exact (FG0_13.out.ki).drewN _)).mono ?_
  rintro e w' ⟨rfl, k3, rfl⟩
  go_wp2_with fail
  refine (toInt64S_any _ _ _ p0 _ hm0 (by with_reducible first | exact FA0_13.out.ri | exact (FA0_13.out.ri).drewN _)).mono ?_
  rintro e w14 ⟨Y0, cY0, rfl, own14, hb14⟩
  have M14 := Lib.hid (show Below w13.heap.size w13 w14 from by
    repeat (first | exact Below.refl _ _ | assumption | refine bl_drewN ?_ _ | refine Below.drew ?_ | refine bl_al ?_ _ | (refine Below.setCell ?_ (by simp <;> omega) _) | refine bl_tr ?_ (by assumption)))
  have U14 := Lib.hid (bl_tr U13.out M14.out)
  have Z14 := Lib.hid (show w13.heap.size ≤ w14.heap.size from M14.out.size)
  have FA0_14 := Lib.hid (FA0_13.out.below M14.out)
  have FA1_14 := Lib.hid (FA1_13.out.below M14.out)
  have FW0_14 := Lib.hid (FW0_13.out.below M14.out)
  have FG0_14 := Lib.hid (FG0_13.out.below M14.out)
  have FY0_14 := Lib.hid (show OI w14 w13.heap.size w14.heap.size Y0 p0.length cY0 p0 from OI.mk own14)
  clear own14 hb14
  go_wp2_with fail
  refine (toInt64S_any _ _ _ p1 _ hm1 (by with_reducible first | exact FA1_14.out.ri | exact (FA1_14.out.ri).drewN _)).mono ?_
  rintro e w15 ⟨Y1, cY1, rfl, own15, hb15⟩
  have M15 := Lib.hid (show Below w14.heap.size w14 w15 from by
    repeat (first | exact Below.refl _ _ | assumption | refine bl_drewN ?_ _ | refine Below.drew ?_ | refine bl_al ?_ _ | (refine Below.setCell ?_ (by simp <;> omega) _) | refine bl_tr ?_ (by assumption)))
  have U15 := Lib.hid (bl_tr U14.out M15.out)
  have Z15 := Lib.hid (show w14.heap.size ≤ w15.heap.size from M15.out.size)
  have FA0_15 := Lib.hid (FA0_14.out.below M15.out)
  have FA1_15 := Lib.hid (FA1_14.out.below M15.out)
  have FW0_15 := Lib.hid (FW0_14.out.below M15.out)
  have FG0_15 := Lib.hid (FG0_14.out.below M15.out)
  have FY0_15 := Lib.hid (FY0_14.out.below M15.out)
  have FY1_15 := Lib.hid (show OI w15 w14.heap.size w15.heap.size Y1 p1.length cY1 p1 from OI.mk own15)
  clear own15 hb15
  go_wp2_with fail
  refine (JoinLoops_v _ _ _ p0 _ _ _ p1 _ hm0 hm1 (by with_reducible first | exact FY0_15.out.ri | exact (FY0_15.out.ri).drewN _) (by with_reducible first | exact FY1_15.out.ri | exact (FY1_15.out.ri).drewN _)).mono ?_
  rintro e w16 ⟨H0, cH0, rfl, own16, hb16⟩
  have M16 := Lib.hid (show Below w15.heap.size w15 w16 from by
    repeat (first | exact Below.refl _ _ | assumption | refine bl_drewN ?_ _ | refine Below.drew ?_ | refine bl_al ?_ _ | (refine Below.setCell ?_ (by simp <;> omega) _) | refine bl_tr ?_ (by assumption)))
  have U16 := Lib.hid (bl_tr U15.out M16.out)
  have Z16 := Lib.hid (show w15.heap.size ≤ w16.heap.size from M16.out.size)
  have FA0_16 := Lib.hid (FA0_15.out.below M16.out)
  have FA1_16 := Lib.hid (FA1_15.out.below M16.out)
  have FW0_16 := Lib.hid (FW0_15.out.below M16.out)
  have FG0_16 := Lib.hid (FG0_15.out.below M16.out)
  have FY0_16 := Lib.hid (FY0_15.out.below M16.out)
  have FY1_16 := Lib.hid (FY1_15.out.below M16.out)
  have FH0_16 := Lib.hid (show OWQ w16 w15.heap.size w16.heap.size H0 (jlX p0 p1).length cH0 (jlX p0 p1) from OWQ.mk own16)
  clear own16 hb16
  go_wp2_with fail
  refine (eqInt64SS_same _ _ _ _ _ (jlX p0 p1) _ hR (by with_reducible first | exact FH0_16.out.ki | exact (FH0_16.out.ki).drewN _) (by with_reducible first | exact FW0_16.out.ki | exact (FW0_16.out.ki).drewN _)).mono ?_
  rintro e w17 ⟨rfl, hb17⟩
  have M17 := Lib.hid (show Below w16.heap.size w16 w17 from by
    repeat (first | exact Below.refl _ _ | assumption | refine bl_drewN ?_ _ | refine Below.drew ?_ | refine bl_al ?_ _ | (refine Below.setCell ?_ (by simp <;> omega) _) | refine bl_tr ?_ (by assumption)))
  have U17 := Lib.hid (bl_tr U16.out M17.out)
  have Z17 := Lib.hid (show w16.heap.size ≤ w17.heap.size from M17.out.size)
  have FA0_17 := Lib.hid (FA0_16.out.below M17.out)
  have FA1_17 := Lib.hid (FA1_16.out.below M17.out)
  have FW0_17 := Lib.hid (FW0_16.out.below M17.out)
  have FG0_17 := Lib.hid (FG0_16.out.below M17.out)
  have FY0_17 := Lib.hid (FY0_16.out.below M17.out)
  have FY1_17 := Lib.hid (FY1_16.out.below M17.out)
  have FH0_17 := Lib.hid (FH0_16.out.below M17.out)
  clear hb17
  go_wp2_with fail
  refine (heldInt64SS_same (jlX p0 p1) _ _ _ 1 _ hRK (by omega) (by omega) (by with_reducible first | exact FG0_17.out.ki | exact (FG0_17.out.ki).drewN _)).mono ?_
  rintro e w' ⟨rfl, k4, rfl⟩
  go_wp2_with fail
  go_ret
  exact ⟨rfl, by first | exact U17.out | exact bl_drewN U17.out _⟩
end Go.Proofs.Yticdilgnjnnaiaa

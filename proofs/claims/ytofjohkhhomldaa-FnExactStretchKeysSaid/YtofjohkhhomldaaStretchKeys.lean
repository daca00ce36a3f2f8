/-
  PROVED HERE: the walk of StretchKeys: the program and the reference agree. CONDITIONS: the arguments' cells lie in the world.
-/
import Derived.Test.YtofjohkhhomldaaStretchI
import Derived.Test.YtofjohkhhomldaaStretchS
namespace Go.Proofs.Ytofjohkhhomldaa
open Go.RowKit

set_option maxHeartbeats 4000000 in
theorem law_StretchKeys (w : World) (A0 : Option Addr) (n0 c0 : Nat) (p0 : List Key) (hA0 : KI w A0 n0 p0) (hN0 : KBd n0 p0) (y : Int) (_wy : (Lit.int .i64 y).wf = true) :
    Calls Try.prog 9 #[.slice A0 n0 c0, .int .i64 y] w fun e w' => e = .returned (.bool true) ∧ Below w.heap.size w w' := by
  obtain rfl : n0 = p0.length := hA0.1.symm
  by_cases hb0 : 1048576 < kbulk p0
  · skip
    have HA0 := Lib.hid hA0
    clear hA0
    go_enter Try.func9, Try.ntmps9
    go_wp2_with fail
    refine (szK_no _ _ _ p0 _ (by omega) HA0.out hN0).mono ?_
    rintro e w1 ⟨rfl, hb1⟩
    go_wp2
    go_ret
    exact ⟨rfl, hb1⟩
  have hm0 : kbulk p0 ≤ 1048576 := by omega
  have hM0 : kbulk p0 ≤ 1152921504606846976 := by omega
  have hK0 : kbulk p0 ≤ 10000000 := by omega
  have hc0 : kcnt p0 ≤ 2097152 := by have := kcnt_le p0; omega
  have hr := skX_le p0 y
  have hR : kbulk (skX p0 y) ≤ 1152921504606846976 := by omega
  have hRK : kbulk (skX p0 y) ≤ 10000000 := by omega
  have hRc : kcnt (skX p0 y) ≤ 20000000 := by have := kcnt_le (skX p0 y); omega
  have FA0_0 := Lib.hid (AK.mk hA0)
  clear hA0
  go_enter Try.func9, Try.ntmps9
  go_wp2_with fail
  refine (szK_yes _ _ _ p0 _ (by omega) (by with_reducible first | exact FA0_0.out.ki | exact (FA0_0.out.ki).drewN _)).mono ?_
  rintro e w1 ⟨rfl, hb1⟩
  have M1 := Lib.hid (show Below w.heap.size w w1 from by
    repeat (first | exact Below.refl _ _ | assumption | refine bl_drewN ?_ _ | refine Below.drew ?_ | refine bl_al ?_ _ | (refine Below.setCell ?_ (by simp <;> omega) _) | refine bl_tr ?_ (by assumption)))
  have U1 := Lib.hid (M1.out)
  have Z1 := Lib.hid (show w.heap.size ≤ w1.heap.size from M1.out.size)
  have FA0_1 := Lib.hid (FA0_0.out.below M1.out)
  clear hb1
  go_wp2_with fail
  refine (toKeyPoseS_any _ _ _ p0 _ (by omega) (by with_reducible first | exact FA0_1.out.ki | exact (FA0_1.out.ki).drewN _)).mono ?_
  rintro e w2 ⟨T0, cT0, rfl, own2, hb2⟩
  have M2 := Lib.hid (show Below w1.heap.size w1 w2 from by
    repeat (first | exact Below.refl _ _ | assumption | refine bl_drewN ?_ _ | refine Below.drew ?_ | refine bl_al ?_ _ | (refine Below.setCell ?_ (by simp <;> omega) _) | refine bl_tr ?_ (by assumption)))
  have U2 := Lib.hid (bl_tr U1.out M2.out)
  have Z2 := Lib.hid (show w1.heap.size ≤ w2.heap.size from M2.out.size)
  have FA0_2 := Lib.hid (FA0_1.out.below M2.out)
  have FT0_2 := Lib.hid (show OK w2 w1.heap.size w2.heap.size T0 p0.length cT0 p0 from OK.mk own2)
  clear own2 hb2
  go_wp2_with fail
  refine (lStretchKeys_v _ _ _ p0 y _ hm0 (by with_reducible first | exact FT0_2.out.ki | exact (FT0_2.out.ki).drewN _)).mono ?_
  rintro e w3 ⟨W0, cW0, rfl, own3, hb3⟩
  have M3 := Lib.hid (show Below w2.heap.size w2 w3 from by
    repeat (first | exact Below.refl _ _ | assumption | refine bl_drewN ?_ _ | refine Below.drew ?_ | refine bl_al ?_ _ | (refine Below.setCell ?_ (by simp <;> omega) _) | refine bl_tr ?_ (by assumption)))
  have U3 := Lib.hid (bl_tr U2.out M3.out)
  have Z3 := Lib.hid (show w2.heap.size ≤ w3.heap.size from M3.out.size)
  have FA0_3 := Lib.hid (FA0_2.out.below M3.out)
  have FT0_3 := Lib.hid (FT0_2.out.below M3.out)
  have FW0_3 := Lib.hid (show OK w3 w2.heap.size w3.heap.size W0 (skX p0 y).length cW0 (skX p0 y) from OK.mk own3)
  clear own3 hb3
  go_wp2_with fail
  refine (toKeyPoseS_any _ _ _ p0 _ (by omega) (by with_reducible first | exact FA0_3.out.ki | exact (FA0_3.out.ki).drewN _)).mono ?_
  rintro e w4 ⟨X0, cX0, rfl, own4, hb4⟩
  have M4 := Lib.hid (show Below w3.heap.size w3 w4 from by
    repeat (first | exact Below.refl _ _ | assumption | refine bl_drewN ?_ _ | refine Below.drew ?_ | refine bl_al ?_ _ | (refine Below.setCell ?_ (by simp <;> omega) _) | refine bl_tr ?_ (by assumption)))
  have U4 := Lib.hid (bl_tr U3.out M4.out)
  have Z4 := Lib.hid (show w3.heap.size ≤ w4.heap.size from M4.out.size)
  have FA0_4 := Lib.hid (FA0_3.out.below M4.out)
  have FW0_4 := Lib.hid (FW0_3.out.below M4.out)
  have FX0_4 := Lib.hid (show OK w4 w3.heap.size w4.heap.size X0 p0.length cX0 p0 from OK.mk own4)
  clear own4 hb4
  go_wp2_with fail
  refine (StretchKeys_v _ _ _ p0 y _ hm0 (by with_reducible first | exact FX0_4.out.ki | exact (FX0_4.out.ki).drewN _)).mono ?_
  rintro e w5 ⟨G0, cG0, rfl, own5, hb5⟩
  have M5 := Lib.hid (show Below w4.heap.size w4 w5 from by
    repeat (first | exact Below.refl _ _ | assumption | refine bl_drewN ?_ _ | refine Below.drew ?_ | refine bl_al ?_ _ | (refine Below.setCell ?_ (by simp <;> omega) _) | refine bl_tr ?_ (by assumption)))
  have U5 := Lib.hid (bl_tr U4.out M5.out)
  have Z5 := Lib.hid (show w4.heap.size ≤ w5.heap.size from M5.out.size)
  have FA0_5 := Lib.hid (FA0_4.out.below M5.out)
  have FW0_5 := Lib.hid (FW0_4.out.below M5.out)
  have FX0_5 := Lib.hid (FX0_4.out.below M5.out)
  have FG0_5 := Lib.hid (show OK w5 w4.heap.size w5.heap.size G0 (skX p0 y).length cG0 (skX p0 y) from OK.mk own5)
  clear own5 hb5
  go_wp2_with fail
  refine (eqKeyPoseS_same _ _ _ _ _ (skX p0 y) _ hR (by with_reducible first | exact FG0_5.out.ki | exact (FG0_5.out.ki).drewN _) (by with_reducible first | exact FW0_5.out.ki | exact (FW0_5.out.ki).drewN _)).mono ?_
  rintro e w6 ⟨rfl, hb6⟩
  have M6 := Lib.hid (show Below w5.heap.size w5 w6 from by
    repeat (first | exact Below.refl _ _ | assumption | refine bl_drewN ?_ _ | refine Below.drew ?_ | refine bl_al ?_ _ | (refine Below.setCell ?_ (by simp <;> omega) _) | refine bl_tr ?_ (by assumption)))
  have U6 := Lib.hid (bl_tr U5.out M6.out)
  have Z6 := Lib.hid (show w5.heap.size ≤ w6.heap.size from M6.out.size)
  have FA0_6 := Lib.hid (FA0_5.out.below M6.out)
  have FW0_6 := Lib.hid (FW0_5.out.below M6.out)
  have FX0_6 := Lib.hid (FX0_5.out.below M6.out)
  have FG0_6 := Lib.hid (FG0_5.out.below M6.out)
  clear hb6
  go_wp2_with fail
  refine (toKeyPoseS_any _ _ _ p0 _ (by omega) (by with_reducible first | exact FA0_6.out.ki | exact (FA0_6.out.ki).drewN _)).mono ?_
  rintro e w7 ⟨V0, cV0, rfl, own7, hb7⟩
  have M7 := Lib.hid (show Below w6.heap.size w6 w7 from by
    repeat (first | exact Below.refl _ _ | assumption | refine bl_drewN ?_ _ | refine Below.drew ?_ | refine bl_al ?_ _ | (refine Below.setCell ?_ (by simp <;> omega) _) | refine bl_tr ?_ (by assumption)))
  have U7 := Lib.hid (bl_tr U6.out M7.out)
  have Z7 := Lib.hid (show w6.heap.size ≤ w7.heap.size from M7.out.size)
  have FA0_7 := Lib.hid (FA0_6.out.below M7.out)
  have FW0_7 := Lib.hid (FW0_6.out.below M7.out)
  have FX0_7 := Lib.hid (FX0_6.out.below M7.out)
  have FG0_7 := Lib.hid (FG0_6.out.below M7.out)
  have FV0_7 := Lib.hid (show OK w7 w6.heap.size w7.heap.size V0 p0.length cV0 p0 from OK.mk own7)
  clear own7 hb7
  go_wp2_with fail
  refine (eqKeyPoseS_same _ _ _ _ _ (p0) _ hM0 (by with_reducible first | exact FX0_7.out.ki | exact (FX0_7.out.ki).drewN _) (by with_reducible first | exact FV0_7.out.ki | exact (FV0_7.out.ki).drewN _)).mono ?_
  rintro e w8 ⟨rfl, hb8⟩
  have M8 := Lib.hid (show Below w7.heap.size w7 w8 from by
    repeat (first | exact Below.refl _ _ | assumption | refine bl_drewN ?_ _ | refine Below.drew ?_ | refine bl_al ?_ _ | (refine Below.setCell ?_ (by simp <;> omega) _) | refine bl_tr ?_ (by assumption)))
  have U8 := Lib.hid (bl_tr U7.out M8.out)
  have Z8 := Lib.hid (show w7.heap.size ≤ w8.heap.size from M8.out.size)
  have FA0_8 := Lib.hid (FA0_7.out.below M8.out)
  have FW0_8 := Lib.hid (FW0_7.out.below M8.out)
  have FX0_8 := Lib.hid (FX0_7.out.below M8.out)
  have FG0_8 := Lib.hid (FG0_7.out.below M8.out)
  have FV0_8 := Lib.hid (FV0_7.out.below M8.out)
  clear hb8
  have kp9 : (0 : Int) ≤ 1 := by omega
  have kq9 : (1 : Int) ≤ 1000000000 := by omega
  go_wp2_with fail
  refine (markKeyPoseS_any _ _ _ _ _ (1) (p0) _ hK0 kp9 kq9 (by with_reducible first | exact FX0_8.out | exact FX0_8.out.drewN _)).mono ?_
  rintro e w9 ⟨rfl, own9, hg9⟩
  have T9 := Lib.hid (show Touch w3.heap.size w4.heap.size w8 w9 from by first | exact hg9 | exact hg9.drewN)
  have Z9 := Lib.hid (show w8.heap.size ≤ w9.heap.size from T9.out.size)
  have U9 := Lib.hid (T9.out.below U8.out (Nat.le_trans (Nat.le_trans Z1.out Z2.out) Z3.out) (Nat.le_trans (Nat.le_trans (Nat.le_trans (Nat.le_trans (Nat.le_trans (Nat.le_trans (Nat.le_trans Z1.out Z2.out) Z3.out) Z4.out) Z5.out) Z6.out) Z7.out) Z8.out))
  have FA0_9 := Lib.hid (FA0_8.out.touch T9.out (Nat.le_trans (Nat.le_trans Z1.out Z2.out) Z3.out))
  have FW0_9 := Lib.hid (FW0_8.out.touch T9.out (.inl (Nat.le_refl _)))
  have FG0_9 := Lib.hid (FG0_8.out.touch T9.out (.inr (Nat.le_refl _)))
  clear own9 hg9
  have kr : (0 : Int) ≤ 1 + (kcnt p0 : Nat) := by omega
  go_wp2_with fail
  refine (eqKeyPoseS_same _ _ _ _ _ (skX p0 y) _ hR (by with_reducible first | exact FG0_9.out.ki | exact (FG0_9.out.ki).drewN _) (by with_reducible first | exact FW0_9.out.ki | exact (FW0_9.out.ki).drewN _)).mono ?_
  rintro e w10 ⟨rfl, hb10⟩
  have M10 := Lib.hid (show Below w9.heap.size w9 w10 from by
    repeat (first | exact Below.refl _ _ | assumption | refine bl_drewN ?_ _ | refine Below.drew ?_ | refine bl_al ?_ _ | (refine Below.setCell ?_ (by simp <;> omega) _) | refine bl_tr ?_ (by assumption)))
  have U10 := Lib.hid (bl_tr U9.out M10.out)
  have Z10 := Lib.hid (show w9.heap.size ≤ w10.heap.size from M10.out.size)
  have FA0_10 := Lib.hid (FA0_9.out.below M10.out)
  have FW0_10 := Lib.hid (FW0_9.out.below M10.out)
  have FG0_10 := Lib.hid (FG0_9.out.below M10.out)
  clear hb10
  have kp11 : (0 : Int) ≤ 1 := by omega
  have kq11 : (1 : Int) ≤ 1000000000 := by omega
  go_wp2_with fail
  refine (markKeyPoseS_any _ _ _ _ _ (1) (skX p0 y) _ hRK kp11 kq11 (by with_reducible first | exact FG0_10.out | exact FG0_10.out.drewN _)).mono ?_
  rintro e w11 ⟨rfl, own11, hg11⟩
  have T11 := Lib.hid (show Touch w4.heap.size w5.heap.size w10 w11 from by first | exact hg11 | exact hg11.drewN)
  have Z11 := Lib.hid (show w10.heap.size ≤ w11.heap.size from T11.out.size)
  have U11 := Lib.hid (T11.out.below U10.out (Nat.le_trans (Nat.le_trans (Nat.le_trans Z1.out Z2.out) Z3.out) Z4.out) (Nat.le_trans (Nat.le_trans (Nat.le_trans (Nat.le_trans (Nat.le_trans (Nat.le_trans (Nat.le_trans (Nat.le_trans (Nat.le_trans Z1.out Z2.out) Z3.out) Z4.out) Z5.out) Z6.out) Z7.out) Z8.out) Z9.out) Z10.out))
  have FA0_11 := Lib.hid (FA0_10.out.touch T11.out (Nat.le_trans (Nat.le_trans (Nat.le_trans Z1.out Z2.out) Z3.out) Z4.out))
  have FW0_11 := Lib.hid (FW0_10.out.touch T11.out (.inl Z4.out))
  have FG0_11 := Lib.hid (show OK w11 w4.heap.size w5.heap.size G0 (skX p0 y).length cG0 (mkK (1) (skX p0 y)) from own11)
  clear own11 hg11
  have ks : (0 : Int) ≤ 1 + (kcnt (skX p0 y) : Nat) := by omega
  go_wp2_with fail
  refine (heldKeyPoseS_same (skX p0 y) _ _ _ 1 _ hRK (by omega) (by omega) (by with_reducible first | exact FG0_11.out.ki | exact (FG0_11.out.ki).drewN _)).mono ?_
  rintro e w' ⟨rfl, k1, rfl⟩
  go_wp2_with fail
  refine (toKeyPoseS_any _ _ _ p0 _ (by omega) (by with_reducible first | exact FA0_11.out.ki | exact (FA0_11.out.ki).drewN _)).mono ?_
  rintro e w12 ⟨Y0, cY0, rfl, own12, hb12⟩
  have M12 := Lib.hid (show Below w11.heap.size w11 w12 from by
    repeat (first | exact Below.refl _ _ | assumption | refine bl_drewN ?_ _ | refine Below.drew ?_ | refine bl_al ?_ _ | (refine Below.setCell ?_ (by simp <;> omega) _) | refine bl_tr ?_ (by assumption)))
  have U12 := Lib.hid (bl_tr U11.out M12.out)
  have Z12 := Lib.hid (show w11.heap.size ≤ w12.heap.size from M12.out.size)
  have FA0_12 := Lib.hid (FA0_11.out.below M12.out)
  have FW0_12 := Lib.hid (FW0_11.out.below M12.out)
  have FG0_12 := Lib.hid (FG0_11.out.below M12.out)
  have FY0_12 := Lib.hid (show OK w12 w11.heap.size w12.heap.size Y0 p0.length cY0 p0 from OK.mk own12)
  clear own12 hb12
  go_wp2_with fail
  refine (StretchKeys_v _ _ _ p0 y _ hm0 (by with_reducible first | exact FY0_12.out.ki | exact (FY0_12.out.ki).drewN _)).mono ?_
  rintro e w13 ⟨H0, cH0, rfl, own13, hb13⟩
  have M13 := Lib.hid (show Below w12.heap.size w12 w13 from by
    repeat (first | exact Below.refl _ _ | assumption | refine bl_drewN ?_ _ | refine Below.drew ?_ | refine bl_al ?_ _ | (refine Below.setCell ?_ (by simp <;> omega) _) | refine bl_tr ?_ (by assumption)))
  have U13 := Lib.hid (bl_tr U12.out M13.out)
  have Z13 := Lib.hid (show w12.heap.size ≤ w13.heap.size from M13.out.size)
  have FA0_13 := Lib.hid (FA0_12.out.below M13.out)
  have FW0_13 := Lib.hid (FW0_12.out.below M13.out)
  have FG0_13 := Lib.hid (FG0_12.out.below M13.out)
  have FY0_13 := Lib.hid (FY0_12.out.below M13.out)
  have FH0_13 := Lib.hid (show OK w13 w12.heap.size w13.heap.size H0 (skX p0 y).length cH0 (skX p0 y) from OK.mk own13)
  clear own13 hb13
  go_wp2_with fail
  refine (eqKeyPoseS_same _ _ _ _ _ (skX p0 y) _ hR (by with_reducible first | exact FH0_13.out.ki | exact (FH0_13.out.ki).drewN _) (by with_reducible first | exact FW0_13.out.ki | exact (FW0_13.out.ki).drewN _)).mono ?_
  rintro e w14 ⟨rfl, hb14⟩
  have M14 := Lib.hid (show Below w13.heap.size w13 w14 from by
    repeat (first | exact Below.refl _ _ | assumption | refine bl_drewN ?_ _ | refine Below.drew ?_ | refine bl_al ?_ _ | (refine Below.setCell ?_ (by simp <;> omega) _) | refine bl_tr ?_ (by assumption)))
  have U14 := Lib.hid (bl_tr U13.out M14.out)
  have Z14 := Lib.hid (show w13.heap.size ≤ w14.heap.size from M14.out.size)
  have FA0_14 := Lib.hid (FA0_13.out.below M14.out)
  have FW0_14 := Lib.hid (FW0_13.out.below M14.out)
  have FG0_14 := Lib.hid (FG0_13.out.below M14.out)
  have FY0_14 := Lib.hid (FY0_13.out.below M14.out)
  have FH0_14 := Lib.hid (FH0_13.out.below M14.out)
  clear hb14
  go_wp2_with fail
  refine (heldKeyPoseS_same (skX p0 y) _ _ _ 1 _ hRK (by omega) (by omega) (by with_reducible first | exact FG0_14.out.ki | exact (FG0_14.out.ki).drewN _)).mono ?_
  rintro e w' ⟨rfl, k2, rfl⟩
  go_wp2_with fail
  go_ret
  exact ⟨rfl, by first | exact U14.out | exact bl_drewN U14.out _⟩
end Go.Proofs.Ytofjohkhhomldaa

/-
  PROVED HERE: the walk of ValidKeys: the program and the reference agree. CONDITIONS: the arguments' cells lie in the world.
-/
import Derived.Test.YtofjohkhhomldaaVKeysI
namespace Go.Proofs.Ytofjohkhhomldaa
open Go.RowKit

theorem ValidKeys_v {hi : Nat} (A : Option Addr) (n c : Nat) (ks : List Key) (w : World) (hn : kbulk ks ≤ 1048576) (hA : KR w hi A n ks) :
    Calls Try.prog 31 #[.slice A n c] w fun e w' => e = .returned (.bool (vk ks)) ∧ Below w.heap.size w w' := by
  exact ValidKeys_any A n c ks w hn hA
theorem lValidKeys_v {hi : Nat} (A : Option Addr) (n c : Nat) (ks : List Key) (w : World) (hn : kbulk ks ≤ 1048576) (hA : KR w hi A n ks) :
    Calls Try.prog 29 #[.slice A n c] w fun e w' => e = .returned (.bool (vk ks)) ∧ Below w.heap.size w w' := by
  go_enter Try.func29, Try.ntmps29
  go_wp2_with fail
  refine (l04Keys_any _ _ _ ks _ hn hA).mono ?_
  rintro e w' ⟨rfl, hb⟩
  go_wp2_with fail
  go_ret
  exact ⟨rfl, hb⟩
set_option maxHeartbeats 4000000 in
theorem law_ValidKeys (w : World) (A0 : Option Addr) (n0 c0 : Nat) (p0 : List Key) (hA0 : KI w A0 n0 p0) (hN0 : KBd n0 p0) :
    Calls Try.prog 8 #[.slice A0 n0 c0] w fun e w' => e = .returned (.bool true) ∧ Below w.heap.size w w' := by
  obtain rfl : n0 = p0.length := hA0.1.symm
  by_cases hb0 : 1048576 < kbulk p0
  · skip
    have HA0 := Lib.hid hA0
    clear hA0
    go_enter Try.func8, Try.ntmps8
    go_wp2_with fail
    refine (szK_no _ _ _ p0 _ (by omega) HA0.out hN0).mono ?_
    rintro e w1 ⟨rfl, hb1⟩
    go_wp2
    go_ret
    exact ⟨rfl, hb1⟩
  have hm0 : kbulk p0 ≤ 1048576 := by omega
  have hM0 : kbulk p0 ≤ 1152921504606846976 := by omega
  have hK0 : kbulk p0 ≤ 10000000 := by omega
  have hc0 : kcnt p0 ≤ 2097152 := by have := kcnt_le p0; omega
  have FA0_0 := Lib.hid (AK.mk hA0)
  clear hA0
  go_enter Try.func8, Try.ntmps8
  go_wp2_with fail
  refine (szK_yes _ _ _ p0 _ (by omega) (by with_reducible first | exact FA0_0.out.ki | exact (FA0_0.out.ki).drewN _)).mono ?_
  rintro e w1 ⟨rfl, hb1⟩
  have M1 := Lib.hid (show Below w.heap.size w w1 from by
    repeat (first | exact Below.refl _ _ | assumption | refine bl_drewN ?_ _ | refine Below.drew ?_ | refine bl_al ?_ _ | (refine Below.setCell ?_ (by simp <;> omega) _) | refine bl_tr ?_ (by assumption)))
  have U1 := Lib.hid (M1.out)
  have Z1 := Lib.hid (show w.heap.size ≤ w1.heap.size from M1.out.size)
  have FA0_1 := Lib.hid (FA0_0.out.below M1.out)
  clear hb1
  go_wp2_with fail
  refine (toKeyPoseS_any _ _ _ p0 _ (by omega) (by with_reducible first | exact FA0_1.out.ki | exact (FA0_1.out.ki).drewN _)).mono ?_
  rintro e w2 ⟨T0, cT0, rfl, own2, hb2⟩
  have M2 := Lib.hid (show Below w1.heap.size w1 w2 from by
    repeat (first | exact Below.refl _ _ | assumption | refine bl_drewN ?_ _ | refine Below.drew ?_ | refine bl_al ?_ _ | (refine Below.setCell ?_ (by simp <;> omega) _) | refine bl_tr ?_ (by assumption)))
  have U2 := Lib.hid (bl_tr U1.out M2.out)
  have Z2 := Lib.hid (show w1.heap.size ≤ w2.heap.size from M2.out.size)
  have FA0_2 := Lib.hid (FA0_1.out.below M2.out)
  have FT0_2 := Lib.hid (show OK w2 w1.heap.size w2.heap.size T0 p0.length cT0 p0 from OK.mk own2)
  clear own2 hb2
  go_wp2_with fail
  refine (lValidKeys_v _ _ _ p0 _ hm0 (by with_reducible first | exact FT0_2.out.ki | exact (FT0_2.out.ki).drewN _)).mono ?_
  rintro e w3 ⟨rfl, hb3⟩
  have M3 := Lib.hid (show Below w2.heap.size w2 w3 from by
    repeat (first | exact Below.refl _ _ | assumption | refine bl_drewN ?_ _ | refine Below.drew ?_ | refine bl_al ?_ _ | (refine Below.setCell ?_ (by simp <;> omega) _) | refine bl_tr ?_ (by assumption)))
  have U3 := Lib.hid (bl_tr U2.out M3.out)
  have Z3 := Lib.hid (show w2.heap.size ≤ w3.heap.size from M3.out.size)
  have FA0_3 := Lib.hid (FA0_2.out.below M3.out)
  have FT0_3 := Lib.hid (FT0_2.out.below M3.out)
  clear hb3
  go_wp2_with fail
  refine (toKeyPoseS_any _ _ _ p0 _ (by omega) (by with_reducible first | exact FA0_3.out.ki | exact (FA0_3.out.ki).drewN _)).mono ?_
  rintro e w4 ⟨X0, cX0, rfl, own4, hb4⟩
  have M4 := Lib.hid (show Below w3.heap.size w3 w4 from by
    repeat (first | exact Below.refl _ _ | assumption | refine bl_drewN ?_ _ | refine Below.drew ?_ | refine bl_al ?_ _ | (refine Below.setCell ?_ (by simp <;> omega) _) | refine bl_tr ?_ (by assumption)))
  have U4 := Lib.hid (bl_tr U3.out M4.out)
  have Z4 := Lib.hid (show w3.heap.size ≤ w4.heap.size from M4.out.size)
  have FA0_4 := Lib.hid (FA0_3.out.below M4.out)
  have FX0_4 := Lib.hid (show OK w4 w3.heap.size w4.heap.size X0 p0.length cX0 p0 from OK.mk own4)
  clear own4 hb4
  go_wp2_with fail
  refine (ValidKeys_v _ _ _ p0 _ hm0 (by with_reducible first | exact FX0_4.out.ki | exact (FX0_4.out.ki).drewN _)).mono ?_
  rintro e w5 ⟨rfl, hb5⟩
  have M5 := Lib.hid (show Below w4.heap.size w4 w5 from by
    repeat (first | exact Below.refl _ _ | assumption | refine bl_drewN ?_ _ | refine Below.drew ?_ | refine bl_al ?_ _ | (refine Below.setCell ?_ (by simp <;> omega) _) | refine bl_tr ?_ (by assumption)))
  have U5 := Lib.hid (bl_tr U4.out M5.out)
  have Z5 := Lib.hid (show w4.heap.size ≤ w5.heap.size from M5.out.size)
  have FA0_5 := Lib.hid (FA0_4.out.below M5.out)
  have FX0_5 := Lib.hid (FX0_4.out.below M5.out)
  clear hb5
  go_wp2_with fail
  refine (toKeyPoseS_any _ _ _ p0 _ (by omega) (by with_reducible first | exact FA0_5.out.ki | exact (FA0_5.out.ki).drewN _)).mono ?_
  rintro e w6 ⟨V0, cV0, rfl, own6, hb6⟩
  have M6 := Lib.hid (show Below w5.heap.size w5 w6 from by
    repeat (first | exact Below.refl _ _ | assumption | refine bl_drewN ?_ _ | refine Below.drew ?_ | refine bl_al ?_ _ | (refine Below.setCell ?_ (by simp <;> omega) _) | refine bl_tr ?_ (by assumption)))
  have U6 := Lib.hid (bl_tr U5.out M6.out)
  have Z6 := Lib.hid (show w5.heap.size ≤ w6.heap.size from M6.out.size)
  have FA0_6 := Lib.hid (FA0_5.out.below M6.out)
  have FX0_6 := Lib.hid (FX0_5.out.below M6.out)
  have FV0_6 := Lib.hid (show OK w6 w5.heap.size w6.heap.size V0 p0.length cV0 p0 from OK.mk own6)
  clear own6 hb6
  go_wp2_with fail
  refine (eqKeyPoseS_same _ _ _ _ _ (p0) _ hM0 (by with_reducible first | exact FX0_6.out.ki | exact (FX0_6.out.ki).drewN _) (by with_reducible first | exact FV0_6.out.ki | exact (FV0_6.out.ki).drewN _)).mono ?_
  rintro e w7 ⟨rfl, hb7⟩
  have M7 := Lib.hid (show Below w6.heap.size w6 w7 from by
    repeat (first | exact Below.refl _ _ | assumption | refine bl_drewN ?_ _ | refine Below.drew ?_ | refine bl_al ?_ _ | (refine Below.setCell ?_ (by simp <;> omega) _) | refine bl_tr ?_ (by assumption)))
  have U7 := Lib.hid (bl_tr U6.out M7.out)
  have Z7 := Lib.hid (show w6.heap.size ≤ w7.heap.size from M7.out.size)
  have FA0_7 := Lib.hid (FA0_6.out.below M7.out)
  have FX0_7 := Lib.hid (FX0_6.out.below M7.out)
  have FV0_7 := Lib.hid (FV0_6.out.below M7.out)
  clear hb7
  go_wp2_with fail
  go_ret
  exact ⟨rfl, by first | exact U7.out | exact bl_drewN U7.out _⟩
end Go.Proofs.Ytofjohkhhomldaa

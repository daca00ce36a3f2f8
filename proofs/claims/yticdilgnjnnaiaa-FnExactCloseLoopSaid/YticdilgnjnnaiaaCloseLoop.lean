/-
  PROVED HERE: the walk of CloseLoop: the program and the reference agree. CONDITIONS: the argument's cells lie in the world.
-/
import Derived.Test.YticdilgnjnnaiaaAl
import Derived.Test.YticdilgnjnnaiaaCl
namespace Go.Proofs.Yticdilgnjnnaiaa
open Go.RowKit

def clK (xs : List Int) (y : Int) : Int := if vl xs then (if inB y 1 xs.length then 0 else 2) else 1
def clX (xs : List Int) (y : Int) : List Int := if vl xs then (if inB y 1 xs.length then clI xs y xs.length else []) else []
theorem clX_le (xs : List Int) (y : Int) : (clX xs y).length ≤ 1000000 := by
  unfold clX
  split
  · rename_i h
    have := vl_t h
    split
    · rw [clI_len]; omega
    · simp
  · simp
set_option maxHeartbeats 1000000 in
theorem CloseLoop_any (A : Option Addr) (n c : Nat) (xs : List Int) (y : Int) (w : World) (hn : n ≤ 1048576) (hA : RI w A n xs) :
    Calls Try.prog 22 #[.slice A n c, .int .i64 y] w (SlC w.heap.size (clX xs y) (clK xs y) w) := by
  have hl := hA.1
  subst hl
  have HA := Lib.hid hA
  cases h0 : vl xs
  case false =>
    have e1 : clX xs y = [] := by simp [clX, h0]
    have e2 : clK xs y = 1 := by simp [clK, h0]
    rw [e1, e2]
    clear e1 e2 hA
    go_enter Try.func22, Try.ntmps22
    go_wp2_with (first | (go_at_call 13; refine (ValidLoop_any _ _ _ xs _ (by omega) HA.out).mono ?_; rintro e w' ⟨rfl, rfl⟩) | (first | (go_at_call 37; refine (within_any _ _ _ _).mono ?_; rintro e w' ⟨rfl, rfl⟩) | (go_at_call 42; refine (l00In_any _ _ _ _).mono ?_; rintro e w' ⟨rfl, rfl⟩) | go_in))
    go_ret2
    exact SlC.none_ (Below.refl _ _)
  case true =>
    cases h1 : inB y 1 xs.length
    case false =>
      have e1 : clX xs y = [] := by simp [clX, h0, h1]
      have e2 : clK xs y = 2 := by simp [clK, h0, h1]
      rw [e1, e2]
      clear e1 e2 hA
      go_enter Try.func22, Try.ntmps22
      go_wp2_with (first | (go_at_call 13; refine (ValidLoop_any _ _ _ xs _ (by omega) HA.out).mono ?_; rintro e w' ⟨rfl, rfl⟩) | (first | (go_at_call 37; refine (within_any _ _ _ _).mono ?_; rintro e w' ⟨rfl, rfl⟩) | (go_at_call 42; refine (l00In_any _ _ _ _).mono ?_; rintro e w' ⟨rfl, rfl⟩) | go_in))
      go_ret2
      exact SlC.none_ (Below.refl _ _)
    case true =>
      have e1 : clX xs y = clI xs y xs.length := by simp only [clX, h0, h1, if_true]
      have e2 : clK xs y = 0 := by simp only [clK, h0, h1, if_true]
      rw [e1, e2]
      exact Close_walk A xs.length c xs y w h0 h1 hA
set_option maxHeartbeats 1000000 in
theorem lCloseLoop_any (A : Option Addr) (n c : Nat) (xs : List Int) (y : Int) (w : World) (hn : n ≤ 1048576) (hA : RI w A n xs) :
    Calls Try.prog 21 #[.slice A n c, .int .i64 y] w (SlC w.heap.size (clX xs y) (clK xs y) w) := by
  have hl := hA.1
  subst hl
  have HA := Lib.hid hA
  cases h0 : vl xs
  case false =>
    have e1 : clX xs y = [] := by simp [clX, h0]
    have e2 : clK xs y = 1 := by simp [clK, h0]
    rw [e1, e2]
    clear e1 e2 hA
    go_enter Try.func21, Try.ntmps21
    go_wp2_with (first | (go_at_call 34; refine (l05Ok_any _ _ _ xs _ (by omega) HA.out).mono ?_; rintro e w' ⟨rfl, rfl⟩) | (first | (go_at_call 37; refine (within_any _ _ _ _).mono ?_; rintro e w' ⟨rfl, rfl⟩) | (go_at_call 42; refine (l00In_any _ _ _ _).mono ?_; rintro e w' ⟨rfl, rfl⟩) | go_in))
    go_ret2
    exact SlC.none_ (Below.refl _ _)
  case true =>
    cases h1 : inB y 1 xs.length
    case false =>
      have e1 : clX xs y = [] := by simp [clX, h0, h1]
      have e2 : clK xs y = 2 := by simp [clK, h0, h1]
      rw [e1, e2]
      clear e1 e2 hA
      go_enter Try.func21, Try.ntmps21
      go_wp2_with (first | (go_at_call 34; refine (l05Ok_any _ _ _ xs _ (by omega) HA.out).mono ?_; rintro e w' ⟨rfl, rfl⟩) | (first | (go_at_call 37; refine (within_any _ _ _ _).mono ?_; rintro e w' ⟨rfl, rfl⟩) | (go_at_call 42; refine (l00In_any _ _ _ _).mono ?_; rintro e w' ⟨rfl, rfl⟩) | go_in))
      go_ret2
      exact SlC.none_ (Below.refl _ _)
    case true =>
      have e1 : clX xs y = clI xs y xs.length := by simp only [clX, h0, h1, if_true]
      have e2 : clK xs y = 0 := by simp only [clK, h0, h1, if_true]
      rw [e1, e2]
      exact lClose_walk A xs.length c xs y w h0 h1 hA
set_option maxHeartbeats 2000000 in
theorem law_CloseLoop (w : World) (A : Option Addr) (n c : Nat) (xs : List Int) (hA : RI w A n xs) (y : Int) (_wy : (Lit.int .i64 y).wf = true) :
    Calls Try.prog 6 #[.slice A n c, .int .i64 y] w fun e w' => e = .returned (.bool true) ∧ Below w.heap.size w w' := by
  obtain rfl : n = xs.length := hA.1.symm
  by_cases hbig : 1048576 < xs.length
  · have hb2 : decide (1048576 < (xs.length : Int)) = true := by simp; omega
    clear hA
    go_enter Try.func6, Try.ntmps6
    go_wp2
    go_ret
    exact ⟨rfl, Below.refl _ _⟩
  have hm : xs.length ≤ 1048576 := by omega
  have hm2 : xs.length ≤ 1152921504606846976 := by omega
  have hr := clX_le xs y
  have hr2 : (clX xs y).length ≤ 1152921504606846976 := by omega
  have RA0 := Lib.hid hA
  have LA := Lib.hid hA.lt
  clear hA
  go_enter Try.func6, Try.ntmps6
  go_wp2_with fail
  refine (toInt64S_any _ _ _ xs _ hm (by with_reducible first | exact RA0.out | exact RA0.out.drewN _)).mono ?_
  rintro e w1 ⟨T0, cT0, rfl, own1, hb1⟩
  have M1 := Lib.hid (show Below w.heap.size w w1 from by
    repeat (first | exact Below.refl _ _ | assumption | refine bl_drewN ?_ _ | refine Below.drew ?_ | refine bl_al ?_ _ | (refine Below.setCell ?_ (by simp <;> omega) _) | refine bl_tr ?_ (by assumption)))
  have U1 := Lib.hid (M1.out)
  have RA1 := Lib.hid (RA0.out.below M1.out)
  have RT0 := Lib.hid (RI.of_own own1)
  clear own1 hb1
  go_wp2_with fail
  refine (lCloseLoop_any _ _ _ xs _ _ hm RT0.out).mono ?_
  rintro e w2 ⟨W0, cW0, rfl, own2, hb2⟩
  have M2 := Lib.hid (show Below w1.heap.size w1 w2 from by
    repeat (first | exact Below.refl _ _ | assumption | refine bl_drewN ?_ _ | refine Below.drew ?_ | refine bl_al ?_ _ | (refine Below.setCell ?_ (by simp <;> omega) _) | refine bl_tr ?_ (by assumption)))
  have U2 := Lib.hid (bl_tr U1.out M2.out)
  have RA2 := Lib.hid (RA1.out.below M2.out)
  have RW2 := Lib.hid (RI.of_own own2)
  have LW := Lib.hid RW2.out.lt
  clear own2 hb2 RT0
  go_wp2_with fail
  refine (toInt64S_any _ _ _ xs _ hm (by with_reducible first | exact RA2.out | exact RA2.out.drewN _)).mono ?_
  rintro e w3 ⟨X0, cX0, rfl, own3, hb3⟩
  have M3 := Lib.hid (show Below w2.heap.size w2 w3 from by
    repeat (first | exact Below.refl _ _ | assumption | refine bl_drewN ?_ _ | refine Below.drew ?_ | refine bl_al ?_ _ | (refine Below.setCell ?_ (by simp <;> omega) _) | refine bl_tr ?_ (by assumption)))
  have U3 := Lib.hid (bl_tr U2.out M3.out)
  have RA3 := Lib.hid (RA2.out.below M3.out)
  have RW3 := Lib.hid (RW2.out.below M3.out)
  have OX3 := Lib.hid (show w3.ownsRow w2.heap.size 2 1 (.slice X0 xs.length cX0) xs.length (xs.map (Value.int .i64)) from own3)
  have RX3 := Lib.hid (RI.of_own own3)
  clear own3 hb3
  go_wp2_with fail
  refine (CloseLoop_any _ _ _ xs _ _ hm RX3.out).mono ?_
  rintro e w4 ⟨G0, cG0, rfl, own4, hb4⟩
  have M4 := Lib.hid (show Below w3.heap.size w3 w4 from by
    repeat (first | exact Below.refl _ _ | assumption | refine bl_drewN ?_ _ | refine Below.drew ?_ | refine bl_al ?_ _ | (refine Below.setCell ?_ (by simp <;> omega) _) | refine bl_tr ?_ (by assumption)))
  have U4 := Lib.hid (bl_tr U3.out M4.out)
  have RA4 := Lib.hid (RA3.out.below M4.out)
  have RW4 := Lib.hid (RW3.out.below M4.out)
  have OG4 := Lib.hid (show w4.ownsRow w3.heap.size 2 1 (.slice G0 (clX xs y).length cG0) (clX xs y).length ((clX xs y).map (Value.int .i64)) from own4)
  have RG4 := Lib.hid (RI.of_own own4)
  have OX4 := Lib.hid (own_below OX3.out M4.out)
  clear own4 hb4
  go_wp2_with fail
  refine (eqInt64S_same _ _ _ _ _ (clX xs y) _ hr2 (by with_reducible first | exact RG4.out | exact RG4.out.drewN _) (by with_reducible first | exact RW4.out | exact RW4.out.drewN _)).mono ?_
  rintro e w' ⟨rfl, k1, rfl⟩
  go_wp2_with fail
  refine (toInt64S_any _ _ _ xs _ hm (by with_reducible first | exact RA4.out | exact RA4.out.drewN _)).mono ?_
  rintro e w5 ⟨T1, cT1, rfl, own5, hb5⟩
  have M5 := Lib.hid (show Below w4.heap.size w4 w5 from by
    repeat (first | exact Below.refl _ _ | assumption | refine bl_drewN ?_ _ | refine Below.drew ?_ | refine bl_al ?_ _ | (refine Below.setCell ?_ (by simp <;> omega) _) | refine bl_tr ?_ (by assumption)))
  have U5 := Lib.hid (bl_tr U4.out M5.out)
  have RA5 := Lib.hid (RA4.out.below M5.out)
  have RW5 := Lib.hid (RW4.out.below M5.out)
  have OG5 := Lib.hid (own_below OG4.out M5.out)
  have OX5 := Lib.hid (own_below OX4.out M5.out)
  have RT1 := Lib.hid (RI.of_own own5)
  have RX5 := Lib.hid (RI.of_own OX5.out)
  clear own5 hb5
  go_wp2_with fail
  refine (eqInt64S_same _ _ _ _ _ (xs) _ hm2 (by with_reducible first | exact RX5.out | exact RX5.out.drewN _) (by with_reducible first | exact RT1.out | exact RT1.out.drewN _)).mono ?_
  rintro e w' ⟨rfl, k2, rfl⟩
  go_wp2_with fail
  refine (markInt64S_any _ _ _ _ _ 1 _ hm2 (by omega) (by omega) (by with_reducible first | exact OX5.out | exact own_drewN OX5.out _)).mono ?_
  rintro e w6 ⟨rfl, own6, hg6⟩
  have g6 : w5.grownBy w6 (Value.slice X0 xs.length cX0).ownBlock := ⟨hg6.os, hg6.tape, hg6.output, hg6.size, hg6.block⟩
  have LX := Lib.hid (show ∀ k, (Value.slice X0 xs.length cX0).ownBlock = some k → w2.heap.size ≤ k from fun k hk => (OX3.out.lt k hk).1)
  have U6 := Lib.hid (U5.out.grown g6 U5.out.size (fun k hk => Nat.le_trans U2.out.size (LX.out k hk)))
  have RW6 := Lib.hid (RW5.out.grown' LW.out g6 LX.out)
  have RA6 := Lib.hid (RA5.out.grown' (fun hn b off e => Nat.lt_of_lt_of_le (LA.out hn b off e) U2.out.size) g6 LX.out)
  have OG6 := Lib.hid (OG5.out.kept g6 (own_apart OG4.out OX3.out (Nat.le_refl _)))
  have RG6 := Lib.hid (RI.of_own OG6.out)
  clear own6 hg6 g6
  have p0 : (0 : Int) ≤ 1 + (xs.length : Int) := by omega
  have p3 : (1 : Int) + (xs.length : Int) ≤ 2000000 := by omega
  go_wp2_with fail
  refine (eqInt64S_same _ _ _ _ _ (clX xs y) _ hr2 (by with_reducible first | exact RG6.out | exact RG6.out.drewN _) (by with_reducible first | exact RW6.out | exact RW6.out.drewN _)).mono ?_
  rintro e w' ⟨rfl, k3, rfl⟩
  go_wp2_with fail
  refine (markInt64S_any _ _ _ _ _ 1 _ hr2 (by omega) (by omega) (by with_reducible first | exact OG6.out | exact own_drewN OG6.out _)).mono ?_
  rintro e w7 ⟨rfl, own7, hg7⟩
  have g7 : w6.grownBy w7 (Value.slice G0 (clX xs y).length cG0).ownBlock := ⟨hg7.os, hg7.tape, hg7.output, hg7.size, hg7.block⟩
  have LG := Lib.hid (show ∀ k, (Value.slice G0 (clX xs y).length cG0).ownBlock = some k → w3.heap.size ≤ k from fun k hk => (OG4.out.lt k hk).1)
  have U7 := Lib.hid (U6.out.grown g7 U6.out.size (fun k hk => Nat.le_trans U3.out.size (LG.out k hk)))
  have s3 := M3.out.size
  have RW7 := Lib.hid (RW6.out.grown' (fun hn b off e => Nat.lt_of_lt_of_le (LW.out hn b off e) s3) g7 LG.out)
  have RA7 := Lib.hid (RA6.out.grown' (fun hn b off e => Nat.lt_of_lt_of_le (LA.out hn b off e) U3.out.size) g7 LG.out)
  have RG7 := Lib.hid (RI.of_own own7)
  clear own7 hg7 g7 s3
  have p1 : (0 : Int) ≤ 1 + ((clX xs y).length : Int) := by omega
  have p2 : (1 : Int) + ((clX xs y).length : Int) ≤ 2000000 := by omega
  go_wp2_with fail
  refine (heldInt64S_same _ _ _ 1 _ hr2 (by omega) (by omega) RG7.out).mono ?_
  rintro e w' ⟨rfl, k4, rfl⟩
  go_wp2_with fail
  refine (toInt64S_any _ _ _ xs _ hm (by with_reducible first | exact RA7.out | exact RA7.out.drewN _)).mono ?_
  rintro e w8 ⟨T2, cT2, rfl, own8, hb8⟩
  have M8 := Lib.hid (show Below w7.heap.size w7 w8 from by
    repeat (first | exact Below.refl _ _ | assumption | refine bl_drewN ?_ _ | refine Below.drew ?_ | refine bl_al ?_ _ | (refine Below.setCell ?_ (by simp <;> omega) _) | refine bl_tr ?_ (by assumption)))
  have U8 := Lib.hid (bl_tr U7.out M8.out)
  have RW8 := Lib.hid (RW7.out.below M8.out)
  have RG8 := Lib.hid (RG7.out.below M8.out)
  have RT2 := Lib.hid (RI.of_own own8)
  clear own8 hb8
  go_wp2_with fail
  refine (CloseLoop_any _ _ _ xs _ _ hm RT2.out).mono ?_
  rintro e w9 ⟨H0, cH0, rfl, own9, hb9⟩
  have M9 := Lib.hid (show Below w8.heap.size w8 w9 from by
    repeat (first | exact Below.refl _ _ | assumption | refine bl_drewN ?_ _ | refine Below.drew ?_ | refine bl_al ?_ _ | (refine Below.setCell ?_ (by simp <;> omega) _) | refine bl_tr ?_ (by assumption)))
  have U9 := Lib.hid (bl_tr U8.out M9.out)
  have RW9 := Lib.hid (RW8.out.below M9.out)
  have RG9 := Lib.hid (RG8.out.below M9.out)
  have RH9 := Lib.hid (RI.of_own own9)
  clear own9 hb9
  go_wp2_with fail
  refine (eqInt64S_same _ _ _ _ _ (clX xs y) _ hr2 (by with_reducible first | exact RH9.out | exact RH9.out.drewN _) (by with_reducible first | exact RW9.out | exact RW9.out.drewN _)).mono ?_
  rintro e w' ⟨rfl, k5, rfl⟩
  go_wp2_with fail
  refine (heldInt64S_same _ _ _ 1 _ hr2 (by omega) (by omega) (by with_reducible first | exact RG9.out | exact RG9.out.drewN _)).mono ?_
  rintro e w' ⟨rfl, k6, rfl⟩
  go_wp2_with fail
  go_ret
  exact ⟨rfl, bl_drewN U9.out _⟩
end Go.Proofs.Yticdilgnjnnaiaa

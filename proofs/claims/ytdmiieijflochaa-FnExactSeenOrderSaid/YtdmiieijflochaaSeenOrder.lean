/-
  PROVED HERE: the walk of SeenOrder: the program and the reference agree. CONDITIONS: none beyond that each number is an int64.
-/
import Derived.Test.YtdmiieijflochaaOrd
namespace Go.Proofs.Ytdmiieijflochaa
open Go.RowKit

def soK (x y : Int) : Int := if inB x 1 48 then (if inB y 1 48 then 0 else 2) else 2
def soX (x y : Int) : List Int := if inB x 1 48 then (if inB y 1 48 then ordI x y y.toNat else []) else []
theorem soX_le (x y : Int) : (soX x y).length ≤ 1000000 := by
  unfold soX
  split
  · split
    · rename_i h; have := inB_t h; rw [ordI_len]; omega
    · simp
  · simp
theorem SeenOrder_any (x y : Int) (w : World) :
    Calls Try.prog 32 #[.int .i64 x, .int .i64 y] w (SlC w.heap.size (soX x y) (soK x y) w) := by
  cases h0 : inB x 1 48
  case false =>
    have e1 : soX x y = [] := by simp [soX, h0]
    have e2 : soK x y = 2 := by simp [soK, h0]
    rw [e1, e2]
    clear e1 e2
    go_enter Try.func32, Try.ntmps32
    go_wp2_with (first | (go_at_call 47; refine (within_any _ _ _ _).mono ?_; rintro e w' ⟨rfl, rfl⟩) | (go_at_call 45; refine (l00In_any _ _ _ _).mono ?_; rintro e w' ⟨rfl, rfl⟩) | go_in)
    go_ret2
    exact SlC.none_ (Below.refl _ _)
  case true =>
    cases h1 : inB y 1 48
    case false =>
      have e1 : soX x y = [] := by simp [soX, h0, h1]
      have e2 : soK x y = 2 := by simp [soK, h0, h1]
      rw [e1, e2]
      clear e1 e2
      go_enter Try.func32, Try.ntmps32
      go_wp2_with (first | (go_at_call 47; refine (within_any _ _ _ _).mono ?_; rintro e w' ⟨rfl, rfl⟩) | (go_at_call 45; refine (l00In_any _ _ _ _).mono ?_; rintro e w' ⟨rfl, rfl⟩) | go_in)
      go_ret2
      exact SlC.none_ (Below.refl _ _)
    case true =>
      obtain ⟨_, _⟩ := inB_t h0
      obtain ⟨_, _⟩ := inB_t h1
      have e1 : soX x y = ordI x y y.toNat := by simp [soX, h0, h1]
      have e2 : soK x y = 0 := by simp [soK, h0, h1]
      rw [e1, e2]
      clear e1 e2
      go_enter Try.func32, Try.ntmps32
      go_wp2_with (first | (go_at_call 61; refine (seenOrder_any _ _ _ (by omega) (by omega) (by omega) (by omega)).mono ?_; rintro e w1 ⟨A, c, rfl, ho, hb⟩) | (first | (go_at_call 47; refine (within_any _ _ _ _).mono ?_; rintro e w' ⟨rfl, rfl⟩) | (go_at_call 45; refine (l00In_any _ _ _ _).mono ?_; rintro e w' ⟨rfl, rfl⟩) | go_in))
      go_ret2
      exact ⟨A, c, rfl, ho, hb⟩
theorem lSeenOrder_any (x y : Int) (w : World) :
    Calls Try.prog 31 #[.int .i64 x, .int .i64 y] w (SlC w.heap.size (soX x y) (soK x y) w) := by
  cases h0 : inB x 1 48
  case false =>
    have e1 : soX x y = [] := by simp [soX, h0]
    have e2 : soK x y = 2 := by simp [soK, h0]
    rw [e1, e2]
    clear e1 e2
    go_enter Try.func31, Try.ntmps31
    go_wp2_with (first | (go_at_call 47; refine (within_any _ _ _ _).mono ?_; rintro e w' ⟨rfl, rfl⟩) | (go_at_call 45; refine (l00In_any _ _ _ _).mono ?_; rintro e w' ⟨rfl, rfl⟩) | go_in)
    go_ret2
    exact SlC.none_ (Below.refl _ _)
  case true =>
    cases h1 : inB y 1 48
    case false =>
      have e1 : soX x y = [] := by simp [soX, h0, h1]
      have e2 : soK x y = 2 := by simp [soK, h0, h1]
      rw [e1, e2]
      clear e1 e2
      go_enter Try.func31, Try.ntmps31
      go_wp2_with (first | (go_at_call 47; refine (within_any _ _ _ _).mono ?_; rintro e w' ⟨rfl, rfl⟩) | (go_at_call 45; refine (l00In_any _ _ _ _).mono ?_; rintro e w' ⟨rfl, rfl⟩) | go_in)
      go_ret2
      exact SlC.none_ (Below.refl _ _)
    case true =>
      obtain ⟨_, _⟩ := inB_t h0
      obtain ⟨_, _⟩ := inB_t h1
      have e1 : soX x y = ordI x y y.toNat := by simp [soX, h0, h1]
      have e2 : soK x y = 0 := by simp [soK, h0, h1]
      rw [e1, e2]
      clear e1 e2
      go_enter Try.func31, Try.ntmps31
      go_wp2_with (first | (go_at_call 59; refine (l03Order_any _ _ _ (by omega) (by omega) (by omega) (by omega)).mono ?_; rintro e w1 ⟨A, c, rfl, ho, hb⟩) | (first | (go_at_call 47; refine (within_any _ _ _ _).mono ?_; rintro e w' ⟨rfl, rfl⟩) | (go_at_call 45; refine (l00In_any _ _ _ _).mono ?_; rintro e w' ⟨rfl, rfl⟩) | go_in))
      go_ret2
      exact ⟨A, c, rfl, ho, hb⟩
set_option maxHeartbeats 2000000 in
theorem law_SeenOrder (x : Int) (_wx : (Lit.int .i64 x).wf = true) (y : Int) (_wy : (Lit.int .i64 y).wf = true) (w : World) :
    Calls Try.prog 9 #[.int .i64 x, .int .i64 y] w fun e w' => e = .returned (.bool true) ∧ Below w.heap.size w w' := by
  have hn := soX_le x y
  have hn2 : (soX x y).length ≤ 1152921504606846976 := by omega
  go_enter Try.func9, Try.ntmps9
  go_wp2_with fail
  refine (lSeenOrder_any _ _ _).mono ?_
  rintro e w1 ⟨A0, c0, rfl, own0, hb0⟩
  have T1 : Below w.heap.size w w1 := by
    repeat (first | exact Below.refl _ _ | assumption | refine bl_drewN ?_ _ | refine Below.drew ?_ | refine bl_al ?_ _ | (refine Below.setCell ?_ (by simp <;> omega) _) | refine bl_tr ?_ (by assumption))
  have OWN0 := Lib.hid own0
  have R0 := Lib.hid (RI.of_own own0)
  have L0 := Lib.hid (own_lt own0)
  have U1 := Lib.hid T1
  clear own0 hb0 T1
  go_wp2_with fail
  refine (SeenOrder_any _ _ _).mono ?_
  rintro e w2 ⟨A1, c1, rfl, own1, hb1⟩
  have M1 := Lib.hid (show Below w1.heap.size w1 w2 from by
    repeat (first | exact Below.refl _ _ | assumption | refine bl_drewN ?_ _ | refine Below.drew ?_ | refine bl_al ?_ _ | (refine Below.setCell ?_ (by simp <;> omega) _) | refine bl_tr ?_ (by assumption)))
  have T2 : Below w.heap.size w w2 := bl_tr U1.out M1.out
  have OWN1 := Lib.hid own1
  have R1 := Lib.hid (RI.of_own own1)
  have R02 := Lib.hid (R0.out.below M1.out)
  have U2 := Lib.hid T2
  have LB := Lib.hid (show ∀ k, (Value.slice A1 (soX x y).length c1).ownBlock = some k → w1.heap.size ≤ k from fun k hk => Nat.le_trans (by first | exact Nat.le_refl _ | (simp; omega) | (simp; done)) (own1.lt k hk).1)
  clear own1 hb1 T2
  go_wp2_with fail
  refine (eqInt64S_same _ _ _ _ _ (soX x y) _ hn2 R1.out R02.out).mono ?_
  rintro e w' ⟨rfl, k1, rfl⟩
  go_wp2_with fail
  refine (markInt64S_any _ _ _ _ _ 1 _ hn2 (by omega) (by omega) (own_drewN OWN1.out _)).mono ?_
  rintro e w3 ⟨rfl, own3, hg3⟩
  have R13 := Lib.hid (RI.of_own own3)
  have T3 : Below w.heap.size w w3 := (bl_drewN U2.out _).grown hg3 U2.out.size (fun k hk => Nat.le_trans U1.out.size (LB.out k hk))
  have R03 := Lib.hid (RI.grown (R02.out.drewN k1) (fun b off hA => (L0.out b off hA).2) hg3 (fun k hk => LB.out k hk))
  have U3 := Lib.hid T3
  clear own3 hg3 T3
  have p1 : (0 : Int) ≤ 1 + ((soX x y).length : Int) := by omega
  have p2 : (1 : Int) + ((soX x y).length : Int) ≤ 2000000 := by omega
  go_wp2_with fail
  refine (heldInt64S_same _ _ _ 1 _ hn2 (by omega) (by omega) R13.out).mono ?_
  rintro e w' ⟨rfl, k2, rfl⟩
  go_wp2_with fail
  refine (SeenOrder_any _ _ _).mono ?_
  rintro e w4 ⟨A2, c2, rfl, own4, hb4⟩
  have M3 := Lib.hid (show Below w3.heap.size w3 w4 from by
    repeat (first | exact Below.refl _ _ | assumption | refine bl_drewN ?_ _ | refine Below.drew ?_ | refine bl_al ?_ _ | (refine Below.setCell ?_ (by simp <;> omega) _) | refine bl_tr ?_ (by assumption)))
  have U4 := Lib.hid (bl_tr U3.out M3.out)
  have R24 := Lib.hid (RI.of_own own4)
  have R04 := Lib.hid (R03.out.below M3.out)
  have R14 := Lib.hid (R13.out.below M3.out)
  clear own4 hb4
  go_wp2_with fail
  refine (eqInt64S_same _ _ _ _ _ (soX x y) _ hn2 R24.out R04.out).mono ?_
  rintro e w' ⟨rfl, k3, rfl⟩
  go_wp2_with fail
  refine (heldInt64S_same _ _ _ 1 _ hn2 (by omega) (by omega) (R14.out.drewN k3)).mono ?_
  rintro e w' ⟨rfl, k4, rfl⟩
  go_wp2_with fail
  go_ret
  exact ⟨rfl, bl_drewN U4.out _⟩
end Go.Proofs.Ytdmiieijflochaa

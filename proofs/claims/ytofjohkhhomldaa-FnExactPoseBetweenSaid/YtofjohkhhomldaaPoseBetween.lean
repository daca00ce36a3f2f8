/-
  PROVED HERE: the walk of PoseBetween: the program and the reference agree. CONDITIONS: the arguments' cells lie in the world.
-/
import Derived.Test.YtofjohkhhomldaaPoseN
namespace Go.Proofs.Ytofjohkhhomldaa
open Go.RowKit

theorem l04Two_any (A : Option Addr) (n ca : Nat) (ps : List Pnt) (B : Option Addr) (m cb : Nat) (qs : List Pnt) (w : World) (hn : n ≤ 1048576) (hm : m ≤ 1048576) (hA : PI w A n ps) (hB : PI w B m qs) :
    Calls Try.prog 56 #[.slice A n ca, .slice B m cb] w fun e w' => e = .returned (.int .i64 (if vp ps && vp qs then 0 else 1)) ∧ w = w' := by
  have HA := Lib.hid hA
  have HB := Lib.hid hB
  clear hA hB
  cases h0 : vp ps
  case false =>
    go_enter Try.func56, Try.ntmps56
    go_wp2_with fail
    refine (l04Ok_any _ _ _ ps _ (by omega) HA.out).mono ?_
    rintro e w' ⟨rfl, rfl⟩
    go_wp2
    go_ret
    exact ⟨rfl, rfl⟩
  cases h1 : vp qs
  all_goals
    go_enter Try.func56, Try.ntmps56
    go_wp2_with fail
    refine (l04Ok_any _ _ _ ps _ (by omega) HA.out).mono ?_
    rintro e w' ⟨rfl, rfl⟩
    go_wp2_with fail
    refine (l04Ok_any _ _ _ qs _ (by omega) HB.out).mono ?_
    rintro e w' ⟨rfl, rfl⟩
    go_wp2
    go_ret
    exact ⟨rfl, rfl⟩
theorem l04Two_v {b c : Bool} (A : Option Addr) (n ca : Nat) (ps : List Pnt) (B : Option Addr) (m cb : Nat) (qs : List Pnt) (w : World) (hn : n ≤ 1048576) (hm : m ≤ 1048576) (h0 : vp ps = b) (h1 : vp qs = c) (hA : PI w A n ps) (hB : PI w B m qs) :
    Calls Try.prog 56 #[.slice A n ca, .slice B m cb] w fun e w' => e = .returned (.int .i64 (if b && c then 0 else 1)) ∧ w = w' := by
  have := l04Two_any A n ca ps B m cb qs w hn hm hA hB
  rw [h0, h1] at this
  exact this
def pbK (ps qs : List Pnt) (y z : Int) : Int := if vp ps && vp qs then (if inB z 1 10000 && inB y 0 z then (if ps.length = qs.length then 0 else 8) else 2) else 1
def pbX (ps qs : List Pnt) (y z : Int) : List Pnt := if vp ps && vp qs then (if inB z 1 10000 && inB y 0 z then (if ps.length = qs.length then btI ps qs y z ps.length else []) else []) else []
theorem pbX_le (ps qs : List Pnt) (y z : Int) : (pbX ps qs y z).length ≤ 1000000 := by
  unfold pbX
  split
  · rename_i h
    simp only [Bool.and_eq_true] at h
    have := vp_t h.1
    repeat' split
    all_goals first | (rw [btI_len]; omega) | simp
  · simp
set_option maxHeartbeats 2000000 in
theorem PoseBetween_v (A : Option Addr) (n ca : Nat) (ps : List Pnt) (B : Option Addr) (m cb : Nat) (qs : List Pnt) (y z : Int) (w : World) (hn : n ≤ 1048576) (hm : m ≤ 1048576) (hA : PI w A n ps) (hB : PI w B m qs) :
    Calls Try.prog 27 #[.slice A n ca, .slice B m cb, .int .i64 y, .int .i64 z] w (PlC w.heap.size (pbX ps qs y z) (pbK ps qs y z) w) := by
  have HLA := Lib.hid hA.1
  have HLB := Lib.hid hB.1
  have HA := Lib.hid hA
  have HB := Lib.hid hB
  cases h0 : vp ps
  case false =>
    have e1 : pbX ps qs y z = [] := by simp [pbX, h0]
    have e2 : pbK ps qs y z = 1 := by simp [pbK, h0]
    rw [e1, e2]
    clear e1 e2 hA hB
    go_enter Try.func27, Try.ntmps27
    go_wp2_with fail
    refine (ValidPose_any _ _ _ ps _ (by omega) HA.out).mono ?_
    rintro e w1 ⟨rfl, hb1⟩
    have HA1 := Lib.hid (HA.out.below hb1)
    have HB1 := Lib.hid (HB.out.below hb1)
    have HW1 := Lib.hid hb1
    clear hb1
    go_wp2_with (first | (go_at_call 55; refine (within_any _ _ _ _).mono ?_; rintro e w' ⟨rfl, rfl⟩) | (go_at_call 57; refine (l00In_any _ _ _ _).mono ?_; rintro e w' ⟨rfl, rfl⟩) | go_in)
    go_ret2
    exact PlC.none_ (HW1.out)

  cases h1 : vp qs
  case false =>
    have e1 : pbX ps qs y z = [] := by simp [pbX, h0, h1]
    have e2 : pbK ps qs y z = 1 := by simp [pbK, h0, h1]
    rw [e1, e2]
    clear e1 e2 hA hB
    go_enter Try.func27, Try.ntmps27
    go_wp2_with fail
    refine (ValidPose_any _ _ _ ps _ (by omega) HA.out).mono ?_
    rintro e w1 ⟨rfl, hb1⟩
    have HA1 := Lib.hid (HA.out.below hb1)
    have HB1 := Lib.hid (HB.out.below hb1)
    have HW1 := Lib.hid hb1
    clear hb1
    go_wp2_with fail
    refine (ValidPose_any _ _ _ qs _ (by omega) HB1.out).mono ?_
    rintro e w2 ⟨rfl, hb2⟩
    have HA2 := Lib.hid (HA1.out.below hb2)
    have HB2 := Lib.hid (HB1.out.below hb2)
    have HW2 := Lib.hid (bl_tr HW1.out hb2)
    clear hb2
    go_wp2_with (first | (go_at_call 55; refine (within_any _ _ _ _).mono ?_; rintro e w' ⟨rfl, rfl⟩) | (go_at_call 57; refine (l00In_any _ _ _ _).mono ?_; rintro e w' ⟨rfl, rfl⟩) | go_in)
    go_ret2
    exact PlC.none_ (HW2.out)

  cases h2 : inB z 1 10000
  case false =>
    have e1 : pbX ps qs y z = [] := by simp [pbX, h0, h1, h2]
    have e2 : pbK ps qs y z = 2 := by simp [pbK, h0, h1, h2]
    rw [e1, e2]
    clear e1 e2 hA hB
    go_enter Try.func27, Try.ntmps27
    go_wp2_with fail
    refine (ValidPose_any _ _ _ ps _ (by omega) HA.out).mono ?_
    rintro e w1 ⟨rfl, hb1⟩
    have HA1 := Lib.hid (HA.out.below hb1)
    have HB1 := Lib.hid (HB.out.below hb1)
    have HW1 := Lib.hid hb1
    clear hb1
    go_wp2_with fail
    refine (ValidPose_any _ _ _ qs _ (by omega) HB1.out).mono ?_
    rintro e w2 ⟨rfl, hb2⟩
    have HA2 := Lib.hid (HA1.out.below hb2)
    have HB2 := Lib.hid (HB1.out.below hb2)
    have HW2 := Lib.hid (bl_tr HW1.out hb2)
    clear hb2
    go_wp2_with (first | (go_at_call 55; refine (within_any _ _ _ _).mono ?_; rintro e w' ⟨rfl, rfl⟩) | (go_at_call 57; refine (l00In_any _ _ _ _).mono ?_; rintro e w' ⟨rfl, rfl⟩) | go_in)
    go_ret2
    exact PlC.none_ (HW2.out)

  cases h3 : inB y 0 z
  case false =>
    have e1 : pbX ps qs y z = [] := by simp [pbX, h0, h1, h2, h3]
    have e2 : pbK ps qs y z = 2 := by simp [pbK, h0, h1, h2, h3]
    rw [e1, e2]
    clear e1 e2 hA hB
    go_enter Try.func27, Try.ntmps27
    go_wp2_with fail
    refine (ValidPose_any _ _ _ ps _ (by omega) HA.out).mono ?_
    rintro e w1 ⟨rfl, hb1⟩
    have HA1 := Lib.hid (HA.out.below hb1)
    have HB1 := Lib.hid (HB.out.below hb1)
    have HW1 := Lib.hid hb1
    clear hb1
    go_wp2_with fail
    refine (ValidPose_any _ _ _ qs _ (by omega) HB1.out).mono ?_
    rintro e w2 ⟨rfl, hb2⟩
    have HA2 := Lib.hid (HA1.out.below hb2)
    have HB2 := Lib.hid (HB1.out.below hb2)
    have HW2 := Lib.hid (bl_tr HW1.out hb2)
    clear hb2
    go_wp2_with (first | (go_at_call 55; refine (within_any _ _ _ _).mono ?_; rintro e w' ⟨rfl, rfl⟩) | (go_at_call 57; refine (l00In_any _ _ _ _).mono ?_; rintro e w' ⟨rfl, rfl⟩) | go_in)
    go_ret2
    exact PlC.none_ (HW2.out)

  by_cases hnm : n = m
  rotate_left
  · have hpq : ¬ ps.length = qs.length := by rw [HLA.out, HLB.out]; exact hnm
    have q1 : ((n : Int) == (m : Int)) = false := by simp; omega
    have q2 : ((n : Int) != (m : Int)) = true := by simp; omega
    have e1 : pbX ps qs y z = [] := by simp [pbX, h0, h1, h2, h3, hpq]
    have e2 : pbK ps qs y z = 8 := by simp [pbK, h0, h1, h2, h3, hpq]
    rw [e1, e2]
    clear e1 e2 hA hB hpq hnm
    go_enter Try.func27, Try.ntmps27
    go_wp2_with fail
    refine (ValidPose_any _ _ _ ps _ (by omega) HA.out).mono ?_
    rintro e w1 ⟨rfl, hb1⟩
    have HA1 := Lib.hid (HA.out.below hb1)
    have HB1 := Lib.hid (HB.out.below hb1)
    have HW1 := Lib.hid hb1
    clear hb1
    go_wp2_with fail
    refine (ValidPose_any _ _ _ qs _ (by omega) HB1.out).mono ?_
    rintro e w2 ⟨rfl, hb2⟩
    have HA2 := Lib.hid (HA1.out.below hb2)
    have HB2 := Lib.hid (HB1.out.below hb2)
    have HW2 := Lib.hid (bl_tr HW1.out hb2)
    clear hb2
    go_wp2_with (first | (go_at_call 55; refine (within_any _ _ _ _).mono ?_; rintro e w' ⟨rfl, rfl⟩) | (go_at_call 57; refine (l00In_any _ _ _ _).mono ?_; rintro e w' ⟨rfl, rfl⟩) | go_in)
    go_ret2
    exact PlC.none_ (HW2.out)

  subst hnm
  obtain ⟨z1, z2⟩ := inB_t h2
  obtain ⟨y1, y2⟩ := inB_t h3
  obtain ⟨⟨_, n8⟩, hp⟩ := vp_t h0
  obtain ⟨_, hq⟩ := vp_t h1
  rw [HLA.out] at n8
  have hpq : ps.length = qs.length := by rw [HLA.out, HLB.out]
  have e1 : pbX ps qs y z = btI ps qs y z n := by simp [pbX, h0, h1, h2, h3, HLB.out, HLA.out]
  have e2 : pbK ps qs y z = 0 := by simp [pbK, h0, h1, h2, h3, hpq]
  rw [e1, e2]
  have q1 : ((n : Int) == (n : Int)) = true := by simp
  have q2 : ((n : Int) != (n : Int)) = false := by simp
  have HP := Lib.hid (show Pd ps from hp)
  have HQ := Lib.hid (show Pd qs from hq)
  have n8' : n ≤ 8 := by omega
  have hbl := btI_len ps qs y z n
  have HBL := Lib.hid hbl
  clear e1 e2 hA hB hpq hp hq hbl
  go_enter Try.func27, Try.ntmps27
  go_wp2_with fail
  refine (ValidPose_any _ _ _ ps _ (by omega) HA.out).mono ?_
  rintro e w1 ⟨rfl, hb1⟩
  have HA1 := Lib.hid (HA.out.below hb1)
  have HB1 := Lib.hid (HB.out.below hb1)
  have HW1 := Lib.hid hb1
  clear hb1
  go_wp2_with fail
  refine (ValidPose_any _ _ _ qs _ (by omega) HB1.out).mono ?_
  rintro e w2 ⟨rfl, hb2⟩
  have HA2 := Lib.hid (HA1.out.below hb2)
  have HB2 := Lib.hid (HB1.out.below hb2)
  have HW2 := Lib.hid (bl_tr HW1.out hb2)
  clear hb2
  go_wp2_with (first | (go_at_call 59; refine (between_any _ _ _ ps _ _ qs _ _ _ n8' z1 z2 y1 y2 HA2.out HB2.out HP.out HQ.out).mono ?_; rintro e w3 ⟨A3, c3, rfl, own3, hb3⟩) | (first | (go_at_call 55; refine (within_any _ _ _ _).mono ?_; rintro e w' ⟨rfl, rfl⟩) | (go_at_call 57; refine (l00In_any _ _ _ _).mono ?_; rintro e w' ⟨rfl, rfl⟩) | go_in))
  go_ret2
  exact ⟨A3, c3, rfl, own3.mono (HW2.out.size), bl_tr HW2.out hb3⟩

set_option maxHeartbeats 2000000 in
theorem lPoseBetween_v (A : Option Addr) (n ca : Nat) (ps : List Pnt) (B : Option Addr) (m cb : Nat) (qs : List Pnt) (y z : Int) (w : World) (hn : n ≤ 1048576) (hm : m ≤ 1048576) (hA : PI w A n ps) (hB : PI w B m qs) :
    Calls Try.prog 26 #[.slice A n ca, .slice B m cb, .int .i64 y, .int .i64 z] w (PlC w.heap.size (pbX ps qs y z) (pbK ps qs y z) w) := by
  have HLA := Lib.hid hA.1
  have HLB := Lib.hid hB.1
  have HA := Lib.hid hA
  have HB := Lib.hid hB
  cases h0 : vp ps <;> cases h1 : vp qs
  case true.true =>
    cases h2 : inB z 1 10000
    case false =>
      have e1 : pbX ps qs y z = [] := by simp [pbX, h0, h1, h2]
      have e2 : pbK ps qs y z = 2 := by simp [pbK, h0, h1, h2]
      rw [e1, e2]
      clear e1 e2 hA hB
      go_enter Try.func26, Try.ntmps26
      go_wp2_with fail
      refine (l04Two_v _ _ _ ps _ _ _ qs _ hn hm h0 h1 HA.out HB.out).mono ?_
      rintro e w' ⟨rfl, rfl⟩
      go_wp2_with (first | (go_at_call 55; refine (within_any _ _ _ _).mono ?_; rintro e w' ⟨rfl, rfl⟩) | (go_at_call 57; refine (l00In_any _ _ _ _).mono ?_; rintro e w' ⟨rfl, rfl⟩) | go_in)
      go_ret2
      exact PlC.none_ (Below.refl _ _)

    cases h3 : inB y 0 z
    case false =>
      have e1 : pbX ps qs y z = [] := by simp [pbX, h0, h1, h2, h3]
      have e2 : pbK ps qs y z = 2 := by simp [pbK, h0, h1, h2, h3]
      rw [e1, e2]
      clear e1 e2 hA hB
      go_enter Try.func26, Try.ntmps26
      go_wp2_with fail
      refine (l04Two_v _ _ _ ps _ _ _ qs _ hn hm h0 h1 HA.out HB.out).mono ?_
      rintro e w' ⟨rfl, rfl⟩
      go_wp2_with (first | (go_at_call 55; refine (within_any _ _ _ _).mono ?_; rintro e w' ⟨rfl, rfl⟩) | (go_at_call 57; refine (l00In_any _ _ _ _).mono ?_; rintro e w' ⟨rfl, rfl⟩) | go_in)
      go_ret2
      exact PlC.none_ (Below.refl _ _)

    by_cases hnm : n = m
    rotate_left
    · have hpq : ¬ ps.length = qs.length := by rw [HLA.out, HLB.out]; exact hnm
      have q1 : ((n : Int) == (m : Int)) = false := by simp; omega
      have q2 : ((n : Int) != (m : Int)) = true := by simp; omega
      have e1 : pbX ps qs y z = [] := by simp [pbX, h0, h1, h2, h3, hpq]
      have e2 : pbK ps qs y z = 8 := by simp [pbK, h0, h1, h2, h3, hpq]
      rw [e1, e2]
      clear e1 e2 hA hB hpq hnm
      go_enter Try.func26, Try.ntmps26
      go_wp2_with fail
      refine (l04Two_v _ _ _ ps _ _ _ qs _ hn hm h0 h1 HA.out HB.out).mono ?_
      rintro e w' ⟨rfl, rfl⟩
      go_wp2_with (first | (go_at_call 55; refine (within_any _ _ _ _).mono ?_; rintro e w' ⟨rfl, rfl⟩) | (go_at_call 57; refine (l00In_any _ _ _ _).mono ?_; rintro e w' ⟨rfl, rfl⟩) | go_in)
      go_ret2
      exact PlC.none_ (Below.refl _ _)

    subst hnm
    obtain ⟨z1, z2⟩ := inB_t h2
    obtain ⟨y1, y2⟩ := inB_t h3
    obtain ⟨⟨_, n8⟩, hp⟩ := vp_t h0
    obtain ⟨_, hq⟩ := vp_t h1
    rw [HLA.out] at n8
    have hpq : ps.length = qs.length := by rw [HLA.out, HLB.out]
    have e1 : pbX ps qs y z = btI ps qs y z n := by simp [pbX, h0, h1, h2, h3, HLB.out, HLA.out]
    have e2 : pbK ps qs y z = 0 := by simp [pbK, h0, h1, h2, h3, hpq]
    rw [e1, e2]
    have q1 : ((n : Int) == (n : Int)) = true := by simp
    have q2 : ((n : Int) != (n : Int)) = false := by simp
    have HP := Lib.hid (show Pd ps from hp)
    have HQ := Lib.hid (show Pd qs from hq)
    have n8' : n ≤ 8 := by omega
    have hbl := btI_len ps qs y z n
    have HBL := Lib.hid hbl
    clear e1 e2 hA hB hpq hp hq hbl
    go_enter Try.func26, Try.ntmps26
    go_wp2_with fail
    refine (l04Two_v _ _ _ ps _ _ _ qs _ hn hm h0 h1 HA.out HB.out).mono ?_
    rintro e w' ⟨rfl, rfl⟩
    go_wp2_with (first | (go_at_call 58; refine (l04Between_any _ _ _ ps _ _ qs _ _ _ n8' z1 z2 y1 y2 HA.out HB.out HP.out HQ.out).mono ?_; rintro e w3 ⟨A3, c3, rfl, own3, hb3⟩) | (first | (go_at_call 55; refine (within_any _ _ _ _).mono ?_; rintro e w' ⟨rfl, rfl⟩) | (go_at_call 57; refine (l00In_any _ _ _ _).mono ?_; rintro e w' ⟨rfl, rfl⟩) | go_in))
    go_ret2
    exact ⟨A3, c3, rfl, own3.mono (Nat.le_refl _), hb3⟩

  all_goals
    have e1 : pbX ps qs y z = [] := by simp [pbX, h0, h1]
    have e2 : pbK ps qs y z = 1 := by simp [pbK, h0, h1]
    rw [e1, e2]
    clear e1 e2 hA hB
    go_enter Try.func26, Try.ntmps26
    go_wp2_with fail
    refine (l04Two_v _ _ _ ps _ _ _ qs _ hn hm h0 h1 HA.out HB.out).mono ?_
    rintro e w' ⟨rfl, rfl⟩
    go_wp2_with (first | (go_at_call 55; refine (within_any _ _ _ _).mono ?_; rintro e w' ⟨rfl, rfl⟩) | (go_at_call 57; refine (l00In_any _ _ _ _).mono ?_; rintro e w' ⟨rfl, rfl⟩) | go_in)
    go_ret2
    exact PlC.none_ (Below.refl _ _)

set_option maxHeartbeats 4000000 in
theorem law_PoseBetween (w : World) (A0 : Option Addr) (n0 c0 : Nat) (p0 : List Pnt) (hA0 : PI w A0 n0 p0) (hN0 : n0 ≤ maxLen) (A1 : Option Addr) (n1 c1 : Nat) (p1 : List Pnt) (hA1 : PI w A1 n1 p1) (hN1 : n1 ≤ maxLen) (y : Int) (_wy : (Lit.int .i64 y).wf = true) (z : Int) (_wz : (Lit.int .i64 z).wf = true) :
    Calls Try.prog 7 #[.slice A0 n0 c0, .slice A1 n1 c1, .int .i64 y, .int .i64 z] w fun e w' => e = .returned (.bool true) ∧ Below w.heap.size w w' := by
  obtain rfl : n0 = p0.length := hA0.1.symm
  obtain rfl : n1 = p1.length := hA1.1.symm
  by_cases hb0 : 1048576 < p0.length
  · clear hA0 hA1
    go_enter Try.func7, Try.ntmps7
    go_wp2_with fail
    refine (szP_no _ _ _ _ _ hN0 (by omega) (by omega) (by omega)).mono ?_
    rintro e w' ⟨rfl, rfl⟩
    go_wp2
    go_ret
    exact ⟨rfl, Below.refl _ _⟩
  by_cases hb1 : 1048576 < p0.length + p1.length
  · clear hA0 hA1
    go_enter Try.func7, Try.ntmps7
    go_wp2_with fail
    refine (szP_yes _ _ _ _ _ (by omega) (by omega)).mono ?_
    rintro e w' ⟨rfl, rfl⟩
    go_wp2_with fail
    refine (szP_no _ _ _ _ _ hN1 (by omega) (by omega) (by omega)).mono ?_
    rintro e w' ⟨rfl, rfl⟩
    go_wp2
    go_ret
    exact ⟨rfl, Below.refl _ _⟩
  have hm0 : p0.length ≤ 1048576 := by omega
  have hM0 : p0.length ≤ 1152921504606846976 := by omega
  have hm1 : p1.length ≤ 1048576 := by omega
  have hM1 : p1.length ≤ 1152921504606846976 := by omega
  have hr := pbX_le p0 p1 y z
  have hR : (pbX p0 p1 y z).length ≤ 1152921504606846976 := by omega
  have FA0_0 := Lib.hid (AP.mk hA0)
  have FA1_0 := Lib.hid (AP.mk hA1)
  clear hA0 hA1
  go_enter Try.func7, Try.ntmps7
  go_wp2_with fail
  refine (szP_yes _ _ _ _ _ (by omega) (by omega)).mono ?_
  rintro e w' ⟨rfl, rfl⟩
  go_wp2_with fail
  refine (szP_yes _ _ _ _ _ (by omega) (by omega)).mono ?_
  rintro e w' ⟨rfl, rfl⟩
  go_wp2_with fail
  refine (toPointS_any _ _ _ p0 _ hm0 (by with_reducible first | exact FA0_0.out.pi | exact (FA0_0.out.pi).drewN _)).mono ?_
  rintro e w1 ⟨T0, cT0, rfl, own1, hb1⟩
  have M1 := Lib.hid (show Below w.heap.size w w1 from by
    repeat (first | exact Below.refl _ _ | assumption | refine bl_drewN ?_ _ | refine Below.drew ?_ | refine bl_al ?_ _ | (refine Below.setCell ?_ (by simp <;> omega) _) | refine bl_tr ?_ (by assumption)))
  have U1 := Lib.hid (M1.out)
  have Z1 := Lib.hid (show w.heap.size ≤ w1.heap.size from M1.out.size)
  have FA0_1 := Lib.hid (FA0_0.out.below M1.out)
  have FA1_1 := Lib.hid (FA1_0.out.below M1.out)
  have FT0_1 := Lib.hid (show OP w1 w.heap.size w1.heap.size T0 p0.length cT0 p0 from OP.mk own1)
  clear own1 hb1
  go_wp2_with fail
  refine (toPointS_any _ _ _ p1 _ hm1 (by with_reducible first | exact FA1_1.out.pi | exact (FA1_1.out.pi).drewN _)).mono ?_
  rintro e w2 ⟨T1, cT1, rfl, own2, hb2⟩
  have M2 := Lib.hid (show Below w1.heap.size w1 w2 from by
    repeat (first | exact Below.refl _ _ | assumption | refine bl_drewN ?_ _ | refine Below.drew ?_ | refine bl_al ?_ _ | (refine Below.setCell ?_ (by simp <;> omega) _) | refine bl_tr ?_ (by assumption)))
  have U2 := Lib.hid (bl_tr U1.out M2.out)
  have Z2 := Lib.hid (show w1.heap.size ≤ w2.heap.size from M2.out.size)
  have FA0_2 := Lib.hid (FA0_1.out.below M2.out)
  have FA1_2 := Lib.hid (FA1_1.out.below M2.out)
  have FT0_2 := Lib.hid (FT0_1.out.below M2.out)
  have FT1_2 := Lib.hid (show OP w2 w1.heap.size w2.heap.size T1 p1.length cT1 p1 from OP.mk own2)
  clear own2 hb2
  go_wp2_with fail
  refine (lPoseBetween_v _ _ _ p0 _ _ _ p1 y z _ hm0 hm1 (by with_reducible first | exact FT0_2.out.pi | exact (FT0_2.out.pi).drewN _) (by with_reducible first | exact FT1_2.out.pi | exact (FT1_2.out.pi).drewN _)).mono ?_
  rintro e w3 ⟨W0, cW0, rfl, own3, hb3⟩
  have M3 := Lib.hid (show Below w2.heap.size w2 w3 from by
    repeat (first | exact Below.refl _ _ | assumption | refine bl_drewN ?_ _ | refine Below.drew ?_ | refine bl_al ?_ _ | (refine Below.setCell ?_ (by simp <;> omega) _) | refine bl_tr ?_ (by assumption)))
  have U3 := Lib.hid (bl_tr U2.out M3.out)
  have Z3 := Lib.hid (show w2.heap.size ≤ w3.heap.size from M3.out.size)
  have FA0_3 := Lib.hid (FA0_2.out.below M3.out)
  have FA1_3 := Lib.hid (FA1_2.out.below M3.out)
  have FT0_3 := Lib.hid (FT0_2.out.below M3.out)
  have FT1_3 := Lib.hid (FT1_2.out.below M3.out)
  have FW0_3 := Lib.hid (show OP w3 w2.heap.size w3.heap.size W0 (pbX p0 p1 y z).length cW0 (pbX p0 p1 y z) from OP.mk own3)
  clear own3 hb3
  go_wp2_with fail
  refine (toPointS_any _ _ _ p0 _ hm0 (by with_reducible first | exact FA0_3.out.pi | exact (FA0_3.out.pi).drewN _)).mono ?_
  rintro e w4 ⟨X0, cX0, rfl, own4, hb4⟩
  have M4 := Lib.hid (show Below w3.heap.size w3 w4 from by
    repeat (first | exact Below.refl _ _ | assumption | refine bl_drewN ?_ _ | refine Below.drew ?_ | refine bl_al ?_ _ | (refine Below.setCell ?_ (by simp <;> omega) _) | refine bl_tr ?_ (by assumption)))
  have U4 := Lib.hid (bl_tr U3.out M4.out)
  have Z4 := Lib.hid (show w3.heap.size ≤ w4.heap.size from M4.out.size)
  have FA0_4 := Lib.hid (FA0_3.out.below M4.out)
  have FA1_4 := Lib.hid (FA1_3.out.below M4.out)
  have FW0_4 := Lib.hid (FW0_3.out.below M4.out)
  have FX0_4 := Lib.hid (show OP w4 w3.heap.size w4.heap.size X0 p0.length cX0 p0 from OP.mk own4)
  clear own4 hb4
  go_wp2_with fail
  refine (toPointS_any _ _ _ p1 _ hm1 (by with_reducible first | exact FA1_4.out.pi | exact (FA1_4.out.pi).drewN _)).mono ?_
  rintro e w5 ⟨X1, cX1, rfl, own5, hb5⟩
  have M5 := Lib.hid (show Below w4.heap.size w4 w5 from by
    repeat (first | exact Below.refl _ _ | assumption | refine bl_drewN ?_ _ | refine Below.drew ?_ | refine bl_al ?_ _ | (refine Below.setCell ?_ (by simp <;> omega) _) | refine bl_tr ?_ (by assumption)))
  have U5 := Lib.hid (bl_tr U4.out M5.out)
  have Z5 := Lib.hid (show w4.heap.size ≤ w5.heap.size from M5.out.size)
  have FA0_5 := Lib.hid (FA0_4.out.below M5.out)
  have FA1_5 := Lib.hid (FA1_4.out.below M5.out)
  have FW0_5 := Lib.hid (FW0_4.out.below M5.out)
  have FX0_5 := Lib.hid (FX0_4.out.below M5.out)
  have FX1_5 := Lib.hid (show OP w5 w4.heap.size w5.heap.size X1 p1.length cX1 p1 from OP.mk own5)
  clear own5 hb5
  go_wp2_with fail
  refine (PoseBetween_v _ _ _ p0 _ _ _ p1 y z _ hm0 hm1 (by with_reducible first | exact FX0_5.out.pi | exact (FX0_5.out.pi).drewN _) (by with_reducible first | exact FX1_5.out.pi | exact (FX1_5.out.pi).drewN _)).mono ?_
  rintro e w6 ⟨G0, cG0, rfl, own6, hb6⟩
  have M6 := Lib.hid (show Below w5.heap.size w5 w6 from by
    repeat (first | exact Below.refl _ _ | assumption | refine bl_drewN ?_ _ | refine Below.drew ?_ | refine bl_al ?_ _ | (refine Below.setCell ?_ (by simp <;> omega) _) | refine bl_tr ?_ (by assumption)))
  have U6 := Lib.hid (bl_tr U5.out M6.out)
  have Z6 := Lib.hid (show w5.heap.size ≤ w6.heap.size from M6.out.size)
  have FA0_6 := Lib.hid (FA0_5.out.below M6.out)
  have FA1_6 := Lib.hid (FA1_5.out.below M6.out)
  have FW0_6 := Lib.hid (FW0_5.out.below M6.out)
  have FX0_6 := Lib.hid (FX0_5.out.below M6.out)
  have FX1_6 := Lib.hid (FX1_5.out.below M6.out)
  have FG0_6 := Lib.hid (show OP w6 w5.heap.size w6.heap.size G0 (pbX p0 p1 y z).length cG0 (pbX p0 p1 y z) from OP.mk own6)
  clear own6 hb6
  go_wp2_with fail
  refine (eqPointS_same _ _ _ _ _ (pbX p0 p1 y z) _ hR (by with_reducible first | exact FG0_6.out.pi | exact (FG0_6.out.pi).drewN _) (by with_reducible first | exact FW0_6.out.pi | exact (FW0_6.out.pi).drewN _)).mono ?_
  rintro e w7 ⟨rfl, hb7⟩
  have M7 := Lib.hid (show Below w6.heap.size w6 w7 from by
    repeat (first | exact Below.refl _ _ | assumption | refine bl_drewN ?_ _ | refine Below.drew ?_ | refine bl_al ?_ _ | (refine Below.setCell ?_ (by simp <;> omega) _) | refine bl_tr ?_ (by assumption)))
  have U7 := Lib.hid (bl_tr U6.out M7.out)
  have Z7 := Lib.hid (show w6.heap.size ≤ w7.heap.size from M7.out.size)
  have FA0_7 := Lib.hid (FA0_6.out.below M7.out)
  have FA1_7 := Lib.hid (FA1_6.out.below M7.out)
  have FW0_7 := Lib.hid (FW0_6.out.below M7.out)
  have FX0_7 := Lib.hid (FX0_6.out.below M7.out)
  have FX1_7 := Lib.hid (FX1_6.out.below M7.out)
  have FG0_7 := Lib.hid (FG0_6.out.below M7.out)
  clear hb7
  go_wp2_with fail
  refine (toPointS_any _ _ _ p0 _ hm0 (by with_reducible first | exact FA0_7.out.pi | exact (FA0_7.out.pi).drewN _)).mono ?_
  rintro e w8 ⟨V0, cV0, rfl, own8, hb8⟩
  have M8 := Lib.hid (show Below w7.heap.size w7 w8 from by
    repeat (first | exact Below.refl _ _ | assumption | refine bl_drewN ?_ _ | refine Below.drew ?_ | refine bl_al ?_ _ | (refine Below.setCell ?_ (by simp <;> omega) _) | refine bl_tr ?_ (by assumption)))
  have U8 := Lib.hid (bl_tr U7.out M8.out)
  have Z8 := Lib.hid (show w7.heap.size ≤ w8.heap.size from M8.out.size)
  have FA0_8 := Lib.hid (FA0_7.out.below M8.out)
  have FA1_8 := Lib.hid (FA1_7.out.below M8.out)
  have FW0_8 := Lib.hid (FW0_7.out.below M8.out)
  have FX0_8 := Lib.hid (FX0_7.out.below M8.out)
  have FX1_8 := Lib.hid (FX1_7.out.below M8.out)
  have FG0_8 := Lib.hid (FG0_7.out.below M8.out)
  have FV0_8 := Lib.hid (show OP w8 w7.heap.size w8.heap.size V0 p0.length cV0 p0 from OP.mk own8)
  clear own8 hb8
  go_wp2_with fail
  refine (eqPointS_same _ _ _ _ _ (p0) _ hM0 (by with_reducible first | exact FX0_8.out.pi | exact (FX0_8.out.pi).drewN _) (by with_reducible first | exact FV0_8.out.pi | exact (FV0_8.out.pi).drewN _)).mono ?_
  rintro e w9 ⟨rfl, hb9⟩
  have M9 := Lib.hid (show Below w8.heap.size w8 w9 from by
    repeat (first | exact Below.refl _ _ | assumption | refine bl_drewN ?_ _ | refine Below.drew ?_ | refine bl_al ?_ _ | (refine Below.setCell ?_ (by simp <;> omega) _) | refine bl_tr ?_ (by assumption)))
  have U9 := Lib.hid (bl_tr U8.out M9.out)
  have Z9 := Lib.hid (show w8.heap.size ≤ w9.heap.size from M9.out.size)
  have FA0_9 := Lib.hid (FA0_8.out.below M9.out)
  have FA1_9 := Lib.hid (FA1_8.out.below M9.out)
  have FW0_9 := Lib.hid (FW0_8.out.below M9.out)
  have FX0_9 := Lib.hid (FX0_8.out.below M9.out)
  have FX1_9 := Lib.hid (FX1_8.out.below M9.out)
  have FG0_9 := Lib.hid (FG0_8.out.below M9.out)
  have FV0_9 := Lib.hid (FV0_8.out.below M9.out)
  clear hb9
  go_wp2_with fail
  refine (toPointS_any _ _ _ p1 _ hm1 (by with_reducible first | exact FA1_9.out.pi | exact (FA1_9.out.pi).drewN _)).mono ?_
  rintro e w10 ⟨V1, cV1, rfl, own10, hb10⟩
  have M10 := Lib.hid (show Below w9.heap.size w9 w10 from by
    repeat (first | exact Below.refl _ _ | assumption | refine bl_drewN ?_ _ | refine Below.drew ?_ | refine bl_al ?_ _ | (refine Below.setCell ?_ (by simp <;> omega) _) | refine bl_tr ?_ (by assumption)))
  have U10 := Lib.hid (bl_tr U9.out M10.out)
  have Z10 := Lib.hid (show w9.heap.size ≤ w10.heap.size from M10.out.size)
  have FA0_10 := Lib.hid (FA0_9.out.below M10.out)
  have FA1_10 := Lib.hid (FA1_9.out.below M10.out)
  have FW0_10 := Lib.hid (FW0_9.out.below M10.out)
  have FX0_10 := Lib.hid (FX0_9.out.below M10.out)
  have FX1_10 := Lib.hid (FX1_9.out.below M10.out)
  have FG0_10 := Lib.hid (FG0_9.out.below M10.out)
  have FV1_10 := Lib.hid (show OP w10 w9.heap.size w10.heap.size V1 p1.length cV1 p1 from OP.mk own10)
  clear own10 hb10
  go_wp2_with fail
  refine (eqPointS_same _ _ _ _ _ (p1) _ hM1 (by with_reducible first | exact FX1_10.out.pi | exact (FX1_10.out.pi).drewN _) (by with_reducible first | exact FV1_10.out.pi | exact (FV1_10.out.pi).drewN _)).mono ?_
  rintro e w11 ⟨rfl, hb11⟩
  have M11 := Lib.hid (show Below w10.heap.size w10 w11 from by
    repeat (first | exact Below.refl _ _ | assumption | refine bl_drewN ?_ _ | refine Below.drew ?_ | refine bl_al ?_ _ | (refine Below.setCell ?_ (by simp <;> omega) _) | refine bl_tr ?_ (by assumption)))
  have U11 := Lib.hid (bl_tr U10.out M11.out)
  have Z11 := Lib.hid (show w10.heap.size ≤ w11.heap.size from M11.out.size)
  have FA0_11 := Lib.hid (FA0_10.out.below M11.out)
  have FA1_11 := Lib.hid (FA1_10.out.below M11.out)
  have FW0_11 := Lib.hid (FW0_10.out.below M11.out)
  have FX0_11 := Lib.hid (FX0_10.out.below M11.out)
  have FX1_11 := Lib.hid (FX1_10.out.below M11.out)
  have FG0_11 := Lib.hid (FG0_10.out.below M11.out)
  have FV1_11 := Lib.hid (FV1_10.out.below M11.out)
  clear hb11
  have kp12 : (0 : Int) ≤ 1 := by omega
  have kq12 : (1 : Int) ≤ 1152921504606846976 := by omega
  go_wp2_with fail
  refine (markPointS_any _ _ _ _ _ (1) _ hM0 kp12 kq12 (by with_reducible first | exact FX0_11.out.own | exact own_drewN FX0_11.out.own _)).mono ?_
  rintro e w12 ⟨rfl, own12, hg12⟩
  have T12 := Lib.hid (show Touch w3.heap.size w4.heap.size w11 w12 from by first | exact Touch.of_grown hg12 (fun k hk => ⟨(FX0_11.out.1.lt k hk).1, FX0_11.out.2 k hk⟩) | exact (Touch.of_grown hg12 (fun k hk => ⟨(FX0_11.out.1.lt k hk).1, FX0_11.out.2 k hk⟩)).drewN)
  have Z12 := Lib.hid (show w11.heap.size ≤ w12.heap.size from T12.out.size)
  have U12 := Lib.hid (T12.out.below U11.out (Nat.le_trans (Nat.le_trans Z1.out Z2.out) Z3.out) (Nat.le_trans (Nat.le_trans (Nat.le_trans (Nat.le_trans (Nat.le_trans (Nat.le_trans (Nat.le_trans (Nat.le_trans (Nat.le_trans (Nat.le_trans Z1.out Z2.out) Z3.out) Z4.out) Z5.out) Z6.out) Z7.out) Z8.out) Z9.out) Z10.out) Z11.out))
  have FA0_12 := Lib.hid (FA0_11.out.touch T12.out (Nat.le_trans (Nat.le_trans Z1.out Z2.out) Z3.out))
  have FA1_12 := Lib.hid (FA1_11.out.touch T12.out (Nat.le_trans (Nat.le_trans Z1.out Z2.out) Z3.out))
  have FW0_12 := Lib.hid (FW0_11.out.touch T12.out (.inl (Nat.le_refl _)))
  have FX1_12 := Lib.hid (FX1_11.out.touch T12.out (.inr (Nat.le_refl _)))
  have FG0_12 := Lib.hid (FG0_11.out.touch T12.out (.inr Z5.out))
  clear own12 hg12
  have kp13 : (0 : Int) ≤ 1 + (p0.length * 2 : Nat) := by omega
  have kq13 : (1 + (p0.length * 2 : Nat) : Int) ≤ 1152921504606846976 := by omega
  go_wp2_with fail
  refine (markPointS_any _ _ _ _ _ (1 + (p0.length * 2 : Nat)) _ hM1 kp13 kq13 (by with_reducible first | exact FX1_12.out.own | exact own_drewN FX1_12.out.own _)).mono ?_
  rintro e w13 ⟨rfl, own13, hg13⟩
  have T13 := Lib.hid (show Touch w4.heap.size w5.heap.size w12 w13 from by first | exact Touch.of_grown hg13 (fun k hk => ⟨(FX1_12.out.1.lt k hk).1, FX1_12.out.2 k hk⟩) | exact (Touch.of_grown hg13 (fun k hk => ⟨(FX1_12.out.1.lt k hk).1, FX1_12.out.2 k hk⟩)).drewN)
  have Z13 := Lib.hid (show w12.heap.size ≤ w13.heap.size from T13.out.size)
  have U13 := Lib.hid (T13.out.below U12.out (Nat.le_trans (Nat.le_trans (Nat.le_trans Z1.out Z2.out) Z3.out) Z4.out) (Nat.le_trans (Nat.le_trans (Nat.le_trans (Nat.le_trans (Nat.le_trans (Nat.le_trans (Nat.le_trans (Nat.le_trans (Nat.le_trans (Nat.le_trans (Nat.le_trans Z1.out Z2.out) Z3.out) Z4.out) Z5.out) Z6.out) Z7.out) Z8.out) Z9.out) Z10.out) Z11.out) Z12.out))
  have FA0_13 := Lib.hid (FA0_12.out.touch T13.out (Nat.le_trans (Nat.le_trans (Nat.le_trans Z1.out Z2.out) Z3.out) Z4.out))
  have FA1_13 := Lib.hid (FA1_12.out.touch T13.out (Nat.le_trans (Nat.le_trans (Nat.le_trans Z1.out Z2.out) Z3.out) Z4.out))
  have FW0_13 := Lib.hid (FW0_12.out.touch T13.out (.inl Z4.out))
  have FG0_13 := Lib.hid (FG0_12.out.touch T13.out (.inr (Nat.le_refl _)))
  clear own13 hg13
  have kr : (0 : Int) ≤ 1 + (p0.length * 2 : Nat) + (p1.length * 2 : Nat) := by omega
  go_wp2_with fail
  refine (eqPointS_same _ _ _ _ _ (pbX p0 p1 y z) _ hR (by with_reducible first | exact FG0_13.out.pi | exact (FG0_13.out.pi).drewN _) (by with_reducible first | exact FW0_13.out.pi | exact (FW0_13.out.pi).drewN _)).mono ?_
  rintro e w14 ⟨rfl, hb14⟩
  have M14 := Lib.hid (show Below w13.heap.size w13 w14 from by
    repeat (first | exact Below.refl _ _ | assumption | refine bl_drewN ?_ _ | refine Below.drew ?_ | refine bl_al ?_ _ | (refine Below.setCell ?_ (by simp <;> omega) _) | refine bl_tr ?_ (by assumption)))
  have U14 := Lib.hid (bl_tr U13.out M14.out)
  have Z14 := Lib.hid (show w13.heap.size ≤ w14.heap.size from M14.out.size)
  have FA0_14 := Lib.hid (FA0_13.out.below M14.out)
  have FA1_14 := Lib.hid (FA1_13.out.below M14.out)
  have FW0_14 := Lib.hid (FW0_13.out.below M14.out)
  have FG0_14 := Lib.hid (FG0_13.out.below M14.out)
  clear hb14
  have kp15 : (0 : Int) ≤ 1 := by omega
  have kq15 : (1 : Int) ≤ 1152921504606846976 := by omega
  go_wp2_with fail
  refine (markPointS_any _ _ _ _ _ (1) _ hR kp15 kq15 (by with_reducible first | exact FG0_14.out.own | exact own_drewN FG0_14.out.own _)).mono ?_
  rintro e w15 ⟨rfl, own15, hg15⟩
  have T15 := Lib.hid (show Touch w5.heap.size w6.heap.size w14 w15 from by first | exact Touch.of_grown hg15 (fun k hk => ⟨(FG0_14.out.1.lt k hk).1, FG0_14.out.2 k hk⟩) | exact (Touch.of_grown hg15 (fun k hk => ⟨(FG0_14.out.1.lt k hk).1, FG0_14.out.2 k hk⟩)).drewN)
  have Z15 := Lib.hid (show w14.heap.size ≤ w15.heap.size from T15.out.size)
  have U15 := Lib.hid (T15.out.below U14.out (Nat.le_trans (Nat.le_trans (Nat.le_trans (Nat.le_trans Z1.out Z2.out) Z3.out) Z4.out) Z5.out) (Nat.le_trans (Nat.le_trans (Nat.le_trans (Nat.le_trans (Nat.le_trans (Nat.le_trans (Nat.le_trans (Nat.le_trans (Nat.le_trans (Nat.le_trans (Nat.le_trans (Nat.le_trans (Nat.le_trans Z1.out Z2.out) Z3.out) Z4.out) Z5.out) Z6.out) Z7.out) Z8.out) Z9.out) Z10.out) Z11.out) Z12.out) Z13.out) Z14.out))
  have FA0_15 := Lib.hid (FA0_14.out.touch T15.out (Nat.le_trans (Nat.le_trans (Nat.le_trans (Nat.le_trans Z1.out Z2.out) Z3.out) Z4.out) Z5.out))
  have FA1_15 := Lib.hid (FA1_14.out.touch T15.out (Nat.le_trans (Nat.le_trans (Nat.le_trans (Nat.le_trans Z1.out Z2.out) Z3.out) Z4.out) Z5.out))
  have FW0_15 := Lib.hid (FW0_14.out.touch T15.out (.inl (Nat.le_trans Z4.out Z5.out)))
  have FG0_15 := Lib.hid (show OP w15 w5.heap.size w6.heap.size G0 (pbX p0 p1 y z).length cG0 (mkP (1) (pbX p0 p1 y z).length) from ⟨own15, fun k hk => FG0_14.out.2 k hk⟩)
  clear own15 hg15
  have ks : (0 : Int) ≤ 1 + ((pbX p0 p1 y z).length * 2 : Nat) := by omega
  go_wp2_with fail
  refine (heldPointS_same _ _ _ 1 _ hR (by omega) (by omega) (by with_reducible first | exact FG0_15.out.pi | exact (FG0_15.out.pi).drewN _)).mono ?_
  rintro e w' ⟨rfl, k1, rfl⟩
  go_wp2_with fail
  refine (toPointS_any _ _ _ p0 _ hm0 (by with_reducible first | exact FA0_15.out.pi | exact (FA0_15.out.pi).drewN _)).mono ?_
  rintro e w16 ⟨Y0, cY0, rfl, own16, hb16⟩
  have M16 := Lib.hid (show Below w15.heap.size w15 w16 from by
    repeat (first | exact Below.refl _ _ | assumption | refine bl_drewN ?_ _ | refine Below.drew ?_ | refine bl_al ?_ _ | (refine Below.setCell ?_ (by simp <;> omega) _) | refine bl_tr ?_ (by assumption)))
  have U16 := Lib.hid (bl_tr U15.out M16.out)
  have Z16 := Lib.hid (show w15.heap.size ≤ w16.heap.size from M16.out.size)
  have FA0_16 := Lib.hid (FA0_15.out.below M16.out)
  have FA1_16 := Lib.hid (FA1_15.out.below M16.out)
  have FW0_16 := Lib.hid (FW0_15.out.below M16.out)
  have FG0_16 := Lib.hid (FG0_15.out.below M16.out)
  have FY0_16 := Lib.hid (show OP w16 w15.heap.size w16.heap.size Y0 p0.length cY0 p0 from OP.mk own16)
  clear own16 hb16
  go_wp2_with fail
  refine (toPointS_any _ _ _ p1 _ hm1 (by with_reducible first | exact FA1_16.out.pi | exact (FA1_16.out.pi).drewN _)).mono ?_
  rintro e w17 ⟨Y1, cY1, rfl, own17, hb17⟩
  have M17 := Lib.hid (show Below w16.heap.size w16 w17 from by
    repeat (first | exact Below.refl _ _ | assumption | refine bl_drewN ?_ _ | refine Below.drew ?_ | refine bl_al ?_ _ | (refine Below.setCell ?_ (by simp <;> omega) _) | refine bl_tr ?_ (by assumption)))
  have U17 := Lib.hid (bl_tr U16.out M17.out)
  have Z17 := Lib.hid (show w16.heap.size ≤ w17.heap.size from M17.out.size)
  have FA0_17 := Lib.hid (FA0_16.out.below M17.out)
  have FA1_17 := Lib.hid (FA1_16.out.below M17.out)
  have FW0_17 := Lib.hid (FW0_16.out.below M17.out)
  have FG0_17 := Lib.hid (FG0_16.out.below M17.out)
  have FY0_17 := Lib.hid (FY0_16.out.below M17.out)
  have FY1_17 := Lib.hid (show OP w17 w16.heap.size w17.heap.size Y1 p1.length cY1 p1 from OP.mk own17)
  clear own17 hb17
  go_wp2_with fail
  refine (PoseBetween_v _ _ _ p0 _ _ _ p1 y z _ hm0 hm1 (by with_reducible first | exact FY0_17.out.pi | exact (FY0_17.out.pi).drewN _) (by with_reducible first | exact FY1_17.out.pi | exact (FY1_17.out.pi).drewN _)).mono ?_
  rintro e w18 ⟨H0, cH0, rfl, own18, hb18⟩
  have M18 := Lib.hid (show Below w17.heap.size w17 w18 from by
    repeat (first | exact Below.refl _ _ | assumption | refine bl_drewN ?_ _ | refine Below.drew ?_ | refine bl_al ?_ _ | (refine Below.setCell ?_ (by simp <;> omega) _) | refine bl_tr ?_ (by assumption)))
  have U18 := Lib.hid (bl_tr U17.out M18.out)
  have Z18 := Lib.hid (show w17.heap.size ≤ w18.heap.size from M18.out.size)
  have FA0_18 := Lib.hid (FA0_17.out.below M18.out)
  have FA1_18 := Lib.hid (FA1_17.out.below M18.out)
  have FW0_18 := Lib.hid (FW0_17.out.below M18.out)
  have FG0_18 := Lib.hid (FG0_17.out.below M18.out)
  have FY0_18 := Lib.hid (FY0_17.out.below M18.out)
  have FY1_18 := Lib.hid (FY1_17.out.below M18.out)
  have FH0_18 := Lib.hid (show OP w18 w17.heap.size w18.heap.size H0 (pbX p0 p1 y z).length cH0 (pbX p0 p1 y z) from OP.mk own18)
  clear own18 hb18
  go_wp2_with fail
  refine (eqPointS_same _ _ _ _ _ (pbX p0 p1 y z) _ hR (by with_reducible first | exact FH0_18.out.pi | exact (FH0_18.out.pi).drewN _) (by with_reducible first | exact FW0_18.out.pi | exact (FW0_18.out.pi).drewN _)).mono ?_
  rintro e w19 ⟨rfl, hb19⟩
  have M19 := Lib.hid (show Below w18.heap.size w18 w19 from by
    repeat (first | exact Below.refl _ _ | assumption | refine bl_drewN ?_ _ | refine Below.drew ?_ | refine bl_al ?_ _ | (refine Below.setCell ?_ (by simp <;> omega) _) | refine bl_tr ?_ (by assumption)))
  have U19 := Lib.hid (bl_tr U18.out M19.out)
  have Z19 := Lib.hid (show w18.heap.size ≤ w19.heap.size from M19.out.size)
  have FA0_19 := Lib.hid (FA0_18.out.below M19.out)
  have FA1_19 := Lib.hid (FA1_18.out.below M19.out)
  have FW0_19 := Lib.hid (FW0_18.out.below M19.out)
  have FG0_19 := Lib.hid (FG0_18.out.below M19.out)
  have FY0_19 := Lib.hid (FY0_18.out.below M19.out)
  have FY1_19 := Lib.hid (FY1_18.out.below M19.out)
  have FH0_19 := Lib.hid (FH0_18.out.below M19.out)
  clear hb19
  go_wp2_with fail
  refine (heldPointS_same _ _ _ 1 _ hR (by omega) (by omega) (by with_reducible first | exact FG0_19.out.pi | exact (FG0_19.out.pi).drewN _)).mono ?_
  rintro e w' ⟨rfl, k2, rfl⟩
  go_wp2_with fail
  go_ret
  exact ⟨rfl, by first | exact U19.out | exact bl_drewN U19.out _⟩
end Go.Proofs.Ytofjohkhhomldaa

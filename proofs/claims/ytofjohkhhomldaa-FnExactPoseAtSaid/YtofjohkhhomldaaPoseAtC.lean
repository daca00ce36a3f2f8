/-
  PROVED HERE: the walk of PoseAt: the program and the reference agree. CONDITIONS: the arguments' cells lie in the world.
-/
import Derived.Test.YtofjohkhhomldaaAt
namespace Go.Proofs.Ytofjohkhhomldaa
open Go.RowKit

def paX (ks : List Key) (y : Int) : List Pnt := if vk ks && inB y (kd ks 0).1 (kd ks (ks.length - 1)).1 then atX ks y else []
def paK (ks : List Key) (y : Int) : Int := if vk ks then (if inB y (kd ks 0).1 (kd ks (ks.length - 1)).1 then 0 else 2) else 1
theorem paX_le (ks : List Key) (y : Int) : (paX ks y).length ≤ 8 := by
  unfold paX
  split
  · rename_i h
    simp only [Bool.and_eq_true] at h
    have hv := vk_t h.1
    rw [atX_len]
    exact (kd8 hv (j := 0) (by have := hv.lo; omega)).2.1
  · simp
set_option maxHeartbeats 4000000 in
theorem PoseAt_v {hi : Nat} (A : Option Addr) (n c : Nat) (ks : List Key) (y : Int) (w : World) (hm : kbulk ks ≤ 1048576) (hA : KR w hi A n ks) :
    Calls Try.prog 38 #[.slice A n c, .int .i64 y] w (PlC w.heap.size (paX ks y) (paK ks y) w) := by
  have HL := Lib.hid hA.1
  have HA := Lib.hid hA
  clear hA
  cases h0 : vk ks
  case false =>
    have e1 : paX ks y = [] := by simp [paX, h0]
    have e2 : paK ks y = 1 := by simp [paK, h0]
    rw [e1, e2]
    clear e1 e2
    go_enter Try.func38, Try.ntmps38
    go_wp2_with fail
    refine (ValidKeys_any _ _ _ ks _ hm HA.out).mono ?_
    rintro e w1 ⟨rfl, hb1⟩
    have HA1 := Lib.hid (HA.out.below hb1)
    have HW1 := Lib.hid hb1
    clear hb1
    go_wp2_with fail
    go_ret2
    exact PlC.none_ HW1.out
  have HV := Lib.hid (vk_t h0)
  obtain ⟨q, rfl⟩ : ∃ q, n = q + 1 := ⟨n - 1, by have := HV.out.lo; have := HL.out; omega⟩
  have hq : q ≤ 9 := by have := HV.out.hi; have := HL.out; omega
  have hl : ks.length - 1 = q := by have := HL.out; omega
  cases h1 : inB y (kd ks 0).1 (kd ks q).1
  case false =>
    have e1 : paX ks y = [] := by simp only [paX, h0, hl, h1]; rfl
    have e2 : paK ks y = 2 := by simp only [paK, h0, hl, h1]; rfl
    rw [e1, e2]
    clear e1 e2 hl
    go_enter Try.func38, Try.ntmps38
    go_wp2_with fail
    refine (ValidKeys_any _ _ _ ks _ hm HA.out).mono ?_
    rintro e w1 ⟨rfl, hb1⟩
    have HA1 := Lib.hid (HA.out.below hb1)
    have HW1 := Lib.hid hb1
    clear hb1
    obtain ⟨b0, o0, A0, c0, hA0, _, _, g1, _, hp0⟩ := HA1.out.at_ (k := 0) (by omega)
    obtain ⟨b1, o1, A1, c1, hA1, _, _, g2, _, hp1⟩ := HA1.out.at_ (k := q) (by omega)
    obtain ⟨rfl, rfl⟩ : b1 = b0 ∧ o1 = o0 := by rw [hA0] at hA1; injection hA1 with e; injection e with e1 e2; exact ⟨e1.symm, e2.symm⟩
    rw [Nat.zero_mul, Nat.add_zero] at g1
    subst hA0
    clear hA1 hp0 hp1
    have s1 : (0 : Int) ≤ (q : Int) := by omega
    have s2 : (q : Int) < (q : Int) + 1 := by omega
    have s3 : q < q + 1 := by omega
    have s4 : (0 : Int) < (q : Int) + 1 := by omega
    have s5 : 0 < q + 1 := by omega
    have s11 : IntKind.i64.wrap (q : Int) = (q : Int) := w64' (by omega) (by omega)
    obtain ⟨t0, ht0⟩ : ∃ t, t = (kd ks 0).1 := ⟨_, rfl⟩
    obtain ⟨t1, ht1⟩ : ∃ t, t = (kd ks q).1 := ⟨_, rfl⟩
    rw [← ht0, ← ht1] at h1
    rw [← ht0] at g1
    rw [← ht1] at g2
    clear ht0 ht1
    go_wp2_with fail
    go_quiet ((go_at_call 55; first | (with_reducible exact quiet_left (within_v h1 _)) | (with_reducible exact quiet_add_left (within_v h1 _))))
    go_wp2_with fail
    go_ret2
    exact PlC.none_ (bl_drewN HW1.out _)
  have e1 : paX ks y = atX ks y := by simp only [paX, h0, hl, h1]; rfl
  have e2 : paK ks y = 0 := by simp only [paK, h0, hl, h1]; rfl
  rw [e1, e2]
  clear e1 e2 hl
  have R0 := Lib.hid (inB_t h1).1
  have R1 := Lib.hid (inB_t h1).2
  go_enter Try.func38, Try.ntmps38
  go_wp2_with fail
  refine (ValidKeys_any _ _ _ ks _ hm HA.out).mono ?_
  rintro e w1 ⟨rfl, hb1⟩
  have HA1 := Lib.hid (HA.out.below hb1)
  have HW1 := Lib.hid hb1
  clear hb1
  obtain ⟨b0, o0, A0, c0, hA0, _, _, g1, _, hp0⟩ := HA1.out.at_ (k := 0) (by omega)
  obtain ⟨b1, o1, A1, c1, hA1, _, _, g2, _, hp1⟩ := HA1.out.at_ (k := q) (by omega)
  obtain ⟨rfl, rfl⟩ : b1 = b0 ∧ o1 = o0 := by rw [hA0] at hA1; injection hA1 with e; injection e with e1 e2; exact ⟨e1.symm, e2.symm⟩
  rw [Nat.zero_mul, Nat.add_zero] at g1
  subst hA0
  clear hA1 hp0 hp1
  have s1 : (0 : Int) ≤ (q : Int) := by omega
  have s2 : (q : Int) < (q : Int) + 1 := by omega
  have s3 : q < q + 1 := by omega
  have s4 : (0 : Int) < (q : Int) + 1 := by omega
  have s5 : 0 < q + 1 := by omega
  have s11 : IntKind.i64.wrap (q : Int) = (q : Int) := w64' (by omega) (by omega)
  obtain ⟨t0, ht0⟩ : ∃ t, t = (kd ks 0).1 := ⟨_, rfl⟩
  obtain ⟨t1, ht1⟩ : ∃ t, t = (kd ks q).1 := ⟨_, rfl⟩
  rw [← ht0, ← ht1] at h1
  rw [← ht0] at g1
  rw [← ht1] at g2
  clear ht0 ht1
  go_wp2_with fail
  go_quiet ((go_at_call 55; first | (with_reducible exact quiet_left (within_v h1 _)) | (with_reducible exact quiet_add_left (within_v h1 _))))
  go_wp2_with fail
  refine (poseAt_any _ (q + 1) _ ks y _ HV.out R0.out R1.out (HA1.out.drewN _)).mono ?_
  rintro e w2 ⟨A2, c2, rfl, own2, hb2⟩
  have OWN := Lib.hid (show w2.ownsRow w.heap.size 61 2 (.slice A2 (atX ks y).length c2) (atX ks y).length (flat (atX ks y)) from own2.mono HW1.out.size)
  have HW2 := Lib.hid (bl_tr (bl_drewN HW1.out _) hb2)
  clear own2 hb2
  go_wp2_with fail
  go_ret2
  exact ⟨A2, c2, rfl, OWN.out, HW2.out⟩

set_option maxHeartbeats 4000000 in
theorem lPoseAt_v {hi : Nat} (A : Option Addr) (n c : Nat) (ks : List Key) (y : Int) (w : World) (hm : kbulk ks ≤ 1048576) (hA : KR w hi A n ks) :
    Calls Try.prog 37 #[.slice A n c, .int .i64 y] w (PlC w.heap.size (paX ks y) (paK ks y) w) := by
  have HL := Lib.hid hA.1
  have HA := Lib.hid hA
  clear hA
  cases h0 : vk ks
  case false =>
    have e1 : paX ks y = [] := by simp [paX, h0]
    have e2 : paK ks y = 1 := by simp [paK, h0]
    rw [e1, e2]
    clear e1 e2
    go_enter Try.func37, Try.ntmps37
    go_wp2_with fail
    refine (l04Keys_any _ _ _ ks _ hm HA.out).mono ?_
    rintro e w1 ⟨rfl, hb1⟩
    have HA1 := Lib.hid (HA.out.below hb1)
    have HW1 := Lib.hid hb1
    clear hb1
    go_wp2_with fail
    go_ret2
    exact PlC.none_ HW1.out
  have HV := Lib.hid (vk_t h0)
  obtain ⟨q, rfl⟩ : ∃ q, n = q + 1 := ⟨n - 1, by have := HV.out.lo; have := HL.out; omega⟩
  have hq : q ≤ 9 := by have := HV.out.hi; have := HL.out; omega
  have hl : ks.length - 1 = q := by have := HL.out; omega
  cases h1 : inB y (kd ks 0).1 (kd ks q).1
  case false =>
    have e1 : paX ks y = [] := by simp only [paX, h0, hl, h1]; rfl
    have e2 : paK ks y = 2 := by simp only [paK, h0, hl, h1]; rfl
    rw [e1, e2]
    clear e1 e2 hl
    go_enter Try.func37, Try.ntmps37
    go_wp2_with fail
    refine (l04Keys_any _ _ _ ks _ hm HA.out).mono ?_
    rintro e w1 ⟨rfl, hb1⟩
    have HA1 := Lib.hid (HA.out.below hb1)
    have HW1 := Lib.hid hb1
    clear hb1
    obtain ⟨b0, o0, A0, c0, hA0, _, _, g1, _, hp0⟩ := HA1.out.at_ (k := 0) (by omega)
    obtain ⟨b1, o1, A1, c1, hA1, _, _, g2, _, hp1⟩ := HA1.out.at_ (k := q) (by omega)
    obtain ⟨rfl, rfl⟩ : b1 = b0 ∧ o1 = o0 := by rw [hA0] at hA1; injection hA1 with e; injection e with e1 e2; exact ⟨e1.symm, e2.symm⟩
    rw [Nat.zero_mul, Nat.add_zero] at g1
    subst hA0
    clear hA1 hp0 hp1
    have s1 : (0 : Int) ≤ (q : Int) := by omega
    have s2 : (q : Int) < (q : Int) + 1 := by omega
    have s3 : q < q + 1 := by omega
    have s4 : (0 : Int) < (q : Int) + 1 := by omega
    have s5 : 0 < q + 1 := by omega
    have s11 : IntKind.i64.wrap (q : Int) = (q : Int) := w64' (by omega) (by omega)
    obtain ⟨t0, ht0⟩ : ∃ t, t = (kd ks 0).1 := ⟨_, rfl⟩
    obtain ⟨t1, ht1⟩ : ∃ t, t = (kd ks q).1 := ⟨_, rfl⟩
    rw [← ht0, ← ht1] at h1
    rw [← ht0] at g1
    rw [← ht1] at g2
    clear ht0 ht1
    go_wp2_with fail
    go_quiet ((go_at_call 57; first | (with_reducible exact quiet_left (l00In_v h1 _)) | (with_reducible exact quiet_add_left (l00In_v h1 _))))
    go_wp2_with fail
    go_ret2
    exact PlC.none_ (bl_drewN HW1.out _)
  have e1 : paX ks y = atX ks y := by simp only [paX, h0, hl, h1]; rfl
  have e2 : paK ks y = 0 := by simp only [paK, h0, hl, h1]; rfl
  rw [e1, e2]
  clear e1 e2 hl
  have R0 := Lib.hid (inB_t h1).1
  have R1 := Lib.hid (inB_t h1).2
  go_enter Try.func37, Try.ntmps37
  go_wp2_with fail
  refine (l04Keys_any _ _ _ ks _ hm HA.out).mono ?_
  rintro e w1 ⟨rfl, hb1⟩
  have HA1 := Lib.hid (HA.out.below hb1)
  have HW1 := Lib.hid hb1
  clear hb1
  obtain ⟨b0, o0, A0, c0, hA0, _, _, g1, _, hp0⟩ := HA1.out.at_ (k := 0) (by omega)
  obtain ⟨b1, o1, A1, c1, hA1, _, _, g2, _, hp1⟩ := HA1.out.at_ (k := q) (by omega)
  obtain ⟨rfl, rfl⟩ : b1 = b0 ∧ o1 = o0 := by rw [hA0] at hA1; injection hA1 with e; injection e with e1 e2; exact ⟨e1.symm, e2.symm⟩
  rw [Nat.zero_mul, Nat.add_zero] at g1
  subst hA0
  clear hA1 hp0 hp1
  have s1 : (0 : Int) ≤ (q : Int) := by omega
  have s2 : (q : Int) < (q : Int) + 1 := by omega
  have s3 : q < q + 1 := by omega
  have s4 : (0 : Int) < (q : Int) + 1 := by omega
  have s5 : 0 < q + 1 := by omega
  have s11 : IntKind.i64.wrap (q : Int) = (q : Int) := w64' (by omega) (by omega)
  obtain ⟨t0, ht0⟩ : ∃ t, t = (kd ks 0).1 := ⟨_, rfl⟩
  obtain ⟨t1, ht1⟩ : ∃ t, t = (kd ks q).1 := ⟨_, rfl⟩
  rw [← ht0, ← ht1] at h1
  rw [← ht0] at g1
  rw [← ht1] at g2
  clear ht0 ht1
  go_wp2_with fail
  go_quiet ((go_at_call 57; first | (with_reducible exact quiet_left (l00In_v h1 _)) | (with_reducible exact quiet_add_left (l00In_v h1 _))))
  go_wp2_with fail
  refine (l04At_any _ (q + 1) _ ks y _ HV.out R0.out R1.out (HA1.out.drewN _)).mono ?_
  rintro e w2 ⟨A2, c2, rfl, own2, hb2⟩
  have OWN := Lib.hid (show w2.ownsRow w.heap.size 61 2 (.slice A2 (atX ks y).length c2) (atX ks y).length (flat (atX ks y)) from own2.mono HW1.out.size)
  have HW2 := Lib.hid (bl_tr (bl_drewN HW1.out _) hb2)
  clear own2 hb2
  go_wp2_with fail
  go_ret2
  exact ⟨A2, c2, rfl, OWN.out, HW2.out⟩

end Go.Proofs.Ytofjohkhhomldaa

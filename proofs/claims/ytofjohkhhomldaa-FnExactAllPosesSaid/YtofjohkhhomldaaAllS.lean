/-
  PROVED HERE: the walk of AllPoses (the reference): the program and the reference agree. CONDITIONS: the arguments' cells lie in the world.
-/
import Derived.Test.YtofjohkhhomldaaAll
namespace Go.Proofs.Ytofjohkhhomldaa
open Go.RowKit

set_option maxHeartbeats 3000000 in
theorem lAllPoses_v {hi : Nat} (A : Option Addr) (n c : Nat) (ks : List Key) (y : Int) (w : World) (hm : kbulk ks ≤ 1048576) (hA : KR w hi A n ks) :
    Calls Try.prog 44 #[.slice A n c, .int .i64 y] w (WCP w.heap.size (apX ks y) (apK ks y) w) := by
  obtain ⟨j0, hj, hy0, hy1, hy2⟩ := info_parts info_P
  have HL := Lib.hid hA.1
  have HA := Lib.hid hA.self
  clear hA
  cases h0 : vk ks
  case false =>
    have e1 : apX ks y = [] := by simp [apX, h0]
    have e2 : apK ks y = 1 := by simp [apK, h0]
    rw [e1, e2]
    clear e1 e2
    go_enter Try.func44, Try.ntmps44
    go_wp2_with fail
    refine (l04Keys_any _ _ _ ks _ hm HA.out).mono ?_
    rintro e w1 ⟨rfl, hb1⟩
    have HA1 := Lib.hid (HA.out.below hb1)
    have HW1 := Lib.hid hb1
    clear hb1
    go_wp2_with fail
    go_ret2
    exact WCP.none_ HW1.out
  cases h1 : inB y 1 10000
  case false =>
    have e1 : apX ks y = [] := by simp [apX, h0, h1]
    have e2 : apK ks y = 2 := by simp [apK, h0, h1]
    rw [e1, e2]
    clear e1 e2
    go_enter Try.func44, Try.ntmps44
    go_wp2_with fail
    refine (l04Keys_any _ _ _ ks _ hm HA.out).mono ?_
    rintro e w1 ⟨rfl, hb1⟩
    have HA1 := Lib.hid (HA.out.below hb1)
    have HW1 := Lib.hid hb1
    clear hb1
    go_wp2_with fail
    refine (l00In_v h1 _).mono ?_
    rintro e w' ⟨rfl, rfl⟩
    go_wp2_with fail
    go_ret2
    exact WCP.none_ HW1.out
  obtain ⟨y1, y2⟩ := inB_t h1
  have HV := Lib.hid (vk_t h0)
  obtain ⟨q, rfl⟩ : ∃ q, n = q + 1 := ⟨n - 1, by have := HV.out.lo; have := HL.out; omega⟩
  have hq : q ≤ 9 := by have := HV.out.hi; have := HL.out; omega
  have hL2 : ks.length = q + 1 := HL.out
  have hl : ks.length - 1 = q := by omega
  have hx1 : 0 ≤ (kd ks q).1 - (kd ks 0).1 ∧ (kd ks q).1 - (kd ks 0).1 ≤ 10000 := by
    have a0 := HV.out.tick 0 (by omega)
    have a1 := HV.out.tick q (by omega)
    by_cases e : q = 0
    · subst e; omega
    · have := HV.out.lt (show 0 < q by omega) (by omega); omega
  have a0 := HV.out.tick 0 (by omega)
  have a1 := HV.out.tick q (by omega)
  have hap : apD ks y = ((kd ks q).1 - (kd ks 0).1) / y := by unfold apD; rw [hl]
  have s6 : (0 : Int) ≤ (q : Int) := by omega
  have s7 : (q : Int) < (q : Int) + 1 := by omega
  have s8 : q < q + 1 := by omega
  have s9 : (0 : Int) < (q : Int) + 1 := by omega
  have s10 : 0 < q + 1 := by omega
  have s11 : IntKind.i64.wrap (q : Int) = (q : Int) := w64' (by omega) (by omega)
  have s12 : (y == 0) = false := by simp; omega
  have s13 : ¬ y = 0 := by omega
  obtain ⟨t0, ht0⟩ : ∃ t, t = (kd ks 0).1 := ⟨_, rfl⟩
  obtain ⟨t1, ht1⟩ : ∃ t, t = (kd ks q).1 := ⟨_, rfl⟩
  rw [← ht0] at hx1 a0 hap
  rw [← ht1] at hx1 a1 hap
  have hdn : 0 ≤ (t1 - t0) / y := Int.ediv_nonneg (by omega) (by omega)
  have hdm : (t1 - t0) / y ≤ 10000 := Int.le_trans (Int.ediv_le_self y (by omega)) (by omega)
  obtain ⟨D, hD⟩ : ∃ D, D = (t1 - t0) / y := ⟨_, rfl⟩
  rw [← hD] at hdn hdm hap
  have s14 : IntKind.i64.wrap (t1 - t0) = t1 - t0 := w64' (by omega) (by omega)
  have s15 : (t1 - t0).tdiv y = D := by rw [Int.tdiv_eq_ediv_of_nonneg (by omega)]; exact hD.symm
  have s16 : IntKind.i64.wrap D = D := w64' (by omega) (by omega)
  have s17 : IntKind.i64.wrap (D + 1) = D + 1 := w64' (by omega) (by omega)
  have HT0 := Lib.hid ht0
  have HT1 := Lib.hid ht1
  have HD := Lib.hid hD
  have HAP := Lib.hid hap
  obtain ⟨M, hM⟩ : ∃ M, M = (apD ks y).toNat + 1 := ⟨_, rfl⟩
  have hM2 : M = D.toNat + 1 := by rw [hM, hap]
  have HM := Lib.hid hM
  have HM2 := Lib.hid hM2
  have HLL0 := Lib.hid hL2
  clear ht0 ht1 hD hap hM hM2 hL2 hl
  cases h2 : decide (apD ks y < 100)
  case false =>
    have e1 : apX ks y = [] := by simp [apX, h0, h1, h2]
    have e2 : apK ks y = 5 := by simp [apK, h0, h1, h2]
    rw [e1, e2]
    clear e1 e2
    rw [HAP.out] at h2
    have h2' : ¬ D < 100 := by simpa using h2
    clear h2
    go_enter Try.func44, Try.ntmps44
    go_wp2_with fail
    refine (l04Keys_any _ _ _ ks _ hm HA.out).mono ?_
    rintro e w1 ⟨rfl, hb1⟩
    have HA1 := Lib.hid (HA.out.below hb1)
    have HW1 := Lib.hid hb1
    clear hb1
    go_wp2_with fail
    refine (l00In_v h1 _).mono ?_
    rintro e w' ⟨rfl, rfl⟩
    obtain ⟨b0, o0, A0, c0, hA0, _, _, g1, _, hp0⟩ := HA1.out.at_ (k := 0) (by omega)
    obtain ⟨b1, o1, A1, c1, hA1, _, _, g2, _, hp1⟩ := HA1.out.at_ (k := q) (by omega)
    obtain ⟨rfl, rfl⟩ : b1 = b0 ∧ o1 = o0 := by rw [hA0] at hA1; injection hA1 with e; injection e with e1 e2; exact ⟨e1.symm, e2.symm⟩
    rw [Nat.zero_mul, Nat.add_zero] at g1
    subst hA0
    rw [← HT0.out] at g1
    rw [← HT1.out] at g2
    clear hA1 hp0 hp1
    have s18 : (100 : Int) ≤ D := by omega
    have s19 : decide ((100 : Int) ≤ D) = true := by simp; omega
    have s20 : decide ((100 : Int) < D + 1) = true := by simp; omega
    go_wp2_with fail
    go_ret2
    exact WCP.none_ (by first | exact HW1.out | exact bl_drewN HW1.out _)
  have hlt100 : apD ks y < 100 := of_decide_eq_true h2
  have e1 : apX ks y = apI ks y ((apD ks y).toNat + 1) := by simp [apX, h0, h1, hlt100]
  have e2 : apK ks y = 0 := by simp [apK, h0, h1, hlt100]
  rw [← HM.out] at e1
  rw [e1, e2]
  rw [HAP.out] at hlt100
  clear e1 e2 h2
  go_enter Try.func44, Try.ntmps44
  go_wp2_with fail
  refine (l04Keys_any _ _ _ ks _ hm HA.out).mono ?_
  rintro e w1 ⟨rfl, hb1⟩
  have HA1 := Lib.hid (HA.out.below hb1)
  have HW1 := Lib.hid hb1
  clear hb1
  go_wp2_with fail
  refine (l00In_v h1 _).mono ?_
  rintro e w' ⟨rfl, rfl⟩
  obtain ⟨b0, o0, A0, c0, hA0, _, _, g1, _, hp0⟩ := HA1.out.at_ (k := 0) (by omega)
  obtain ⟨b1, o1, A1, c1, hA1, _, _, g2, _, hp1⟩ := HA1.out.at_ (k := q) (by omega)
  obtain ⟨rfl, rfl⟩ : b1 = b0 ∧ o1 = o0 := by rw [hA0] at hA1; injection hA1 with e; injection e with e1 e2; exact ⟨e1.symm, e2.symm⟩
  rw [Nat.zero_mul, Nat.add_zero] at g1
  subst hA0
  rw [← HT0.out] at g1
  rw [← HT1.out] at g2
  clear hA1 hp0 hp1
  have s19 : decide ((100 : Int) ≤ D) = false := by simp; omega
  have s20 : decide ((100 : Int) < D + 1) = false := by simp; omega
  have hM1 : M ≤ 100 := by have := HM2.out; omega
  go_wp2_with fail
  go_loopw [8, 9] (fun v i wr => ∃ (k : Nat) (As : Nat → Option Addr) (Cs : Nat → Nat), k ≤ M ∧ i = .int .i64 (t0 + (k : Int) * y) ∧ wr.ownsRow w.heap.size 25 1 v k (Prc As Cs ((apI ks y M).take k)) ∧ NWP wr w.heap.size As Cs (apI ks y M) k ∧ Below w.heap.size w wr ∧ KR wr w.heap.size (some ⟨b1, o1, none⟩) (q + 1) ks) (fun _ i _ => (t1 + 1 - intOf i).toNat)
  case atStart => exact ⟨0, fun _ => none, fun _ => 0, Nat.zero_le _, by simp, by first | (simpa [Prc] using ((World.ownsRow_lit w1 #[] 0 (Nat.le_refl _) (Nat.zero_le _) (by simp)).mono HW1.out.size)) | (simpa [Prc] using own_drewN ((World.ownsRow_lit w1 #[] 0 (Nat.le_refl _) (Nat.zero_le _) (by simp)).mono HW1.out.size) _), NWP.zero _ _ _ _ _, by first | exact bl_al HW1.out _ | exact bl_drewN (bl_al HW1.out _) _, by first | exact HA1.out.below ((Below.refl _ _).alloc (Nat.le_refl _) _) | exact (HA1.out.below ((Below.refl _ _).alloc (Nat.le_refl _) _)).drewN _⟩
  case round =>
    obtain ⟨k, As, Cs, hk, rfl, ho, hin, hb, hkr⟩ := hrel
    have HO := Lib.hid ho
    have HI := Lib.hid hin
    have HB := Lib.hid hb
    have HK := Lib.hid hkr
    clear ho hb hkr hin
    have htk := ap_tick (x := t1 - t0) (y := y) (k := k) (by omega) y1
    rw [← HD.out, ← HM2.out] at htk
    have hke : ((k + 1 : Nat) : Int) * y = (k : Int) * y + y := by rw [show ((k + 1 : Nat) : Int) = (k : Int) + 1 by omega, Int.add_mul, Int.one_mul]
    have hky : 0 ≤ (k : Int) * y := Int.mul_nonneg (by omega) (by omega)
    obtain ⟨T, hT⟩ : ∃ T, T = t0 + (k : Int) * y := ⟨_, rfl⟩
    rw [← hT]
    by_cases hlt : k < M
    · have hle := htk.2 hlt
      have s21 : decide (T ≤ t1) = true := by simp; omega
      have s22 : IntKind.i64.wrap (T + y) = T + y := w64' (by omega) (by omega)
      have hrd := apI_rd ks y hlt
      rw [← HT0.out, ← hT] at hrd
      have htr := Ptake_rd (xss := apI ks y M) (k := k) (by rw [apI_len]; exact hlt)
      rw [hrd] at htr
      have hsn := Prc_snoc As Cs ((apI ks y M).take k) (atX ks T)
      rw [apI_take ks y (Nat.le_of_lt hlt), apI_len] at hsn
      rw [apI_take ks y (Nat.le_of_lt hlt)] at htr
      have HTR := Lib.hid htr
      have HSN := Lib.hid hsn
      have HRD := Lib.hid hrd
      have HTT := Lib.hid hT
      have HNX := Lib.hid (show T + y = t0 + ((k + 1 : Nat) : Int) * y from by rw [hT]; omega)
      have b1 : (kd ks 0).1 ≤ T := by rw [← HT0.out]; omega
      have b2 : T ≤ (kd ks (q + 1 - 1)).1 := by rw [Nat.add_sub_cancel, ← HT1.out]; omega
      have HB1 := Lib.hid b1
      have HB2 := Lib.hid b2
      have hT1 : T ≤ t1 := by omega
      clear htr hsn hrd htk hke b1 b2 hT
      have HO1 := Lib.hid (show wr.ownsRow w.heap.size 25 1 u8 k (Prc As Cs (apI ks y k)) from by have := HO.out; rwa [apI_take ks y (Nat.le_of_lt hlt)] at this)
      clear HO
      go_wp2_with fail
      refine (l04At_any _ _ _ ks T _ HV.out HB1.out HB2.out HK.out).mono ?_
      rintro e w2 ⟨A3, c3, rfl, own2, hb2⟩
      have HI2 := Lib.hid (HI.out.succ hb2 HB.out.size (by rw [HRD.out]; exact own2))
      have HO2 := Lib.hid (own_below HO1.out hb2)
      have HK2 := Lib.hid (HK.out.below hb2)
      have HW2 := Lib.hid (bl_tr HB.out hb2)
      have hz2s : w.heap.size ≤ w2.heap.size := HW2.out.size
      clear own2 hb2 HI HK HO1 HB
      obtain ⟨L, hL⟩ : ∃ L, L = (atX ks T).length := ⟨_, rfl⟩
      have HSN2 := Lib.hid (HSN.out A3 c3)
      rw [← hL] at HSN2 ⊢
      clear HSN
      have HLL := Lib.hid hL
      clear hL
      go_wp2_with (at_builtin; refine wpList_append_own _ rfl _ _ 55 rfl w.heap.size 25 j0 (.slice none 0 0) 1 24 Try.underlying55 hj hy0 hy1 hy2 rfl (by decide) _ _ _ rfl (HO2.out.alloc _) ⟨w2.heap.size, 0, none⟩ 1 1 [.slice A3 L c3] rfl rfl (cell_one_new _ _ _) (by intro u hu; simp only [List.mem_cons, List.mem_nil_iff, or_false] at hu; subst hu; rfl) (by unfold maxLen; omega) (by omega) (by simp; omega) ?_; intro v' w4 hown' hgrow _)
      have hb4 := ((bl_al HW2.out _).grown hgrow (by simp; omega) (fun j hj => (HO2.out.lt j hj).1))
      have HK4 := Lib.hid (KR.touch (HK2.out.below ((Below.refl _ _).alloc (Nat.le_refl _) _)) (Touch.of_grown hgrow (fun j hj => HO2.out.lt j hj)) (Nat.le_refl _))
      have HI4 := Lib.hid ((HI2.out.below ((Below.refl _ _).alloc (Nat.le_refl _) _)).grown (HO2.out.alloc _) hgrow)
      go_roundw
      case rel => exact ⟨k + 1, _, _, by omega, by first | rw [HNX.out] | rw [s22, HNX.out] | (simp only [s22]; rw [HNX.out]), by rw [HTR.out, HSN2.out]; exact hown', HI4.out, hb4, HK4.out⟩
      case measure => simp [intOf]; omega
    · have hk2 : k = M := by omega
      have hgt : ¬ T ≤ t1 := fun e => hlt (htk.1 (by omega))
      have s21 : decide (T ≤ t1) = false := by simpa using hgt
      have HO1 := Lib.hid (show wr.ownsRow w.heap.size 25 1 u8 M (Prc As Cs (apI ks y M)) from by have := HO.out; rw [hk2] at this; rwa [List.take_of_length_le (by rw [apI_len]; exact Nat.le_refl _)] at this)
      have HI1 := Lib.hid (show NWP wr w.heap.size As Cs (apI ks y M) M from hk2 ▸ HI.out)
      obtain ⟨A9, c9, rfl⟩ := own_form HO1.out
      clear HO HI htk hke hT hk2
      go_wp2
      go_ret2
      exact ⟨A9, c9, by rw [apI_len] <;> rfl, by rw [apI_len]; exact HI1.out.ok (apI_len _ _ _) HO1.out, HB.out⟩

end Go.Proofs.Ytofjohkhhomldaa

/-
  PROVED HERE: contracts of the pose at a tick of key poses, in the program and in the reference. CONDITIONS: as each theorem names them.
-/
import Derived.Test.YtofjohkhhomldaaAtP
namespace Go.Proofs.Ytofjohkhhomldaa
open Go.RowKit

set_option maxHeartbeats 8000000 in
theorem poseAt_any {hi : Nat} (A : Option Addr) (n c : Nat) (ks : List Key) (tick : Int) (w : World) (hv : Vk ks) (ht0 : (kd ks 0).1 ≤ tick) (ht1 : tick ≤ (kd ks (n - 1)).1) (hA : KR w hi A n ks) :
    Calls Try.prog 66 #[.slice A n c, .int .i64 tick] w (PlR w.heap.size (atX ks tick) w) := by
  obtain ⟨i0, hi, hz0, hz1, hz2⟩ := info_parts info_Point
  have HL := Lib.hid hA.1
  have HV := Lib.hid hv
  have n1 : 1 ≤ n := by have := hA.1; have := hv.lo; omega
  have n2 : n ≤ 10 := by have := hA.1; have := hv.hi; omega
  have T0 := Lib.hid ht0
  have T1 := Lib.hid ht1
  have tb : 0 ≤ tick ∧ tick ≤ 10000 := by
    have h1 := (hv.tick 0 (by have := hv.lo; omega)).1
    have h2 := (hv.tick (n - 1) (by have := hA.1; omega)).2
    exact ⟨by omega, by omega⟩
  obtain ⟨tb1, tb2⟩ := tb
  have HA := Lib.hid hA
  clear hA hv ht0 ht1
  go_enter Try.func66, Try.ntmps66
  go_wp2
  go_loopw [5] (fun i wr => ∃ k : Nat, k + 1 ≤ n ∧ i = .int .i64 ((k : Int) + 1) ∧ (kd ks k).1 ≤ tick ∧ True ∧ wr = w) (fun i _ => n - (intOf i).toNat)
  case atStart => exact ⟨0, n1, rfl, T0.out, by simp, rfl⟩
  case round =>
    obtain ⟨k, hk, rfl, hlo, hq, rfl⟩ := hrel
    have HQ := Lib.hid hq
    clear hq
    by_cases hlt : k + 1 < n
    · have hkl : k + 1 < ks.length := by rw [HL.out]; exact hlt
      obtain ⟨b, o, Aj, cj, hAA, _, hbl, g1, g2, hp⟩ := HA.out.at_ hlt
      obtain ⟨b0, o0, A0, c0, hA0, _, _, g3, g4, hp0⟩ := HA.out.at_ (k := k) (by omega)
      obtain ⟨rfl, rfl⟩ : b0 = b ∧ o0 = o := by rw [hAA] at hA0; injection hA0 with e; injection e with e1 e2; exact ⟨e1.symm, e2.symm⟩
      have hr := HV.out.rise k hkl
      obtain ⟨l1, l2, pd1⟩ := kd8 HV.out hkl
      obtain ⟨l3, l4, pd0⟩ := kd8 HV.out (j := k) (by omega)
      have hs1 := HV.out.same (k + 1) hkl
      have hs0 := HV.out.same k (by omega)
      obtain ⟨tk1, tk2⟩ := HV.out.tick (k + 1) hkl
      obtain ⟨tk3, tk4⟩ := HV.out.tick k (by omega)
      have hseg := fun h2 => atX_seg HV.out (tick := tick) hkl hlo h2
      unfold seg at hseg
      rw [← hs0] at hseg hs1
      obtain ⟨⟨t, js⟩, hx⟩ : ∃ p, p = kd ks (k + 1) := ⟨_, rfl⟩
      obtain ⟨⟨s, ps⟩, hy⟩ : ∃ p, p = kd ks k := ⟨_, rfl⟩
      have HN := Lib.hid (fun (h : ¬ tick < t) => show (kd ks (k + 1)).1 ≤ tick ∧ (fun k => True) (k + 1) from ⟨by rw [← hx]; dsimp only; omega, trivial⟩)
      rw [← hx, ← hy] at hseg hs1
      rw [← hx] at g1 g2 hp hr l1 l2 pd1 tk1 tk2
      rw [← hy] at g3 g4 hp0 hr l3 l4 pd0 tk3 tk4 hlo
      dsimp only at g1 g2 hp hr l1 l2 pd1 tk1 tk2 g3 g4 hp0 l3 l4 pd0 tk3 tk4 hlo hseg hs1
      subst hAA
      rw [hs1] at g2 hp
      have c1 := fun (W : World) (h2 : tick ≤ t) (hP : PI W A0 ps.length ps) (hQ : PI W Aj ps.length js) => between_any A0 ps.length c0 ps Aj cj js (tick - s) (t - s) W l4 (by omega) (by omega) (by omega) (by omega) hP hQ pd0 pd1
      have C1 := Lib.hid c1
      have HS := Lib.hid hseg
      have HP := Lib.hid hp
      have HP0 := Lib.hid hp0
      clear hx hy hp hp0 c1 hseg hA0 pd1 pd0
      have s1 : (0 : Int) ≤ (k : Int) := by omega
      have s2 : (k : Int) < (n : Int) := by omega
      have s3 : (0 : Int) ≤ (k : Int) + 1 := by omega
      have s4 : (k : Int) + 1 < (n : Int) := by omega
      have s5 : IntKind.i64.wrap ((k : Int) + 1 - 1) = (k : Int) := by rw [w64' (by omega) (by omega)]; omega
      have s11 : IntKind.i64.wrap (k : Int) = (k : Int) := w64' (by omega) (by omega)
      have s6 : (k : Int) + 1 - 1 = (k : Int) := by omega
      have s7 : IntKind.i64.wrap (tick - s) = tick - s := w64' (by omega) (by omega)
      have s8 : IntKind.i64.wrap (t - s) = t - s := w64' (by omega) (by omega)
      have s9 : ((k : Int) + 1).toNat = k + 1 := by omega
      have s10 : k < n := by omega
      by_cases h : tick < t
      · have hd : decide (tick < t) = true := by simpa using h
        have hS := HS.out (by omega)
        rw [hS]
        have C2 := Lib.hid (fun W => C1.out W (by omega))
        clear hS C1 HS HN
        go_wp2
        go_region_held3 (fun w' => (w'.cell? ⟨b0, o0 + (k + 1) * 2, none⟩ = some (.int .i64 t) ∧ w'.cell? ⟨b0, o0 + (k + 1) * 2 + 1, none⟩ = some (.slice Aj ps.length cj)) ∧ w'.cell? ⟨b0, o0 + k * 2, none⟩ = some (.int .i64 s) ∧ w'.cell? ⟨b0, o0 + k * 2 + 1, none⟩ = some (.slice A0 ps.length c0)) (((try dsimp only); (refine ⟨⟨?_, ?_⟩, ?_, ?_⟩ <;> (first | ((with_reducible (repeat (first | assumption | refine keepD ?_ | refine keepN ?_ _ | refine keepA ?_))); done) | (refine bcell_of hb1 ?_; with_reducible (repeat (first | assumption | refine keepD ?_ | refine keepN ?_ _ | refine keepA ?_)); done)))))
          (first | (go_at_call 59; refine (C2.out _ (HP0.out.pi.drewN _) (HP.out.pi.drewN _)).mono ?_; rintro e w1 ⟨A1, c1, rfl, own1, hb1⟩))
        have OWN := Lib.hid own1
        have HB1 := Lib.hid hb1
        clear own1 hb1
        go_wp2
        go_ret
        exact ⟨A1, c1, rfl, OWN.out, bl_tr (bl_drewN (Below.refl _ _) _) HB1.out⟩
      · have hd : decide (tick < t) = false := by simpa using h
        have HNN := Lib.hid (HN.out h)
        clear HN C1 HS
        go_wp2
        go_roundw
        case rel => exact ⟨k + 1, by omega, by go_num, HNN.out.1, HNN.out.2, trivial⟩
        case measure => simp [intOf]; omega
    · have e : n = k + 1 := by omega
      subst e
      have e1 : (kd ks k).1 = tick := by have := T1.out; rw [Nat.add_sub_cancel] at this; omega
      have hX : atX ks tick = (kd ks k).2 := by rw [← e1]; exact atX_last HV.out HL.out
      obtain ⟨b0, o0, A0, c0, hA0, _, _, g3, g4, hp0⟩ := HA.out.at_ (k := k) (by omega)
      obtain ⟨l3, l4, pd0⟩ := kd8 HV.out (j := k) (by have := HL.out; omega)
      subst hA0
      obtain ⟨ps, hy⟩ : ∃ p, p = (kd ks k).2 := ⟨_, rfl⟩
      rw [← hy] at g4 hp0 l3 l4 hX
      have HX := Lib.hid hX
      clear hX
      have C1 := Lib.hid (fun W (hP : PI W A0 ps.length ps) => CloneP_any A0 ps.length c0 ps W l3 (by omega) hP)
      have HP0 := Lib.hid hp0
      clear hp0 hy pd0 e1
      have s1 : (0 : Int) ≤ (k : Int) := by omega
      have s2 : (k : Int) < (k : Int) + 1 := by omega
      have s3 : k < k + 1 := by omega
      have s11 : IntKind.i64.wrap (k : Int) = (k : Int) := w64' (by omega) (by omega)
      go_wp2_with (go_at_call 64; refine (C1.out _ HP0.out.pi).mono ?_; rintro e w1 ⟨A1, c1, rfl, own1, hb1⟩)
      go_ret
      rw [HX.out]
      exact ⟨A1, c1, rfl, own1, hb1⟩
set_option maxHeartbeats 8000000 in
theorem l04At_any {hi : Nat} (A : Option Addr) (n c : Nat) (ks : List Key) (tick : Int) (w : World) (hv : Vk ks) (ht0 : (kd ks 0).1 ≤ tick) (ht1 : tick ≤ (kd ks (n - 1)).1) (hA : KR w hi A n ks) :
    Calls Try.prog 65 #[.slice A n c, .int .i64 tick] w (PlR w.heap.size (atX ks tick) w) := by
  obtain ⟨i0, hi, hz0, hz1, hz2⟩ := info_parts info_Point
  have HL := Lib.hid hA.1
  have HV := Lib.hid hv
  have n1 : 1 ≤ n := by have := hA.1; have := hv.lo; omega
  have n2 : n ≤ 10 := by have := hA.1; have := hv.hi; omega
  have T0 := Lib.hid ht0
  have T1 := Lib.hid ht1
  have tb : 0 ≤ tick ∧ tick ≤ 10000 := by
    have h1 := (hv.tick 0 (by have := hv.lo; omega)).1
    have h2 := (hv.tick (n - 1) (by have := hA.1; omega)).2
    exact ⟨by omega, by omega⟩
  obtain ⟨tb1, tb2⟩ := tb
  have HA := Lib.hid hA
  clear hA hv ht0 ht1
  go_enter Try.func65, Try.ntmps65
  go_wp2
  go_loopw [5, 6, 7] (fun i u6 u7 wr => ∃ k : Nat, k + 1 ≤ n ∧ i = .int .i64 ((k : Int) + 1) ∧ (kd ks k).1 ≤ tick ∧ (k = 0 ∨ (kd ks k).1 < tick) ∧ wr = w) (fun i _ _ _ => n - (intOf i).toNat)
  case atStart => exact ⟨0, n1, rfl, T0.out, by simp, rfl⟩
  case round =>
    obtain ⟨k, hk, rfl, hlo, hq, rfl⟩ := hrel
    have HQ := Lib.hid hq
    clear hq
    by_cases hlt : k + 1 < n
    · have hkl : k + 1 < ks.length := by rw [HL.out]; exact hlt
      obtain ⟨b, o, Aj, cj, hAA, _, hbl, g1, g2, hp⟩ := HA.out.at_ hlt
      obtain ⟨b0, o0, A0, c0, hA0, _, _, g3, g4, hp0⟩ := HA.out.at_ (k := k) (by omega)
      obtain ⟨rfl, rfl⟩ : b0 = b ∧ o0 = o := by rw [hAA] at hA0; injection hA0 with e; injection e with e1 e2; exact ⟨e1.symm, e2.symm⟩
      have hr := HV.out.rise k hkl
      obtain ⟨l1, l2, pd1⟩ := kd8 HV.out hkl
      obtain ⟨l3, l4, pd0⟩ := kd8 HV.out (j := k) (by omega)
      have hs1 := HV.out.same (k + 1) hkl
      have hs0 := HV.out.same k (by omega)
      obtain ⟨tk1, tk2⟩ := HV.out.tick (k + 1) hkl
      obtain ⟨tk3, tk4⟩ := HV.out.tick k (by omega)
      have hseg := fun h2 => atX_seg HV.out (tick := tick) hkl hlo h2
      unfold seg at hseg
      rw [← hs0] at hseg hs1
      obtain ⟨⟨t, js⟩, hx⟩ : ∃ p, p = kd ks (k + 1) := ⟨_, rfl⟩
      obtain ⟨⟨s, ps⟩, hy⟩ : ∃ p, p = kd ks k := ⟨_, rfl⟩
      have HN := Lib.hid (fun (h : ¬ tick ≤ t) => show (kd ks (k + 1)).1 ≤ tick ∧ (fun k => (k = 0 ∨ (kd ks k).1 < tick)) (k + 1) from ⟨by rw [← hx]; dsimp only; omega, Or.inr (by rw [← hx]; simpa using h)⟩)
      rw [← hx, ← hy] at hseg hs1
      rw [← hx] at g1 g2 hp hr l1 l2 pd1 tk1 tk2
      rw [← hy] at g3 g4 hp0 hr l3 l4 pd0 tk3 tk4 hlo
      dsimp only at g1 g2 hp hr l1 l2 pd1 tk1 tk2 g3 g4 hp0 l3 l4 pd0 tk3 tk4 hlo hseg hs1
      subst hAA
      rw [hs1] at g2 hp
      have c1 := fun (W : World) (h2 : tick ≤ t) (hP : PI W A0 ps.length ps) (hQ : PI W Aj ps.length js) => l04Between_any A0 ps.length c0 ps Aj cj js (tick - s) (t - s) W l4 (by omega) (by omega) (by omega) (by omega) hP hQ pd0 pd1
      have C1 := Lib.hid c1
      have HS := Lib.hid hseg
      have HP := Lib.hid hp
      have HP0 := Lib.hid hp0
      clear hx hy hp hp0 c1 hseg hA0 pd1 pd0
      have s1 : (0 : Int) ≤ (k : Int) := by omega
      have s2 : (k : Int) < (n : Int) := by omega
      have s3 : (0 : Int) ≤ (k : Int) + 1 := by omega
      have s4 : (k : Int) + 1 < (n : Int) := by omega
      have s5 : IntKind.i64.wrap ((k : Int) + 1 - 1) = (k : Int) := by rw [w64' (by omega) (by omega)]; omega
      have s11 : IntKind.i64.wrap (k : Int) = (k : Int) := w64' (by omega) (by omega)
      have s6 : (k : Int) + 1 - 1 = (k : Int) := by omega
      have s7 : IntKind.i64.wrap (tick - s) = tick - s := w64' (by omega) (by omega)
      have s8 : IntKind.i64.wrap (t - s) = t - s := w64' (by omega) (by omega)
      have s9 : ((k : Int) + 1).toNat = k + 1 := by omega
      have s10 : k < n := by omega
      by_cases h : tick ≤ t
      · have hd : decide (tick ≤ t) = true := by simpa using h
        have hS := HS.out (by omega)
        rw [hS]
        have C2 := Lib.hid (fun W => C1.out W (by omega))
        clear hS C1 HS HN
        go_wp2
        go_region_held3 (fun w' => (w'.cell? ⟨b0, o0 + (k + 1) * 2, none⟩ = some (.int .i64 t) ∧ w'.cell? ⟨b0, o0 + (k + 1) * 2 + 1, none⟩ = some (.slice Aj ps.length cj)) ∧ w'.cell? ⟨b0, o0 + k * 2, none⟩ = some (.int .i64 s) ∧ w'.cell? ⟨b0, o0 + k * 2 + 1, none⟩ = some (.slice A0 ps.length c0)) (((try dsimp only); (refine ⟨⟨?_, ?_⟩, ?_, ?_⟩ <;> (first | ((with_reducible (repeat (first | assumption | refine keepD ?_ | refine keepN ?_ _ | refine keepA ?_))); done) | (refine bcell_of hb1 ?_; with_reducible (repeat (first | assumption | refine keepD ?_ | refine keepN ?_ _ | refine keepA ?_)); done)))))
          (first | (go_at_call 58; refine (C2.out _ (HP0.out.pi.drewN _) (HP.out.pi.drewN _)).mono ?_; rintro e w1 ⟨A1, c1, rfl, own1, hb1⟩))
        have OWN := Lib.hid own1
        have HB1 := Lib.hid hb1
        clear own1 hb1
        go_wp2
        go_ret
        exact ⟨A1, c1, rfl, OWN.out, bl_tr (bl_drewN (Below.refl _ _) _) HB1.out⟩
      · have hd : decide (tick ≤ t) = false := by simpa using h
        have HNN := Lib.hid (HN.out h)
        clear HN C1 HS
        go_wp2
        go_roundw
        case rel => exact ⟨k + 1, by omega, by go_num, HNN.out.1, HNN.out.2, trivial⟩
        case measure => simp [intOf]; omega
    · have e : n = k + 1 := by omega
      have e1 : n = 1 := by
        rcases HQ.out with h | h
        · omega
        · have h1 := T1.out; rw [e, Nat.add_sub_cancel] at h1; omega
      clear e hlt
      subst e1
      have hX := atX_one tick HL.out
      obtain ⟨b0, o0, A0, c0, hA0, _, _, g3, g4, hp0⟩ := HA.out.at_ (k := 0) (by omega)
      obtain ⟨l3, l4, pd0⟩ := kd8 HV.out (j := 0) (by have := HL.out; omega)
      obtain ⟨b1, o1, hAA, _⟩ := hp0.pi.2 (by omega)
      subst hA0
      subst hAA
      obtain ⟨ps, hy⟩ : ∃ p, p = (kd ks 0).2 := ⟨_, rfl⟩
      rw [← hy] at g4 hp0 l3 l4 hX
      have HX := Lib.hid hX
      clear hX
      rw [Nat.zero_mul, Nat.add_zero] at g3
      rw [Nat.zero_mul, Nat.add_zero] at g4
      have HP0 := Lib.hid hp0
      clear hp0 hy pd0
      obtain rfl : k = 0 := by omega
      have HO := Lib.hid (World.ownsRow_lit (e := 61) (size := 2) (base := wr.heap.size) wr #[] 0 (Nat.le_refl _) (Nat.zero_le _) (by simp))
      go_wp2_with (at_builtin; refine wpList_append_own _ rfl _ _ 25 rfl wr.heap.size 61 i0 (.agg #[.int .i64 0, .int .i64 0]) 2 16 Try.underlying25 hi hz0 hz1 hz2 rfl (by decide) _ _ _ rfl HO.out ⟨b1, o1, none⟩ ps.length c0 (flat ps) rfl (by rw [flat_len]) (PI.news (HP0.out.pi.alloc _)) (flat_int _) (by unfold maxLen; omega) (by omega) (by simp) ?_; intro v' w2 hown' hgrow _)
      go_ret
      rw [HX.out]
      exact PlR.mk rfl (by simpa using hown') (((Below.refl _ _).alloc (Nat.le_refl _) _).grown hgrow (by simp) (fun j hj => (HO.out.lt j hj).1))
end Go.Proofs.Ytofjohkhhomldaa

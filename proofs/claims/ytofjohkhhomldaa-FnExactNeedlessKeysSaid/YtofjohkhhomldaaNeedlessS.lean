/-
  PROVED HERE: the walk of NeedlessKeys (the reference): the program and the reference agree. CONDITIONS: the arguments' cells lie in the world.
-/
import Derived.Test.YtofjohkhhomldaaNeedless
namespace Go.Proofs.Ytofjohkhhomldaa
open Go.RowKit

set_option maxHeartbeats 16000000 in
theorem lNeedlessKeys_v {hi : Nat} (A : Option Addr) (n c : Nat) (ks : List Key) (w : World) (hm : kbulk ks ≤ 1048576) (hA : KR w hi A n ks) :
    Calls Try.prog 39 #[.slice A n c] w (SlC w.heap.size (nkX ks) (nkK ks) w) := by
  obtain ⟨j0, hj, hz0, hz1, hz2⟩ := info_parts info_int64
  have HL := Lib.hid hA.1
  have HA := Lib.hid hA.self
  clear hA
  cases h0 : vk ks
  case false =>
    have e1 : nkX ks = [] := by simp [nkX, h0]
    have e2 : nkK ks = 1 := by simp [nkK, h0]
    rw [e1, e2]
    clear e1 e2
    go_enter Try.func39, Try.ntmps39
    go_wp2_with fail
    refine (l04Keys_any _ _ _ ks _ hm HA.out).mono ?_
    rintro e w1 ⟨rfl, hb1⟩
    have HA1 := Lib.hid (HA.out.below hb1)
    have HW1 := Lib.hid hb1
    clear hb1
    go_wp2_with fail
    go_ret2
    exact SlC.none_ HW1.out
  have HV := Lib.hid (vk_t h0)
  have n1 : 1 ≤ n := by have := HV.out.lo; have := HL.out; omega
  have n2 : n ≤ 10 := by have := HV.out.hi; have := HL.out; omega
  have e1 : nkX ks = ndX ks (n - 2) := by simp [nkX, h0, HL.out]
  have e2 : nkK ks = 0 := by simp [nkK, h0]
  rw [e1, e2]
  clear e1 e2
  go_enter Try.func39, Try.ntmps39
  go_wp2_with fail
  refine (l04Keys_any _ _ _ ks _ hm HA.out).mono ?_
  rintro e w1 ⟨rfl, hb1⟩
  have HA1 := Lib.hid (HA.out.below hb1)
  have HW1 := Lib.hid hb1
  clear hb1
  go_wp2_with fail
  go_loopw [4, 5, 6, 7] (fun v i _ _ wr => ∃ k : Nat, k ≤ n - 2 ∧ i = .int .i64 ((k : Int) + 1) ∧ wr.ownsRow w.heap.size 2 1 v (ndX ks k).length ((ndX ks k).map (Value.int .i64)) ∧ Below w.heap.size w wr ∧ KR wr w.heap.size A n ks) (fun _ i _ _ _ => n - (intOf i).toNat)
  case atStart => exact ⟨0, Nat.zero_le _, rfl, by simpa [ndX] using (World.ownsRow_lit w1 #[] 0 (Nat.le_refl _) (Nat.zero_le _) (by simp)).mono HW1.out.size, bl_al HW1.out _, HA1.out.below ((Below.refl _ _).alloc (Nat.le_refl _) _)⟩
  case round =>
    obtain ⟨k, hk, rfl, ho, hb, hkr⟩ := hrel
    have HO := Lib.hid ho
    have HB := Lib.hid hb
    have HK := Lib.hid hkr
    clear ho hb hkr
    by_cases hlt : k + 2 < n
    · have hkl : k + 2 < ks.length := by rw [HL.out]; exact hlt
      obtain ⟨b0, o0, A2, c2, hA2, _, hbl, g5, g6, hp2⟩ := HK.out.at_ hlt
      obtain ⟨b1, o1, A1, c1, hA1, _, _, g3, g4, hp1⟩ := HK.out.at_ (k := k + 1) (by omega)
      obtain ⟨rfl, rfl⟩ : b1 = b0 ∧ o1 = o0 := by rw [hA2] at hA1; injection hA1 with e; injection e with e1 e2; exact ⟨e1.symm, e2.symm⟩
      obtain ⟨b2, o2, A0, c0, hA0, _, _, g1, g2, hp0⟩ := HK.out.at_ (k := k) (by omega)
      obtain ⟨rfl, rfl⟩ : b2 = b1 ∧ o2 = o1 := by rw [hA2] at hA0; injection hA0 with e; injection e with e1 e2; exact ⟨e1.symm, e2.symm⟩
      have r1 := HV.out.rise k (by omega)
      have r2 := HV.out.rise (k + 1) (by omega)
      obtain ⟨l1, l2, pd0⟩ := kd8 HV.out (j := k) (by omega)
      obtain ⟨l3, l4, pd2⟩ := kd8 HV.out (j := k + 2) hkl
      obtain ⟨tk1, _⟩ := HV.out.tick k (by omega)
      obtain ⟨_, tk2⟩ := HV.out.tick (k + 2) hkl
      have q0 := HV.out.same k (by omega)
      have q1 := HV.out.same (k + 1) (by omega)
      have q2 := HV.out.same (k + 2) hkl
      have hnt := ndX_t (ks := ks) (k := k)
      have hnf := ndX_f (ks := ks) (k := k)
      unfold ndl at hnt hnf
      obtain ⟨⟨t0, ps⟩, hx⟩ : ∃ p, p = kd ks k := ⟨_, rfl⟩
      obtain ⟨⟨t1, os⟩, hy⟩ : ∃ p, p = kd ks (k + 1) := ⟨_, rfl⟩
      obtain ⟨⟨t2, qs⟩, hw⟩ : ∃ p, p = kd ks (k + 2) := ⟨_, rfl⟩
      rw [← hx, ← hy, ← hw] at hnt hnf
      rw [← hx] at g1 g2 hp0 r1 l1 l2 pd0 tk1 q0
      rw [← hy] at g3 g4 hp1 r1 r2 q1
      rw [← hw] at g5 g6 hp2 r2 l3 l4 pd2 tk2 q2
      dsimp only at g1 g2 g3 g4 g5 g6 hp0 hp1 hp2 r1 r2 l1 l2 l3 l4 pd0 pd2 tk1 tk2 q0 q1 q2 hnt hnf
      have e1 : os.length = ps.length := by rw [q1, q0]
      have e2 : qs.length = ps.length := by rw [q2, q0]
      rw [e1] at g4 hp1
      rw [e2] at g6 hp2
      subst hA2
      have c1 := fun (W : World) (hP : PI W A0 ps.length ps) (hQ : PI W A2 ps.length qs) => l04Between_any A0 ps.length c0 ps A2 c2 qs (t1 - t0) (t2 - t0) W l2 (by omega) (by omega) (by omega) (by omega) hP hQ pd0 pd2
      have C1 := Lib.hid c1
      obtain ⟨xs, hxs⟩ : ∃ l, l = btI ps qs (t1 - t0) (t2 - t0) ps.length := ⟨_, rfl⟩
      have hxl : xs.length = ps.length := by rw [hxs, btI_len]
      rw [← hxs] at hnt hnf C1
      have HP0 := Lib.hid hp0
      have HP1 := Lib.hid hp1
      have HP2 := Lib.hid hp2
      have HNT := Lib.hid hnt
      have HNF := Lib.hid hnf
      clear hx hy hw hp0 hp1 hp2 hnt hnf c1 pd0 pd2 hA0 hA1 q0 q1 q2 e1 e2 hxs
      have s1 : (0 : Int) ≤ (k : Int) := by omega
      have s2 : (k : Int) < (n : Int) := by omega
      have s3 : (0 : Int) ≤ (k : Int) + 1 := by omega
      have s4 : (k : Int) + 1 < (n : Int) := by omega
      have s5 : IntKind.i64.wrap (k : Int) = (k : Int) := w64' (by omega) (by omega)
      have s6 : IntKind.i64.wrap ((k : Int) + 1 + 1) = (k : Int) + 2 := by rw [w64' (by omega) (by omega)]; omega
      have s7 : (k : Int) + 1 + 1 = (k : Int) + 2 := by omega
      have s8 : (k : Int) + 2 < (n : Int) := by omega
      have s9 : (0 : Int) ≤ (k : Int) + 2 := by omega
      have s10 : ((k : Int) + 1).toNat = k + 1 := by omega
      have s11 : ((k : Int) + 2).toNat = k + 2 := by omega
      have s12 : k < n := by omega
      have s13 : k + 1 < n := by omega
      have s14 : IntKind.i64.wrap (t1 - t0) = t1 - t0 := w64' (by omega) (by omega)
      have s15 : IntKind.i64.wrap (t2 - t0) = t2 - t0 := w64' (by omega) (by omega)
      have s16 : IntKind.i64.wrap ((k : Int) + 2) = (k : Int) + 2 := w64' (by omega) (by omega)
      have hd0 : decide ((k : Int) + 2 < (n : Int)) = true := by simp; omega
      have hlen := ndX_le ks k
      obtain ⟨l, hl⟩ : ∃ l, l = (ndX ks k).length := ⟨_, rfl⟩
      rw [← hl] at hlen
      have HO2 := Lib.hid (show wr.ownsRow w.heap.size 2 1 u4 l ((ndX ks k).map (Value.int .i64)) from by rw [hl]; exact HO.out)
      have HLE := Lib.hid hl
      clear hl HO
      go_wp2
      refine wp_region_held_drew (S := (fun w' => w'.cell? ⟨b2, o2 + k * 2, none⟩ = some (.int .i64 t0) ∧ w'.cell? ⟨b2, o2 + k * 2 + 1, none⟩ = some (.slice A0 ps.length c0) ∧ w'.cell? ⟨b2, o2 + (k + 1) * 2, none⟩ = some (.int .i64 t1) ∧ w'.cell? ⟨b2, o2 + (k + 1) * 2 + 1, none⟩ = some (.slice A1 ps.length c1) ∧ w'.cell? ⟨b2, o2 + (k + 2) * 2, none⟩ = some (.int .i64 t2) ∧ w'.cell? ⟨b2, o2 + (k + 2) * 2 + 1, none⟩ = some (.slice A2 ps.length c2))) (by kernel_rfl) ?_ (fun hHeld => ?_)
      · ((try dsimp only); (refine ⟨?_, ?_, ?_, ?_, ?_, ?_⟩ <;> (first | ((with_reducible (repeat (first | assumption | refine keepD ?_ | refine keepN ?_ _ | refine keepA ?_))); done) | (simp [go_sem]; done))))
      refine take_v 0 (some 27) ?_ rfl (by rfl) (by kernel_rfl) (by kernel_rfl) (by kernel_rfl) (fun _ _ _ h => h) (Or.inl ⟨by rfl, ?_⟩) (by assumption) ?_
      rotate_left
      · (intro w hSw; (try dsimp only at hSw); go_simp; (try with_reducible rfl))
      (try simp only [Act.put, List.setIfInBounds_toArray, List.set_cons_zero, List.set_cons_succ])
      refine take_v 1 (some 28) ?_ rfl (by rfl) (by kernel_rfl) (by kernel_rfl) (by kernel_rfl) (fun _ _ _ h => h) (Or.inl ⟨by rfl, ?_⟩) (by assumption) ?_
      rotate_left
      · (intro w hSw; (try dsimp only at hSw); go_simp; (try with_reducible rfl))
      (try simp only [Act.put, List.setIfInBounds_toArray, List.set_cons_zero, List.set_cons_succ])
      refine take_v 2 (some 29) ?_ rfl (by rfl) (by kernel_rfl) (by kernel_rfl) (by kernel_rfl) (fun _ _ _ h => h) (Or.inl ⟨by rfl, ?_⟩) (by assumption) ?_
      rotate_left
      · (intro w hSw; (try dsimp only at hSw); go_simp; (try with_reducible rfl))
      (try simp only [Act.put, List.setIfInBounds_toArray, List.set_cons_zero, List.set_cons_succ])
      refine take_v 3 (some 30) ?_ rfl (by rfl) (by kernel_rfl) (by kernel_rfl) (by kernel_rfl) (fun _ _ _ h => h) (Or.inl ⟨by rfl, ?_⟩) (by assumption) ?_
      rotate_left
      · (intro w hSw; (try dsimp only at hSw); go_simp; (try with_reducible rfl))
      (try simp only [Act.put, List.setIfInBounds_toArray, List.set_cons_zero, List.set_cons_succ])
      refine take_v 4 (some 31) ?_ rfl (by rfl) (by kernel_rfl) (by kernel_rfl) (by kernel_rfl) (fun _ _ _ h => h) (Or.inl ⟨by rfl, ?_⟩) (by assumption) ?_
      rotate_left
      · (intro w hSw; (try dsimp only at hSw); go_simp; (try with_reducible rfl))
      (try simp only [Act.put, List.setIfInBounds_toArray, List.set_cons_zero, List.set_cons_succ])
      refine take_v 5 (some 32) ?_ rfl (by rfl) (by kernel_rfl) (by kernel_rfl) (by kernel_rfl) (fun _ _ _ h => h) (Or.inl ⟨by rfl, ?_⟩) (by assumption) ?_
      rotate_left
      · (intro w hSw; (try dsimp only at hSw); go_simp; (try with_reducible rfl))
      (try simp only [Act.put, List.setIfInBounds_toArray, List.set_cons_zero, List.set_cons_succ])
      refine take_v 6 (some 33) ?_ rfl (by rfl) (by kernel_rfl) (by kernel_rfl) (by kernel_rfl) (fun _ _ _ h => h) (Or.inl ⟨by rfl, ?_⟩) (by assumption) ?_
      rotate_left
      · (intro w hSw; (try dsimp only at hSw); go_simp; (try with_reducible rfl))
      (try simp only [Act.put, List.setIfInBounds_toArray, List.set_cons_zero, List.set_cons_succ])
      refine take_v 7 (some 34) ?_ rfl (by rfl) (by kernel_rfl) (by kernel_rfl) (by kernel_rfl) (fun _ _ _ h => h) (Or.inl ⟨by rfl, ?_⟩) (by assumption) ?_
      rotate_left
      · (intro w hSw; (try dsimp only at hSw); go_simp; (try with_reducible rfl))
      (try simp only [Act.put, List.setIfInBounds_toArray, List.set_cons_zero, List.set_cons_succ])
      refine take_v 8 (some 35) ?_ rfl (by rfl) (by kernel_rfl) (by kernel_rfl) (by kernel_rfl) (fun _ _ _ h => h) (Or.inl ⟨by rfl, ?_⟩) (by assumption) ?_
      rotate_left
      · (intro w hSw; (try dsimp only at hSw); go_simp; (try with_reducible rfl))
      (try simp only [Act.put, List.setIfInBounds_toArray, List.set_cons_zero, List.set_cons_succ])
      refine take_v 9 (some 36) ?_ rfl (by rfl) (by kernel_rfl) (by kernel_rfl) (by kernel_rfl) (fun _ _ _ h => h) (Or.inl ⟨by rfl, ?_⟩) (by assumption) ?_
      rotate_left
      · (intro w hSw; (try dsimp only at hSw); go_simp; (try with_reducible rfl))
      (try simp only [Act.put, List.setIfInBounds_toArray, List.set_cons_zero, List.set_cons_succ])
      refine take_v 10 (some 37) ?_ rfl (by rfl) (by kernel_rfl) (by kernel_rfl) (by kernel_rfl) (fun _ _ _ h => h) (Or.inl ⟨by rfl, ?_⟩) (by assumption) ?_
      rotate_left
      · (intro w hSw; (try dsimp only at hSw); go_simp; (try with_reducible rfl))
      (try simp only [Act.put, List.setIfInBounds_toArray, List.set_cons_zero, List.set_cons_succ])
      refine take_v 11 (some 38) ?_ rfl (by rfl) (by kernel_rfl) (by kernel_rfl) (by kernel_rfl) (fun _ _ _ h => h) (Or.inl ⟨by rfl, ?_⟩) (by assumption) ?_
      rotate_left
      · (intro w hSw; (try dsimp only at hSw); go_simp; (try with_reducible rfl))
      (try simp only [Act.put, List.setIfInBounds_toArray, List.set_cons_zero, List.set_cons_succ])
      refine take_v 12 (some 39) ?_ rfl (by rfl) (by kernel_rfl) (by kernel_rfl) (by kernel_rfl) (fun _ _ _ h => h) (Or.inl ⟨by rfl, ?_⟩) (by assumption) ?_
      rotate_left
      · (intro w hSw; (try dsimp only at hSw); go_simp; (try with_reducible rfl))
      (try simp only [Act.put, List.setIfInBounds_toArray, List.set_cons_zero, List.set_cons_succ])
      refine take_v 13 (some 40) ?_ rfl (by rfl) (by kernel_rfl) (by kernel_rfl) (by kernel_rfl) (fun _ _ _ h => h) (Or.inl ⟨by rfl, ?_⟩) (by assumption) ?_
      rotate_left
      · (intro w hSw; (try dsimp only at hSw); go_simp; (try with_reducible rfl))
      (try simp only [Act.put, List.setIfInBounds_toArray, List.set_cons_zero, List.set_cons_succ])
      refine take_v 14 (some 41) ?_ rfl (by rfl) (by kernel_rfl) (by kernel_rfl) (by kernel_rfl) (fun _ _ _ h => h) (Or.inl ⟨by rfl, ?_⟩) (by assumption) ?_
      rotate_left
      · (intro w hSw; (try dsimp only at hSw); go_simp; (try with_reducible rfl))
      (try simp only [Act.put, List.setIfInBounds_toArray, List.set_cons_zero, List.set_cons_succ])
      refine take_v 15 (some 42) ?_ rfl (by rfl) (by kernel_rfl) (by kernel_rfl) (by kernel_rfl) (fun _ _ _ h => h) (Or.inl ⟨by rfl, ?_⟩) (by assumption) ?_
      rotate_left
      · (intro w hSw; (try dsimp only at hSw); go_simp; (try with_reducible rfl))
      (try simp only [Act.put, List.setIfInBounds_toArray, List.set_cons_zero, List.set_cons_succ])
      refine take_v 16 (some 43) ?_ rfl (by rfl) (by kernel_rfl) (by kernel_rfl) (by kernel_rfl) (fun _ _ _ h => h) (Or.inl ⟨by rfl, ?_⟩) (by assumption) ?_
      rotate_left
      · (intro w hSw; (try dsimp only at hSw); go_simp; (try with_reducible rfl))
      (try simp only [Act.put, List.setIfInBounds_toArray, List.set_cons_zero, List.set_cons_succ])
      refine take_v 17 (some 44) ?_ rfl (by rfl) (by kernel_rfl) (by kernel_rfl) (by kernel_rfl) (fun _ _ _ h => h) (Or.inl ⟨by rfl, ?_⟩) (by assumption) ?_
      rotate_left
      · (intro w hSw; (try dsimp only at hSw); go_simp; (try with_reducible rfl))
      (try simp only [Act.put, List.setIfInBounds_toArray, List.set_cons_zero, List.set_cons_succ])
      refine take_v 18 (some 45) ?_ rfl (by rfl) (by kernel_rfl) (by kernel_rfl) (by kernel_rfl) (fun _ _ _ h => h) (Or.inl ⟨by rfl, ?_⟩) (by assumption) ?_
      rotate_left
      · (intro w hSw; (try dsimp only at hSw); go_simp; (try with_reducible rfl))
      (try simp only [Act.put, List.setIfInBounds_toArray, List.set_cons_zero, List.set_cons_succ])
      refine take_v 19 (some 46) ?_ rfl (by rfl) (by kernel_rfl) (by kernel_rfl) (by kernel_rfl) (fun _ _ _ h => h) (Or.inl ⟨by rfl, ?_⟩) (by assumption) ?_
      rotate_left
      · (intro w hSw; (try dsimp only at hSw); go_simp; (try with_reducible rfl))
      (try simp only [Act.put, List.setIfInBounds_toArray, List.set_cons_zero, List.set_cons_succ])
      refine take_v 20 (some 47) ?_ rfl (by rfl) (by kernel_rfl) (by kernel_rfl) (by kernel_rfl) (fun _ _ _ h => h) (Or.inl ⟨by rfl, ?_⟩) (by assumption) ?_
      rotate_left
      · (intro w hSw; (try dsimp only at hSw); go_simp; (try with_reducible rfl))
      (try simp only [Act.put, List.setIfInBounds_toArray, List.set_cons_zero, List.set_cons_succ])
      refine take_v 21 (some 48) ?_ rfl (by rfl) (by kernel_rfl) (by kernel_rfl) (by kernel_rfl) (fun _ _ _ h => h) (Or.inl ⟨by rfl, ?_⟩) (by assumption) ?_
      rotate_left
      · (intro w hSw; (try dsimp only at hSw); go_simp; (try with_reducible rfl))
      (try simp only [Act.put, List.setIfInBounds_toArray, List.set_cons_zero, List.set_cons_succ])
      refine take_v 22 (some 49) ?_ rfl (by rfl) (by kernel_rfl) (by kernel_rfl) (by kernel_rfl) (fun _ _ _ h => h) (Or.inl ⟨by rfl, ?_⟩) (by assumption) ?_
      rotate_left
      · (intro w hSw; (try dsimp only at hSw); go_simp; (try with_reducible rfl))
      (try simp only [Act.put, List.setIfInBounds_toArray, List.set_cons_zero, List.set_cons_succ])
      refine take_v 23 (some 50) ?_ rfl (by rfl) (by kernel_rfl) (by kernel_rfl) (by kernel_rfl) (fun _ _ _ h => h) (Or.inl ⟨by rfl, ?_⟩) (by assumption) ?_
      rotate_left
      · (intro w hSw; (try dsimp only at hSw); go_simp; (try with_reducible rfl))
      (try simp only [Act.put, List.setIfInBounds_toArray, List.set_cons_zero, List.set_cons_succ])
      refine take_v 24 (some 51) ?_ rfl (by rfl) (by kernel_rfl) (by kernel_rfl) (by kernel_rfl) (fun _ _ _ h => h) (Or.inl ⟨by rfl, ?_⟩) (by assumption) ?_
      rotate_left
      · (intro w hSw; (try dsimp only at hSw); go_simp; (try with_reducible rfl))
      (try simp only [Act.put, List.setIfInBounds_toArray, List.set_cons_zero, List.set_cons_succ])
      refine take_v 25 (some 52) ?_ rfl (by rfl) (by kernel_rfl) (by kernel_rfl) (by kernel_rfl) (fun _ _ _ h => h) (Or.inl ⟨by rfl, ?_⟩) (by assumption) ?_
      rotate_left
      · (intro w hSw; (try dsimp only at hSw); go_simp; (try with_reducible rfl))
      (try simp only [Act.put, List.setIfInBounds_toArray, List.set_cons_zero, List.set_cons_succ])
      refine take_v 26 (some 53) ?_ rfl (by rfl) (by kernel_rfl) (by kernel_rfl) (by kernel_rfl) (fun _ _ _ h => h) (Or.inl ⟨by rfl, ?_⟩) (by assumption) ?_
      rotate_left
      · (intro w hSw; (try dsimp only at hSw); go_simp; (try with_reducible rfl))
      (try simp only [Act.put, List.setIfInBounds_toArray, List.set_cons_zero, List.set_cons_succ])
      refine take_v 27 (some 54) ?_ rfl (by rfl) (by kernel_rfl) (by kernel_rfl) (by kernel_rfl) (fun _ _ _ h => h) (Or.inl ⟨by rfl, ?_⟩) (by assumption) ?_
      rotate_left
      · (intro w hSw; (try dsimp only at hSw); go_simp; (try with_reducible rfl))
      (try simp only [Act.put, List.setIfInBounds_toArray, List.set_cons_zero, List.set_cons_succ])
      refine take_v 28 (some 55) ?_ rfl (by rfl) (by kernel_rfl) (by kernel_rfl) (by kernel_rfl) (fun _ _ _ h => h) (Or.inl ⟨by rfl, ?_⟩) (by assumption) ?_
      rotate_left
      · (intro w hSw; (try dsimp only at hSw); go_simp; (try with_reducible rfl))
      (try simp only [Act.put, List.setIfInBounds_toArray, List.set_cons_zero, List.set_cons_succ])
      refine take_v 29 (some 56) ?_ rfl (by rfl) (by kernel_rfl) (by kernel_rfl) (by kernel_rfl) (fun _ _ _ h => h) (Or.inl ⟨by rfl, ?_⟩) (by assumption) ?_
      rotate_left
      · (intro w hSw; (try dsimp only at hSw); go_simp; (try with_reducible rfl))
      (try simp only [Act.put, List.setIfInBounds_toArray, List.set_cons_zero, List.set_cons_succ])
      refine take_v 30 (some 57) ?_ rfl (by rfl) (by kernel_rfl) (by kernel_rfl) (by kernel_rfl) (fun _ _ _ h => h) (Or.inl ⟨by rfl, ?_⟩) (by assumption) ?_
      rotate_left
      · (intro w hSw; (try dsimp only at hSw); go_simp; (try with_reducible rfl))
      (try simp only [Act.put, List.setIfInBounds_toArray, List.set_cons_zero, List.set_cons_succ])
      refine take_v 31 (some 58) ?_ rfl (by rfl) (by kernel_rfl) (by kernel_rfl) (by kernel_rfl) (fun _ _ _ h => h) (Or.inl ⟨by rfl, ?_⟩) (by assumption) ?_
      rotate_left
      · (intro w hSw; (try dsimp only at hSw); go_simp; (try with_reducible rfl))
      (try simp only [Act.put, List.setIfInBounds_toArray, List.set_cons_zero, List.set_cons_succ])
      refine wpAnyH_ready (rs := [32]) (by kernel_rfl) (by simp) ?_
      refine AllReadyH.cons rfl (fun K hK => ?_) AllReadyH.nil
      rw [if_pos (by rfl)]
      go_simp
      go_at_call 58
      refine (C1.out _ (HP0.out.pi.drewN _) (HP2.out.pi.drewN _)).mono ?_
      rintro e w2 ⟨A3, c3, rfl, own2, hb2⟩
      have HB2 := Lib.hid (show Below wr.heap.size wr w2 from by
        repeat (first | exact Below.refl _ _ | assumption | refine bl_drewN ?_ _ | refine Below.drew ?_ | refine bl_al ?_ _ | (refine Below.setCell ?_ (by simp <;> omega) _) | refine bl_tr ?_ (by assumption)))
      have HP3 := Lib.hid (show PI w2 A3 ps.length xs from hxl ▸ PI.of_own own2)
      go_wp2_with fail
      refine hK.out _ _ ?_ (fun hHeld => ?_)
      · ((try dsimp only); (refine ⟨?_, ?_, ?_, ?_, ?_, ?_⟩ <;> (first | ((with_reducible (repeat (first | assumption | refine keepD ?_ | refine keepN ?_ _ | refine keepA ?_))); done) | (refine bcell_of hb2 ?_; first | ((with_reducible (repeat (first | assumption | refine keepD ?_ | refine keepN ?_ _ | refine keepA ?_))); done) | (simp [go_sem]; done)) | (refine keepN ?_ _; refine bcell_of hb2 ?_; first | ((with_reducible (repeat (first | assumption | refine keepD ?_ | refine keepN ?_ _ | refine keepA ?_))); done) | (simp [go_sem]; done)))))
      clear hK K
      (try simp only [Act.put, List.setIfInBounds_toArray, List.set_cons_zero, List.set_cons_succ])
      refine wpAnyH_ready (rs := [33]) (by kernel_rfl) (by simp) ?_
      refine AllReadyH.cons rfl (fun K hK => ?_) AllReadyH.nil
      rw [if_pos (by rfl)]
      go_simp
      go_at_call 14
      refine (lSamePose_any _ _ _ _ _ _ os xs _ (by omega) (by omega) (by with_reducible first | exact HP1.out.pi.below HB2.out | exact (HP1.out.pi.below HB2.out).drewN _) (by with_reducible first | exact HP3.out | exact HP3.out.drewN _)).mono ?_
      rintro e w3 ⟨rfl, d3, rfl⟩
      go_wp2_with fail
      refine hK.out _ _ ?_ (fun hHeld => ?_)
      · ((try dsimp only); (refine ⟨?_, ?_, ?_, ?_, ?_, ?_⟩ <;> (first | ((with_reducible (repeat (first | assumption | refine keepD ?_ | refine keepN ?_ _ | refine keepA ?_))); done) | (refine bcell_of hb2 ?_; first | ((with_reducible (repeat (first | assumption | refine keepD ?_ | refine keepN ?_ _ | refine keepA ?_))); done) | (simp [go_sem]; done)) | (refine keepN ?_ _; refine bcell_of hb2 ?_; first | ((with_reducible (repeat (first | assumption | refine keepD ?_ | refine keepN ?_ _ | refine keepA ?_))); done) | (simp [go_sem]; done)))))
      clear hK K
      (try simp only [Act.put, List.setIfInBounds_toArray, List.set_cons_zero, List.set_cons_succ])
      refine wpAnyH_done (by kernel_rfl) ?_ _
      have HB3 := Lib.hid (bl_tr HB.out HB2.out)
      have HO3 := Lib.hid (own_below HO2.out HB2.out)
      have HK3 := Lib.hid (HK.out.below HB2.out)
      have hz3 : w.heap.size ≤ w2.heap.size := HB3.out.size
      clear hb2 own2 HB2
      cases hsp : spB os xs
      case false =>
        have HNX := Lib.hid (HNF.out hsp)
        clear hz3
        go_wp2
        go_roundw
        case rel => exact ⟨k + 1, by omega, by go_num, by rw [HNX.out, ← HLE.out]; first | exact HO3.out | exact own_drewN HO3.out _, by first | exact HB3.out | exact bl_drewN HB3.out _, by first | exact HK3.out | exact HK3.out.drewN _⟩
        case measure => simp [intOf]; omega
      have HNX := Lib.hid (HNT.out hsp)
      go_wp2_with (at_builtin; refine wpList_append_own _ rfl _ _ 50 rfl w.heap.size 2 j0 (.int .i64 0) 1 8 Try.underlying50 hj hz0 hz1 hz2 rfl (by decide) _ _ _ rfl ((own_drewN HO3.out _).alloc _) ⟨w2.heap.size, 0, none⟩ 1 1 [.int .i64 ((k : Int) + 1)] rfl rfl (cell_one_new _ _ _) (one_int _ _) (by unfold maxLen; omega) (by omega) (by simp; omega) ?_; intro v' w4 hown' hgrow _)
      have hb4 := ((bl_al (bl_drewN HB3.out _) _).grown hgrow (by simp; omega) (fun j hj => (HO3.out.lt j hj).1))
      have HK4 := Lib.hid (KR.touch ((HK3.out.drewN _).below ((Below.refl _ _).alloc (Nat.le_refl _) _)) (Touch.of_grown hgrow (fun j hj => HO3.out.lt j hj)) (Nat.le_refl _))
      go_roundw
      case rel => exact ⟨k + 1, by omega, by go_num, by rw [HNX.out, List.length_append, ← HLE.out, List.map_append]; exact hown', hb4, HK4.out⟩
      case measure => simp [intOf]; omega

    · have e : k = n - 2 := by omega
      have hd0 : decide ((k : Int) + 2 < (n : Int)) = false := by simp; omega
      have s6 : IntKind.i64.wrap ((k : Int) + 1 + 1) = (k : Int) + 2 := by rw [w64' (by omega) (by omega)]; omega
      have s7 : (k : Int) + 1 + 1 = (k : Int) + 2 := by omega
      clear hlt
      subst e
      obtain ⟨l, hl⟩ : ∃ l, l = (ndX ks (n - 2)).length := ⟨_, rfl⟩
      go_wp2
      go_ret2
      rcases HO.out.2 with ⟨e1, e2⟩ | ⟨g, cap, cur, e1, rest⟩
      · subst e1
        exact ⟨none, 0, by rw [e2]; rfl, by rw [e2]; have := HO.out; rw [e2] at this; exact this, HB.out⟩
      · subst e1
        exact ⟨_, _, rfl, HO.out, HB.out⟩

end Go.Proofs.Ytofjohkhhomldaa

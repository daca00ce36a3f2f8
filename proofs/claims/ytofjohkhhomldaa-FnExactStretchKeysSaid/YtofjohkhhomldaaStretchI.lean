/-
  PROVED HERE: the walk of StretchKeys (the program): the program and the reference agree. CONDITIONS: the arguments' cells lie in the world.
-/
import Derived.Test.YtofjohkhhomldaaStretch
namespace Go.Proofs.Ytofjohkhhomldaa
open Go.RowKit

set_option maxHeartbeats 3000000 in
theorem StretchKeys_v {hi : Nat} (A : Option Addr) (n c : Nat) (ks : List Key) (y : Int) (w : World) (hm : kbulk ks ≤ 1048576) (hA : KR w hi A n ks) :
    Calls Try.prog 34 #[.slice A n c, .int .i64 y] w (KyC w.heap.size (skX ks y) (skK ks y) w) := by
  obtain ⟨i0, hi, hz0, hz1, hz2⟩ := info_parts info_Point
  obtain ⟨j0, hj, hy0, hy1, hy2⟩ := info_parts info_Key
  have HL := Lib.hid hA.1
  have HA := Lib.hid hA.self
  clear hA
  cases h0 : vk ks
  case false =>
    have e1 : skX ks y = [] := by simp [skX, h0]
    have e2 : skK ks y = 1 := by simp [skK, h0]
    rw [e1, e2]
    clear e1 e2
    go_enter Try.func34, Try.ntmps34
    go_wp2_with fail
    refine (ValidKeys_any _ _ _ ks _ hm HA.out).mono ?_
    rintro e w1 ⟨rfl, hb1⟩
    have HA1 := Lib.hid (HA.out.below hb1)
    have HW1 := Lib.hid hb1
    clear hb1
    go_wp2_with fail
    go_ret2
    exact KyC.none_ HW1.out
  cases h1 : inB y 1 100
  case false =>
    have e1 : skX ks y = [] := by simp [skX, h0, h1]
    have e2 : skK ks y = 2 := by simp [skK, h0, h1]
    rw [e1, e2]
    clear e1 e2
    go_enter Try.func34, Try.ntmps34
    go_wp2_with fail
    refine (ValidKeys_any _ _ _ ks _ hm HA.out).mono ?_
    rintro e w1 ⟨rfl, hb1⟩
    have HA1 := Lib.hid (HA.out.below hb1)
    have HW1 := Lib.hid hb1
    clear hb1
    go_wp2_with fail
    refine (within_v h1 _).mono ?_
    rintro e w' ⟨rfl, rfl⟩
    go_wp2_with fail
    go_ret2
    exact KyC.none_ HW1.out
  obtain ⟨y1, y2⟩ := inB_t h1
  have HV := Lib.hid (vk_t h0)
  have n1 : 1 ≤ n := by have := HV.out.lo; have := HL.out; omega
  have n2 : n ≤ 10 := by have := HV.out.hi; have := HL.out; omega
  have hms : kbulk (stX ks y) ≤ 1048576 := by rw [stX_bulk]; exact hm
  obtain ⟨X, hX⟩ : ∃ X, X = skX ks y := ⟨_, rfl⟩
  obtain ⟨KK, hKK⟩ : ∃ K, K = skK ks y := ⟨_, rfl⟩
  rw [← hX, ← hKK]
  have HX := Lib.hid hX
  have HKK := Lib.hid hKK
  clear hX hKK
  go_enter Try.func34, Try.ntmps34
  go_wp2_with fail
  refine (ValidKeys_any _ _ _ ks _ hm HA.out).mono ?_
  rintro e w1 ⟨rfl, hb1⟩
  have HA1 := Lib.hid (HA.out.below hb1)
  have HW1 := Lib.hid hb1
  clear hb1
  go_wp2_with fail
  refine (within_v h1 _).mono ?_
  rintro e w' ⟨rfl, rfl⟩
  go_wp2_with fail
  go_loopw [6, 8, 20] (fun v _ i wr => ∃ (k : Nat) (As : Nat → Option Addr) (Cs : Nat → Nat), k ≤ n ∧ i = .int .i64 k ∧ wr.ownsRow w.heap.size 74 2 v k (kfl As Cs ((stX ks y).take k)) ∧ Inn wr w.heap.size As Cs (stX ks y) k ∧ Below w.heap.size w wr ∧ KR wr w.heap.size A n ks) (fun _ _ i _ => n - (intOf i).toNat)
  case atStart => exact ⟨0, fun _ => none, fun _ => 0, Nat.zero_le _, rfl, by simpa [kfl] using (World.ownsRow_lit w1 #[] 0 (Nat.le_refl _) (Nat.zero_le _) (by simp)).mono HW1.out.size, Inn.zero _ _ _ _ _, bl_al HW1.out _, HA1.out.below ((Below.refl _ _).alloc (Nat.le_refl _) _)⟩
  case round =>
    obtain ⟨k, As, Cs, hk, rfl, ho, hin, hb, hkr⟩ := hrel
    have HO := Lib.hid ho
    have HI := Lib.hid hin
    have HB := Lib.hid hb
    have HK := Lib.hid hkr
    clear ho hb hkr hin
    by_cases hlt : k < n
    · have hkl : k < ks.length := by rw [HL.out]; exact hlt
      obtain ⟨b1, o1, A1, c1, hA1, _, hbl, g3, g4, hp1⟩ := HK.out.at_ hlt
      obtain ⟨b0, o0, A0, c0, hA0, _, _, g1, _, _⟩ := HK.out.at_ (k := 0) (by omega)
      obtain ⟨rfl, rfl⟩ : b0 = b1 ∧ o0 = o1 := by rw [hA1] at hA0; injection hA0 with e; injection e with e1 e2; exact ⟨e1.symm, e2.symm⟩
      rw [Nat.zero_mul, Nat.add_zero] at g1
      obtain ⟨⟨m1, m2⟩, m3, m4⟩ := st_bd HV.out hkl y1 y2
      obtain ⟨l1, l2, _⟩ := kd8 HV.out hkl
      obtain ⟨x1, x2⟩ := HV.out.tick 0 (by omega)
      have hsk := stX_kd ks y hkl
      obtain ⟨⟨t, ps⟩, hx⟩ : ∃ p, p = kd ks k := ⟨_, rfl⟩
      obtain ⟨t0, ht0⟩ : ∃ p, p = (kd ks 0).1 := ⟨_, rfl⟩
      rw [← hx, ← ht0] at hsk
      rw [← hx, ← ht0] at m1 m2 m3 m4
      rw [← hx] at g3 g4 hp1 l1 l2
      rw [← ht0] at g1 x1 x2
      dsimp only at g3 g4 hp1 l1 l2 m1 m2 m3 m4 hsk
      subst hA1
      have HP := Lib.hid hp1
      have HSK := Lib.hid hsk
      clear hx ht0 hp1 hsk hA0
      have s1 : (0 : Int) ≤ (k : Int) := by omega
      have s2 : (k : Int) < (n : Int) := by omega
      have s3 : (0 : Int) < (n : Int) := by omega
      have s4 : 0 < n := by omega
      have s5 : IntKind.i64.wrap (t - t0) = t - t0 := w64' (by omega) (by omega)
      have s6 : IntKind.i64.wrap ((t - t0) * y) = (t - t0) * y := w64' (by omega) (by omega)
      have s7 : IntKind.i64.wrap (t0 + (t - t0) * y) = t0 + (t - t0) * y := w64' (by omega) (by omega)
      have s8 : IntKind.i64.wrap (y * (t - t0)) = (t - t0) * y := by rw [Int.mul_comm]; exact s6
      obtain ⟨bp, op, hAp, _⟩ := HP.out.pi.2 (by omega)
      subst hAp
      go_wp2
      have hne1 : u6.ownBlock ≠ some b0 := fun e => by have := (HO.out.lt _ e).1; omega
      have hne2 : u6.ownBlock ≠ some wr.heap.size := fun e => by have := (HO.out.lt _ e).2; omega
      refine wp_region_held_drew (S := (fun w' => w'.cell? ⟨b0, o0, none⟩ = some (.int .i64 t0) ∧ w'.cell? ⟨wr.heap.size, 0, none⟩ = some (.int .i64 t) ∧ w'.cell? ⟨wr.heap.size, 1, none⟩ = some (.slice (some ⟨bp, op, none⟩) ps.length c1))) (by kernel_rfl) ?_ (fun hHeld => ?_)
      · ((try dsimp only); (refine ⟨?_, ?_, ?_⟩ <;> (first | ((with_reducible (repeat (first | assumption | refine keepD ?_ | refine keepN ?_ _ | refine keepA ?_))); done) | (simp [go_sem]; done) | (refine bcell_of hb2 ?_; first | ((with_reducible (repeat (first | assumption | refine keepD ?_ | refine keepN ?_ _ | refine keepA ?_))); done) | (simp [go_sem]; done)) | (refine keepA ?_; refine bcell_of hb2 ?_; first | ((with_reducible (repeat (first | assumption | refine keepD ?_ | refine keepN ?_ _ | refine keepA ?_))); done) | (simp [go_sem]; done)))))
      refine take_v 0 (some 24) ?_ rfl (by rfl) (by kernel_rfl) (by kernel_rfl) (by kernel_rfl) (fun _ _ _ h => h) (Or.inl ⟨by rfl, ?_⟩) (by assumption) ?_
      rotate_left
      · (intro w hSw; (try dsimp only at hSw); go_simp; (try with_reducible rfl))
      (try simp only [Act.put, List.setIfInBounds_toArray, List.set_cons_zero, List.set_cons_succ])
      refine take_v 1 (some 25) ?_ rfl (by rfl) (by kernel_rfl) (by kernel_rfl) (by kernel_rfl) (fun _ _ _ h => h) (Or.inl ⟨by rfl, ?_⟩) (by assumption) ?_
      rotate_left
      · (intro w hSw; (try dsimp only at hSw); go_simp; (try with_reducible rfl))
      (try simp only [Act.put, List.setIfInBounds_toArray, List.set_cons_zero, List.set_cons_succ])
      refine take_v 2 (some 26) ?_ rfl (by rfl) (by kernel_rfl) (by kernel_rfl) (by kernel_rfl) (fun _ _ _ h => h) (Or.inl ⟨by rfl, ?_⟩) (by assumption) ?_
      rotate_left
      · (intro w hSw; (try dsimp only at hSw); go_simp; (try with_reducible rfl))
      (try simp only [Act.put, List.setIfInBounds_toArray, List.set_cons_zero, List.set_cons_succ])
      refine take_v 3 (some 27) ?_ rfl (by rfl) (by kernel_rfl) (by kernel_rfl) (by kernel_rfl) (fun _ _ _ h => h) (Or.inl ⟨by rfl, ?_⟩) (by assumption) ?_
      rotate_left
      · (intro w hSw; (try dsimp only at hSw); go_simp; (try with_reducible rfl))
      (try simp only [Act.put, List.setIfInBounds_toArray, List.set_cons_zero, List.set_cons_succ])
      refine take_v 4 (some 28) ?_ rfl (by rfl) (by kernel_rfl) (by kernel_rfl) (by kernel_rfl) (fun _ _ _ h => h) (Or.inl ⟨by rfl, ?_⟩) (by assumption) ?_
      rotate_left
      · (intro w hSw; (try dsimp only at hSw); go_simp; (try with_reducible rfl))
      (try simp only [Act.put, List.setIfInBounds_toArray, List.set_cons_zero, List.set_cons_succ])
      refine take_v 5 (some 29) ?_ rfl (by rfl) (by kernel_rfl) (by kernel_rfl) (by kernel_rfl) (fun _ _ _ h => h) (Or.inl ⟨by rfl, ?_⟩) (by assumption) ?_
      rotate_left
      · (intro w hSw; (try dsimp only at hSw); go_simp; (try with_reducible rfl))
      (try simp only [Act.put, List.setIfInBounds_toArray, List.set_cons_zero, List.set_cons_succ])
      refine take_v 6 (some 30) ?_ rfl (by rfl) (by kernel_rfl) (by kernel_rfl) (by kernel_rfl) (fun _ _ _ h => h) (Or.inl ⟨by rfl, ?_⟩) (by assumption) ?_
      rotate_left
      · (intro w hSw; (try dsimp only at hSw); go_simp; (try with_reducible rfl))
      (try simp only [Act.put, List.setIfInBounds_toArray, List.set_cons_zero, List.set_cons_succ])
      refine take_v 7 (some 31) ?_ rfl (by rfl) (by kernel_rfl) (by kernel_rfl) (by kernel_rfl) (fun _ _ _ h => h) (Or.inl ⟨by rfl, ?_⟩) (by assumption) ?_
      rotate_left
      · (intro w hSw; (try dsimp only at hSw); go_simp; (try with_reducible rfl))
      (try simp only [Act.put, List.setIfInBounds_toArray, List.set_cons_zero, List.set_cons_succ])
      refine take_v 8 (some 32) ?_ rfl (by rfl) (by kernel_rfl) (by kernel_rfl) (by kernel_rfl) (fun _ _ _ h => h) (Or.inl ⟨by rfl, ?_⟩) (by assumption) ?_
      rotate_left
      · (intro w hSw; (try dsimp only at hSw); go_simp; (try with_reducible rfl))
      (try simp only [Act.put, List.setIfInBounds_toArray, List.set_cons_zero, List.set_cons_succ])
      refine take_v 9 (some 33) ?_ rfl (by rfl) (by kernel_rfl) (by kernel_rfl) (by kernel_rfl) (fun _ _ _ h => h) (Or.inl ⟨by rfl, ?_⟩) (by assumption) ?_
      rotate_left
      · (intro w hSw; (try dsimp only at hSw); go_simp; (try with_reducible rfl))
      (try simp only [Act.put, List.setIfInBounds_toArray, List.set_cons_zero, List.set_cons_succ])
      refine take_v 10 (some 34) ?_ rfl (by rfl) (by kernel_rfl) (by kernel_rfl) (by kernel_rfl) (fun _ _ _ h => h) (Or.inl ⟨by rfl, ?_⟩) (by assumption) ?_
      rotate_left
      · (intro w hSw; (try dsimp only at hSw); go_simp; (try with_reducible rfl))
      (try simp only [Act.put, List.setIfInBounds_toArray, List.set_cons_zero, List.set_cons_succ])
      refine take_v 11 (some 35) ?_ rfl (by rfl) (by kernel_rfl) (by kernel_rfl) (by kernel_rfl) (fun _ _ _ h => h) (Or.inl ⟨by rfl, ?_⟩) (by assumption) ?_
      rotate_left
      · (intro w hSw; (try dsimp only at hSw); go_simp; (try with_reducible rfl))
      (try simp only [Act.put, List.setIfInBounds_toArray, List.set_cons_zero, List.set_cons_succ])
      refine take_v 12 (some 36) ?_ rfl (by rfl) (by kernel_rfl) (by kernel_rfl) (by kernel_rfl) (fun _ _ _ h => h) (Or.inl ⟨by rfl, ?_⟩) (by assumption) ?_
      rotate_left
      · (intro w hSw; (try dsimp only at hSw); go_simp; (try with_reducible rfl))
      (try simp only [Act.put, List.setIfInBounds_toArray, List.set_cons_zero, List.set_cons_succ])
      refine take_v 13 (some 37) ?_ rfl (by rfl) (by kernel_rfl) (by kernel_rfl) (by kernel_rfl) (fun _ _ _ h => h) (Or.inl ⟨by rfl, ?_⟩) (by assumption) ?_
      rotate_left
      · (intro w hSw; (try dsimp only at hSw); go_simp; (try with_reducible rfl))
      (try simp only [Act.put, List.setIfInBounds_toArray, List.set_cons_zero, List.set_cons_succ])
      refine take_v 14 (some 38) ?_ rfl (by rfl) (by kernel_rfl) (by kernel_rfl) (by kernel_rfl) (fun _ _ _ h => h) (Or.inl ⟨by rfl, ?_⟩) (by assumption) ?_
      rotate_left
      · (intro w hSw; (try dsimp only at hSw); go_simp; (try with_reducible rfl))
      (try simp only [Act.put, List.setIfInBounds_toArray, List.set_cons_zero, List.set_cons_succ])
      refine take_v 15 (some 39) ?_ rfl (by rfl) (by kernel_rfl) (by kernel_rfl) (by kernel_rfl) (fun _ _ _ h => h) (Or.inl ⟨by rfl, ?_⟩) (by assumption) ?_
      rotate_left
      · (intro w hSw; (try dsimp only at hSw); go_simp; (try with_reducible rfl))
      (try simp only [Act.put, List.setIfInBounds_toArray, List.set_cons_zero, List.set_cons_succ])
      refine take_v 16 (some 40) ?_ rfl (by rfl) (by kernel_rfl) (by kernel_rfl) (by kernel_rfl) (fun _ _ _ h => h) (Or.inl ⟨by rfl, ?_⟩) (by assumption) ?_
      rotate_left
      · (intro w hSw; (try dsimp only at hSw); go_simp; (try with_reducible rfl))
      (try simp only [Act.put, List.setIfInBounds_toArray, List.set_cons_zero, List.set_cons_succ])
      refine wpAnyH_ready (rs := [17]) (by kernel_rfl) (by simp) ?_
      refine AllReadyH.cons rfl (fun K hK => ?_) AllReadyH.nil
      rw [if_pos (by rfl)]
      go_simp
      go_at_call 64
      refine (CloneP_any _ _ _ ps _ (by omega) (by omega) (by first | exact (HP.out.pi.alloc _).drewN _ | exact HP.out.pi.alloc _ | exact PI.drewN (HP.out.pi.alloc _) 1)).mono ?_
      rintro e w2 ⟨A2, c2, rfl, own2, hb2⟩
      have HB2 := Lib.hid (show Below wr.heap.size wr w2 from by
        repeat (first | exact Below.refl _ _ | assumption | refine bl_drewN ?_ _ | refine Below.drew ?_ | refine bl_al ?_ _ | (refine Below.setCell ?_ (by simp <;> omega) _) | refine bl_tr ?_ (by assumption)))
      have HO2 := Lib.hid (own_below HO.out HB2.out)
      have HW2 := Lib.hid (own2.mono (show wr.heap.size ≤ _ from by simp))
      have hz2s : w.heap.size ≤ w2.heap.size := Nat.le_trans HB.out.size HB2.out.size
      have hz3s : wr.heap.size < w2.heap.size := by have := hb2.size; simp at this; omega
      go_wp2_with fail
      refine hK.out _ _ ?_ (fun hHeld => ?_)
      · ((try dsimp only); (refine ⟨?_, ?_, ?_⟩ <;> (first | ((with_reducible (repeat (first | assumption | refine keepD ?_ | refine keepN ?_ _ | refine keepA ?_))); done) | (simp [go_sem]; done) | (refine bcell_of hb2 ?_; first | ((with_reducible (repeat (first | assumption | refine keepD ?_ | refine keepN ?_ _ | refine keepA ?_))); done) | (simp [go_sem]; done)) | (refine keepA ?_; refine bcell_of hb2 ?_; first | ((with_reducible (repeat (first | assumption | refine keepD ?_ | refine keepN ?_ _ | refine keepA ?_))); done) | (simp [go_sem]; done)))))
      clear hK K
      (try simp only [Act.put, List.setIfInBounds_toArray, List.set_cons_zero, List.set_cons_succ])
      refine take_v 18 (some 42) ?_ rfl (by rfl) (by kernel_rfl) (by kernel_rfl) (by kernel_rfl) (fun _ _ _ h => h) (Or.inl ⟨by rfl, ?_⟩) (by assumption) ?_
      rotate_left
      · (intro w hSw; (try dsimp only at hSw); go_simp; (try with_reducible rfl))
      (try simp only [Act.put, List.setIfInBounds_toArray, List.set_cons_zero, List.set_cons_succ])
      refine wpAnyH_ready (rs := [19]) (by kernel_rfl) (by simp) ?_
      refine AllReadyH.cons rfl (fun K hK => ?_) AllReadyH.nil
      rw [if_pos (by rfl)]
      go_simp
      try go_wp2_with fail
      refine hK.out _ _ ?_ (fun hHeld => ?_)
      · ((try dsimp only); (refine ⟨?_, ?_, ?_⟩ <;> (first | ((with_reducible (repeat (first | assumption | refine keepD ?_ | refine keepN ?_ _ | refine keepA ?_))); done) | (simp [go_sem]; done) | (refine bcell_of hb2 ?_; first | ((with_reducible (repeat (first | assumption | refine keepD ?_ | refine keepN ?_ _ | refine keepA ?_))); done) | (simp [go_sem]; done)) | (refine keepA ?_; refine bcell_of hb2 ?_; first | ((with_reducible (repeat (first | assumption | refine keepD ?_ | refine keepN ?_ _ | refine keepA ?_))); done) | (simp [go_sem]; done)))))
      clear hK K
      (try simp only [Act.put, List.setIfInBounds_toArray])
      refine wpAnyH_ready (rs := [20]) (by kernel_rfl) (by simp) ?_
      refine AllReadyH.cons rfl (fun K hK => ?_) AllReadyH.nil
      refine step_append_lies _ (by rfl) _ _ _ (by rfl) w.heap.size 74 j0 (.agg #[.int .i64 0, .slice none 0 0]) 2 32 Try.underlying41 hj hy0 hy1 hy2 rfl (by decide) u6 k (kfl As Cs ((stX ks y).take k)) (by rfl) (HO2.out.alloc _) ⟨w2.heap.size, 0, none⟩ 1 1 [.int .i64 (t0 + (t - t0) * y), .slice A2 ps.length c2] (by rfl) (by rfl) (cell_two_new0 _ _ _ _) (key_one _ _ _ _) (by omega) (by unfold maxLen; omega) (by omega) (by simp; omega) (w2.heap.size + 1) (by simp) ?_
      intro gg cap w3 hown2 hgrow2 hat hgl
      refine hK.out _ _ ?_ (fun hHeld => ?_)
      · ((try dsimp only); (refine ⟨?_, ?_, ?_⟩ <;> (first | (rw [hgrow2.cell_far _ (by simp; omega) (Ne.symm hne1)]; (first | ((with_reducible (repeat (first | assumption | refine keepD ?_ | refine keepN ?_ _ | refine keepA ?_))); done) | (simp [go_sem]; done) | (refine bcell_of hb2 ?_; first | ((with_reducible (repeat (first | assumption | refine keepD ?_ | refine keepN ?_ _ | refine keepA ?_))); done) | (simp [go_sem]; done)) | (refine keepA ?_; refine bcell_of hb2 ?_; first | ((with_reducible (repeat (first | assumption | refine keepD ?_ | refine keepN ?_ _ | refine keepA ?_))); done) | (simp [go_sem]; done)))) | (rw [hgrow2.cell_far _ (by simp; omega) (Ne.symm hne2)]; (first | ((with_reducible (repeat (first | assumption | refine keepD ?_ | refine keepN ?_ _ | refine keepA ?_))); done) | (simp [go_sem]; done) | (refine bcell_of hb2 ?_; first | ((with_reducible (repeat (first | assumption | refine keepD ?_ | refine keepN ?_ _ | refine keepA ?_))); done) | (simp [go_sem]; done)) | (refine keepA ?_; refine bcell_of hb2 ?_; first | ((with_reducible (repeat (first | assumption | refine keepD ?_ | refine keepN ?_ _ | refine keepA ?_))); done) | (simp [go_sem]; done)))))))
      clear hK K
      (try simp only [Act.put])
      refine take_v 21 (some 6) ?_ rfl (by rfl) (by kernel_rfl) (by kernel_rfl) (by kernel_rfl) (fun _ _ _ h => h) (Or.inl ⟨by rfl, ?_⟩) (by assumption) ?_
      rotate_left
      · (intro w hSw; (try dsimp only at hSw); go_simp; (try with_reducible rfl))
      (try simp only [Act.put, List.setIfInBounds_toArray])
      refine wpAnyH_done (by kernel_rfl) ?_ _
      go_wp2
      have HOW := Lib.hid (show w2.ownsRow wr.heap.size 61 2 (.slice A2 (kd (stX ks y) k).2.length c2) (kd (stX ks y) k).2.length (flat (kd (stX ks y) k).2) from by rw [HSK.out]; simpa using HW2.out)
      have HI2 := Lib.hid (HI.out.succ HB2.out HB.out.size HOW.out)
      have hb4 := ((bl_al (bl_tr HB.out HB2.out) _).grown hgrow2 (by simp; omega) (fun j hj => (HO2.out.lt j hj).1))
      have HK4 := Lib.hid (KR.touch ((HK.out.below HB2.out).below ((Below.refl _ _).alloc (Nat.le_refl _) _)) (Touch.of_grown hgrow2 (fun j hj => HO2.out.lt j hj)) (Nat.le_refl _))
      have HI4 := Lib.hid ((HI2.out.below ((Below.refl _ _).alloc (Nat.le_refl _) _)).grown (HO2.out.alloc _) hgrow2)
      have HN := Lib.hid (st_snoc As Cs A2 c2 hkl HSK.out)
      go_roundw
      case rel => exact ⟨k + 1, _, _, by omega, by go_num, by rw [HN.out]; exact hown2, HI4.out, hb4, HK4.out⟩
      case measure => simp [intOf]; omega
    · have hk2 : k = n := by omega
      have hxl : (stX ks y).length = n := by rw [stX_len, HL.out]
      have HO1 := Lib.hid (show wr.ownsRow w.heap.size 74 2 u6 n (kfl As Cs (stX ks y)) from by have := HO.out; rw [hk2] at this; rwa [List.take_of_length_le (by omega)] at this)
      have HI1 := Lib.hid (show Inn wr w.heap.size As Cs (stX ks y) n from hk2 ▸ HI.out)
      obtain ⟨A9, c9, rfl⟩ := own_form HO1.out
      have HOK := Lib.hid (Inn.ok hxl HO1.out HI1.out)
      have HXL := Lib.hid hxl
      clear HO HI hk2 hxl
      go_wp2_with fail
      refine (ValidKeys_any _ _ _ (stX ks y) _ hms HOK.out.ki).mono ?_
      rintro e w9 ⟨rfl, hb9⟩
      cases h2 : vk (stX ks y)
      · go_wp2_with fail
        go_ret2
        rw [show X = [] from by rw [HX.out]; simp [skX, h2], show KK = 5 from by rw [HKK.out]; simp [skK, h0, h1, h2]]
        exact KyC.none_ (bl_tr HB.out hb9)
      · go_wp2_with fail
        go_ret2
        rw [show X = stX ks y from by rw [HX.out]; simp [skX, h0, h1, h2], show KK = 0 from by rw [HKK.out]; simp [skK, h0, h1, h2]]
        exact ⟨A9, c9, by rw [HXL.out] <;> rfl, by rw [HXL.out]; exact (HOK.out.below hb9).wide hb9.size, bl_tr HB.out hb9⟩

end Go.Proofs.Ytofjohkhhomldaa

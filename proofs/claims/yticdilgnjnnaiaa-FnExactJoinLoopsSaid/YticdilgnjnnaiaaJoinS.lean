/-
  PROVED HERE: the walk of JoinLoops (the reference): the program and the reference agree. CONDITIONS: the arguments' cells lie in the world.
-/
import Derived.Test.YticdilgnjnnaiaaJoin
namespace Go.Proofs.Yticdilgnjnnaiaa
open Go.RowKit

set_option maxHeartbeats 4000000 in
theorem lJoinLoops_v (A : Option Addr) (n c : Nat) (xs : List Int) (B : Option Addr) (m d : Nat) (ys : List Int) (w : World) (hn : xs.length ≤ 1048576) (hm : ys.length ≤ 1048576) (hA : RI w A n xs) (hB : RI w B m ys) :
    Calls Try.prog 23 #[.slice A n c, .slice B m d] w (WCQ w.heap.size (jlX xs ys) (jlK xs ys) w) := by
  obtain ⟨j0, hj, hy0, hy1, hy2⟩ := info_parts info_Q
  have HL := Lib.hid hA.1
  have HM := Lib.hid hB.1
  have HA := Lib.hid hA
  have HB := Lib.hid hB
  have hn2 : n ≤ 1152921504606846976 := by have := hA.1; omega
  have hm2 : m ≤ 1152921504606846976 := by have := hB.1; omega
  clear hA hB
  cases h0 : vl xs
  case false =>
    have e1 : jlX xs ys = [] := by simp [jlX, h0]
    have e2 : jlK xs ys = 1 := by simp [jlK, h0]
    rw [e1, e2]
    clear e1 e2
    go_enter Try.func23, Try.ntmps23
    go_wp2_with fail
    refine (l05Ok_any _ _ _ xs _ hn2 HA.out).mono ?_
    rintro e w' ⟨rfl, rfl⟩
    go_wp2_with fail
    go_ret2
    exact WCQ.none_ (Below.refl _ _)
  cases h1 : vl ys
  case false =>
    have e1 : jlX xs ys = [] := by simp [jlX, h0, h1]
    have e2 : jlK xs ys = 1 := by simp [jlK, h0, h1]
    rw [e1, e2]
    clear e1 e2
    go_enter Try.func23, Try.ntmps23
    go_wp2_with fail
    refine (l05Ok_any _ _ _ xs _ hn2 HA.out).mono ?_
    rintro e w' ⟨rfl, rfl⟩
    go_wp2_with fail
    refine (l05Ok_any _ _ _ ys _ hm2 HB.out).mono ?_
    rintro e w' ⟨rfl, rfl⟩
    go_wp2_with fail
    go_ret2
    exact WCQ.none_ (Below.refl _ _)
  obtain ⟨⟨n1, n60⟩, _⟩ := vl_t h0
  obtain ⟨⟨m1, m60⟩, _⟩ := vl_t h1
  rw [HL.out] at n1 n60
  rw [HM.out] at m1 m60
  obtain ⟨_, _, _, c0, c1⟩ := cl_bd n1 n60 m1 m60
  have hN : jlN xs ys = clV (n : Int) (m : Int) := by unfold jlN; rw [HL.out, HM.out]
  have cc := fun W => l05Common_any (n : Int) (m : Int) W n1 n60 m1 m60
  obtain ⟨N, hNN⟩ : ∃ N : Nat, (N : Int) = clV (n : Int) (m : Int) := ⟨(clV (n : Int) (m : Int)).toNat, by omega⟩
  rw [← hNN] at c0 c1 hN cc
  have CC := Lib.hid cc
  have HN := Lib.hid hN
  clear cc hNN hN
  by_cases h2 : N ≤ 360
  rotate_left
  · have h2' : ¬ jlN xs ys ≤ 360 := by rw [HN.out]; omega
    have e1 : jlX xs ys = [] := by simp [jlX, h0, h1, h2']
    have e2 : jlK xs ys = 5 := by simp [jlK, h0, h1, h2']
    rw [e1, e2]
    clear e1 e2
    clear h2'
    have s20 : decide ((360 : Int) < (N : Int)) = true := by simp; omega
    go_enter Try.func23, Try.ntmps23
    go_wp2_with fail
    refine (l05Ok_any _ _ _ xs _ hn2 HA.out).mono ?_
    rintro e w' ⟨rfl, rfl⟩
    go_wp2_with fail
    refine (l05Ok_any _ _ _ ys _ hm2 HB.out).mono ?_
    rintro e w' ⟨rfl, rfl⟩
    go_wp2_with fail
    refine (CC.out _).mono ?_
    rintro e w' ⟨rfl, k0, rfl⟩
    go_wp2_with fail
    go_ret2
    exact WCQ.none_ (bl_drewN (Below.refl _ _) _)
  have h2' : jlN xs ys ≤ 360 := by rw [HN.out]; omega
  have e1 : jlX xs ys = jlI xs ys N := by unfold jlX; rw [h0, h1, HN.out]; simp [show (N : Int) ≤ 360 by omega]
  have e2 : jlK xs ys = 0 := by simp [jlK, h0, h1, h2']
  rw [e1, e2]
  clear e1 e2 h2'
  have s20 : decide ((360 : Int) < (N : Int)) = false := by simp; omega
  go_enter Try.func23, Try.ntmps23
  go_wp2_with fail
  refine (l05Ok_any _ _ _ xs _ hn2 HA.out).mono ?_
  rintro e w' ⟨rfl, rfl⟩
  go_wp2_with fail
  refine (l05Ok_any _ _ _ ys _ hm2 HB.out).mono ?_
  rintro e w' ⟨rfl, rfl⟩
  go_wp2_with fail
  refine (CC.out _).mono ?_
  rintro e w' ⟨rfl, k0, rfl⟩
  go_wp2_with fail
  go_loopw [7, 8] (fun v i wr => ∃ (k : Nat) (As : Nat → Option Addr) (Cs : Nat → Nat), k ≤ N ∧ i = .int .i64 k ∧ wr.ownsRow w.heap.size 22 1 v k (Qrc As Cs ((jlI xs ys N).take k)) ∧ NWQ wr w.heap.size As Cs (jlI xs ys N) k ∧ Below w.heap.size w wr) (fun _ i _ => N - (intOf i).toNat)
  case atStart => exact ⟨0, fun _ => none, fun _ => 0, Nat.zero_le _, rfl, by simpa [Qrc] using own_drewN (World.ownsRow_lit w #[] 0 (Nat.le_refl _) (Nat.zero_le _) (by simp)) k0, NWQ.zero _ _ _ _ _, bl_drewN (bl_al (Below.refl _ _) _) _⟩
  case round =>
    obtain ⟨k, As, Cs, hk, rfl, ho, hin, hb⟩ := hrel
    have HO := Lib.hid ho
    have HI := Lib.hid hin
    have HBW := Lib.hid hb
    clear ho hb hin
    by_cases hlt : k < N
    · have hz : w.heap.size ≤ wr.heap.size := HBW.out.size
      obtain ⟨p, hp0, hp1, hp2, hp3⟩ := mod_at k n (by omega)
      obtain ⟨r, hr0, hr1, hr2, hr3⟩ := mod_at k m (by omega)
      obtain ⟨b1, o1, hA1, g1⟩ := (HA.out.below HBW.out).at_ hp3
      obtain ⟨b2, o2, hA2, g2⟩ := (HB.out.below HBW.out).at_ hr3
      have l1 : b1 < w.heap.size := by obtain ⟨b, off, e, hb, _⟩ := HA.out.2 (by omega); rw [hA1] at e; injection e with e; injection e with e1; omega
      have l2 : b2 < w.heap.size := by obtain ⟨b, off, e, hb, _⟩ := HB.out.2 (by omega); rw [hA2] at e; injection e with e; injection e with e1; omega
      have hrd := jlI_rd xs ys hlt
      rw [HL.out, HM.out, ← hp0, ← hr0] at hrd
      obtain ⟨x, hx⟩ : ∃ x, x = xs.getD p 0 := ⟨_, rfl⟩
      obtain ⟨z, hzz⟩ : ∃ x, x = ys.getD r 0 := ⟨_, rfl⟩
      rw [← hx] at g1
      rw [← hzz] at g2
      rw [← hx, ← hzz] at hrd
      subst hA1
      subst hA2
      have HRD := Lib.hid hrd
      clear hx hzz hrd hp0 hr0
      have s1 : (0 : Int) ≤ (k : Int) := by omega
      have s2 : (k : Int) < (N : Int) := by omega
      have s3 : (0 : Int) ≤ (p : Int) := by omega
      have s4 : (p : Int) < (n : Int) := by omega
      have s5 : (0 : Int) ≤ (r : Int) := by omega
      have s6 : (r : Int) < (m : Int) := by omega
      have s7 : ((n : Int) == 0) = false := by simp; omega
      have s8 : ((m : Int) == 0) = false := by simp; omega
      have s9 : ¬ (n : Int) = 0 := by omega
      have s10 : ¬ (m : Int) = 0 := by omega
      have s11 : ¬ n = 0 := by omega
      have s12 : ¬ m = 0 := by omega
      have s13 : IntKind.i64.wrap (p : Int) = (p : Int) := w64 (by omega) (by omega)
      have s14 : IntKind.i64.wrap (r : Int) = (r : Int) := w64 (by omega) (by omega)
      have hne1 : u7.ownBlock ≠ some b1 := fun e => by have := (HO.out.lt _ e).1; omega
      have hne2 : u7.ownBlock ≠ some b2 := fun e => by have := (HO.out.lt _ e).1; omega
      go_wp2
      refine wp_region_held_drew (S := (fun w' => w'.cell? ⟨b1, o1 + p, none⟩ = some (.int .i64 x) ∧ w'.cell? ⟨b2, o2 + r, none⟩ = some (.int .i64 z))) (by kernel_rfl) ?_ (fun hHeld => ?_)
      · ((try dsimp only); (refine ⟨?_, ?_⟩ <;> (first | ((with_reducible (repeat (first | assumption | refine keepD ?_ | refine keepN ?_ _ | refine keepA ?_))); done) | (simp [go_sem]; done))))
      refine take_v 0 (some 30) ?_ rfl (by rfl) (by kernel_rfl) (by kernel_rfl) (by kernel_rfl) (fun _ _ _ h => h) (Or.inl ⟨by rfl, ?_⟩) (by assumption) ?_
      rotate_left
      · (intro w hSw; (try dsimp only at hSw); go_simp; (try with_reducible rfl))
      (try simp only [Act.put, List.setIfInBounds_toArray, List.set_cons_zero, List.set_cons_succ])
      refine take_v 1 (some 31) ?_ rfl (by rfl) (by kernel_rfl) (by kernel_rfl) (by kernel_rfl) (fun _ _ _ h => h) (Or.inl ⟨by rfl, ?_⟩) (by assumption) ?_
      rotate_left
      · (intro w hSw; (try dsimp only at hSw); go_simp; (try with_reducible rfl))
      (try simp only [Act.put, List.setIfInBounds_toArray, List.set_cons_zero, List.set_cons_succ])
      refine take_v 2 (some 32) ?_ rfl (by rfl) (by kernel_rfl) (by kernel_rfl) (by kernel_rfl) (fun _ _ _ h => h) (Or.inl ⟨by rfl, ?_⟩) (by assumption) ?_
      rotate_left
      · (intro w hSw; (try dsimp only at hSw); go_simp; (try with_reducible rfl))
      (try simp only [Act.put, List.setIfInBounds_toArray, List.set_cons_zero, List.set_cons_succ])
      refine take_v 3 (some 33) ?_ rfl (by rfl) (by kernel_rfl) (by kernel_rfl) (by kernel_rfl) (fun _ _ _ h => h) (Or.inl ⟨by rfl, ?_⟩) (by assumption) ?_
      rotate_left
      · (intro w hSw; (try dsimp only at hSw); go_simp; (try with_reducible rfl))
      (try simp only [Act.put, List.setIfInBounds_toArray, List.set_cons_zero, List.set_cons_succ])
      refine take_v 4 (some 34) ?_ rfl (by rfl) (by kernel_rfl) (by kernel_rfl) (by kernel_rfl) (fun _ _ _ h => h) (Or.inl ⟨by rfl, ?_⟩) (by assumption) ?_
      rotate_left
      · (intro w hSw; (try dsimp only at hSw); go_simp; (try with_reducible rfl))
      (try simp only [Act.put, List.setIfInBounds_toArray, List.set_cons_zero, List.set_cons_succ])
      refine take_v 5 (some 35) ?_ rfl (by rfl) (by kernel_rfl) (by kernel_rfl) (by kernel_rfl) (fun _ _ _ h => h) (Or.inl ⟨by rfl, ?_⟩) (by assumption) ?_
      rotate_left
      · (intro w hSw; (try dsimp only at hSw); go_simp; (try with_reducible rfl))
      (try simp only [Act.put, List.setIfInBounds_toArray, List.set_cons_zero, List.set_cons_succ])
      refine take_v 6 (some 36) ?_ rfl (by rfl) (by kernel_rfl) (by kernel_rfl) (by kernel_rfl) (fun _ _ _ h => h) (Or.inl ⟨by rfl, ?_⟩) (by assumption) ?_
      rotate_left
      · (intro w hSw; (try dsimp only at hSw); go_simp; (try with_reducible rfl))
      (try simp only [Act.put, List.setIfInBounds_toArray, List.set_cons_zero, List.set_cons_succ])
      refine take_v 7 (some 37) ?_ rfl (by rfl) (by kernel_rfl) (by kernel_rfl) (by kernel_rfl) (fun _ _ _ h => h) (Or.inl ⟨by rfl, ?_⟩) (by assumption) ?_
      rotate_left
      · (intro w hSw; (try dsimp only at hSw); go_simp; (try with_reducible rfl))
      (try simp only [Act.put, List.setIfInBounds_toArray, List.set_cons_zero, List.set_cons_succ])
      refine take_v 8 (some 38) ?_ rfl (by rfl) (by kernel_rfl) (by kernel_rfl) (by kernel_rfl) (fun _ _ _ h => h) (Or.inl ⟨by rfl, ?_⟩) (by assumption) ?_
      rotate_left
      · (intro w hSw; (try dsimp only at hSw); go_simp; (try with_reducible rfl))
      (try simp only [Act.put, List.setIfInBounds_toArray, List.set_cons_zero, List.set_cons_succ])
      refine take_v 9 (some 39) ?_ rfl (by rfl) (by kernel_rfl) (by kernel_rfl) (by kernel_rfl) (fun _ _ _ h => h) (Or.inl ⟨by rfl, ?_⟩) (by assumption) ?_
      rotate_left
      · (intro w hSw; (try dsimp only at hSw); go_simp; (try with_reducible rfl))
      (try simp only [Act.put, List.setIfInBounds_toArray, List.set_cons_zero, List.set_cons_succ])
      refine take_v 10 (some 40) ?_ rfl (by rfl) (by kernel_rfl) (by kernel_rfl) (by kernel_rfl) (fun _ _ _ h => h) (Or.inl ⟨by rfl, ?_⟩) (by assumption) ?_
      rotate_left
      · (intro w hSw; (try dsimp only at hSw); go_simp; (try with_reducible rfl))
      (try simp only [Act.put, List.setIfInBounds_toArray, List.set_cons_zero, List.set_cons_succ])
      refine take_v 11 (some 41) ?_ rfl (by rfl) (by kernel_rfl) (by kernel_rfl) (by kernel_rfl) (fun _ _ _ h => h) (Or.inl ⟨by rfl, ?_⟩) (by assumption) ?_
      rotate_left
      · (intro w hSw; (try dsimp only at hSw); go_simp; (try with_reducible rfl))
      (try simp only [Act.put, List.setIfInBounds_toArray, List.set_cons_zero, List.set_cons_succ])
      refine take_v 12 (some 42) ?_ rfl (by rfl) (by kernel_rfl) (by kernel_rfl) (by kernel_rfl) (fun _ _ _ h => h) (Or.inl ⟨by rfl, ?_⟩) (by assumption) ?_
      rotate_left
      · (intro w hSw; (try dsimp only at hSw); go_simp; (try with_reducible rfl))
      (try simp only [Act.put, List.setIfInBounds_toArray, List.set_cons_zero, List.set_cons_succ])
      refine take_v 13 (some 43) ?_ rfl (by rfl) (by kernel_rfl) (by kernel_rfl) (by kernel_rfl) (fun _ _ _ h => h) (Or.inl ⟨by rfl, ?_⟩) (by assumption) ?_
      rotate_left
      · (intro w hSw; (try dsimp only at hSw); go_simp; (try with_reducible rfl))
      (try simp only [Act.put, List.setIfInBounds_toArray, List.set_cons_zero, List.set_cons_succ])
      refine take_v 14 (some 44) ?_ rfl (by rfl) (by kernel_rfl) (by kernel_rfl) (by kernel_rfl) (fun _ _ _ h => h) (Or.inl ⟨by rfl, ?_⟩) (by assumption) ?_
      rotate_left
      · (intro w hSw; (try dsimp only at hSw); go_simp; (try with_reducible rfl))
      (try simp only [Act.put, List.setIfInBounds_toArray, List.set_cons_zero, List.set_cons_succ])
      refine wpAnyH_ready (rs := [15]) (by kernel_rfl) (by simp) ?_
      refine AllReadyH.cons rfl (fun K hK => ?_) AllReadyH.nil
      rw [if_pos (by rfl)]
      go_simp
      try go_wp2_with fail
      refine hK.out _ _ ?_ (fun hHeld => ?_)
      · ((try dsimp only); (refine ⟨?_, ?_⟩ <;> (first | ((with_reducible (repeat (first | assumption | refine keepD ?_ | refine keepN ?_ _ | refine keepA ?_))); done) | (simp [go_sem]; done))))
      clear hK K
      (try simp only [Act.put, List.setIfInBounds_toArray])
      refine wpAnyH_ready (rs := [16]) (by kernel_rfl) (by simp) ?_
      refine AllReadyH.cons rfl (fun K hK => ?_) AllReadyH.nil
      rw [if_pos (by rfl)]
      go_simp
      try go_wp2_with fail
      refine hK.out _ _ ?_ (fun hHeld => ?_)
      · ((try dsimp only); (refine ⟨?_, ?_⟩ <;> (first | ((with_reducible (repeat (first | assumption | refine keepD ?_ | refine keepN ?_ _ | refine keepA ?_))); done) | (simp [go_sem]; done))))
      clear hK K
      (try simp only [Act.put, List.setIfInBounds_toArray])
      refine wpAnyH_ready (rs := [17]) (by kernel_rfl) (by simp) ?_
      refine AllReadyH.cons rfl (fun K hK => ?_) AllReadyH.nil
      refine step_append_lies _ (by rfl) _ _ _ (by rfl) w.heap.size 22 j0 (.slice none 0 0) 1 24 Try.underlying33 hj hy0 hy1 hy2 rfl (by decide) u7 k (Qrc As Cs ((jlI xs ys N).take k)) (by rfl) (((HO.out.alloc _).alloc _).drew) ⟨wr.heap.size + 1, 0, none⟩ 1 1 [.slice (some ⟨wr.heap.size, 0, none⟩) 2 2] (by rfl) (by rfl) (fun j u h => by have := cell_one_new (wr.alloc (.cells #[.int .i64 x, .int .i64 z] 2)) _ 22 j u h; simpa using this) (row_one _ _ _) (by omega) (by unfold maxLen; omega) (by omega) (by simp; omega) (wr.heap.size + 1 + 1) (by simp) ?_
      intro gg cap w3 hown2 hgrow2 hat hgl
      refine hK.out _ _ ?_ (fun hHeld => ?_)
      · ((try dsimp only); (refine ⟨?_, ?_⟩ <;> (first | (rw [hgrow2.cell_far _ (by simp; omega) (Ne.symm hne1)]; (first | ((with_reducible (repeat (first | assumption | refine keepD ?_ | refine keepN ?_ _ | refine keepA ?_))); done) | (simp [go_sem]; done))) | (rw [hgrow2.cell_far _ (by simp; omega) (Ne.symm hne2)]; (first | ((with_reducible (repeat (first | assumption | refine keepD ?_ | refine keepN ?_ _ | refine keepA ?_))); done) | (simp [go_sem]; done))))))
      clear hK K
      (try simp only [Act.put])
      refine take_v 18 (some 7) ?_ rfl (by rfl) (by kernel_rfl) (by kernel_rfl) (by kernel_rfl) (fun _ _ _ h => h) (Or.inl ⟨by rfl, ?_⟩) (by assumption) ?_
      rotate_left
      · (intro w hSw; (try dsimp only at hSw); go_simp; (try with_reducible rfl))
      (try simp only [Act.put, List.setIfInBounds_toArray])
      refine wpAnyH_done (by kernel_rfl) ?_ _
      go_wp2

      have HOW := Lib.hid (show (wr.alloc (.cells #[.int .i64 x, .int .i64 z] 2)).ownsRow wr.heap.size 2 1 (.slice (some ⟨wr.heap.size, 0, none⟩) (Qrd (jlI xs ys N) k).length 2) (Qrd (jlI xs ys N) k).length ((Qrd (jlI xs ys N) k).map (Value.int .i64)) from by
        rw [HRD.out]; exact World.ownsRow_lit wr #[.int .i64 x, .int .i64 z] 2 (Nat.le_refl _) (by unfold maxLen; omega) (by simp))
      have HI2 := Lib.hid (HI.out.succ (bl_al (Below.refl _ _) _) HBW.out.size HOW.out)
      have hb4 := ((bl_drewN (bl_al (bl_al HBW.out _) _) 1).grown hgrow2 (by simp; omega) (fun j hj => (HO.out.lt j hj).1))
      have HI4 := Lib.hid (((HI2.out.below ((Below.refl _ _).alloc (Nat.le_refl _) _)).drewN 1).grown (((HO.out.alloc _).alloc _).drew) hgrow2)
      have HSN := Lib.hid (jl_snoc As Cs (some ⟨wr.heap.size, 0, none⟩) 2 hlt HRD.out)
      go_roundw
      case rel => exact ⟨k + 1, _, _, by omega, by go_num, by rw [HSN.out]; exact hown2, HI4.out, hb4⟩
      case measure => simp [intOf]; omega
    · have hk2 : k = N := by omega
      have HO1 := Lib.hid (show wr.ownsRow w.heap.size 22 1 u7 N (Qrc As Cs (jlI xs ys N)) from by have := HO.out; rw [hk2] at this; rwa [List.take_of_length_le (by rw [jlI_len]; exact Nat.le_refl _)] at this)
      have HI1 := Lib.hid (show NWQ wr w.heap.size As Cs (jlI xs ys N) N from hk2 ▸ HI.out)
      obtain ⟨A9, c9, rfl⟩ := own_form HO1.out
      clear HO HI hk2
      go_wp2
      go_ret2
      exact ⟨A9, c9, by rw [jlI_len] <;> rfl, by rw [jlI_len]; exact HI1.out.ok (jlI_len _ _ _) HO1.out, HBW.out⟩

end Go.Proofs.Yticdilgnjnnaiaa

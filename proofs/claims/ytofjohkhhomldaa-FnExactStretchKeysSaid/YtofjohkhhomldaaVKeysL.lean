/-
  PROVED HERE: contracts of the validity of key poses, in the program and in the reference. CONDITIONS: as each theorem names them.
-/
import Derived.Test.YtofjohkhhomldaaKeys3
namespace Go.Proofs.Ytofjohkhhomldaa
open Go.RowKit

/-- Does a key pose stand well at its place? -/
def vkAt (ks : List Key) (k : Nat) : Bool := inB (kd ks k).1 0 10000 && vp (kd ks k).2 && ((kd ks k).2.length == (kd ks 0).2.length) && (k == 0 || decide ((kd ks (k - 1)).1 < (kd ks k).1))
def VkTo (ks : List Key) (k : Nat) : Prop := ∀ j, j < k → vkAt ks j = true
theorem vk_zero (ks : List Key) : VkTo ks 0 := fun _ h => absurd h (by omega)
theorem vk_succ {ks : List Key} {k : Nat} (h : VkTo ks k) (hk : vkAt ks k = true) : VkTo ks (k + 1) := fun j hj => by
  by_cases e : j = k
  · subst e; exact hk
  · exact h j (by omega)
/-- Are they key poses? -/
def vk (ks : List Key) : Bool := inB ks.length 1 10 && (List.range ks.length).all (vkAt ks)
theorem vk_f {ks : List Key} {k : Nat} (hk : k < ks.length) (h : vkAt ks k = false) : vk ks = false := by
  unfold vk
  have : (List.range ks.length).all (vkAt ks) = false := by
    rw [List.all_eq_false]
    exact ⟨k, List.mem_range.2 hk, by rw [h]; simp⟩
  rw [this, Bool.and_false]
theorem vk_end {ks : List Key} {n : Nat} (hn : ks.length = n) (h : VkTo ks n) : vk ks = inB n 1 10 := by
  unfold vk
  have : (List.range ks.length).all (vkAt ks) = true := by
    rw [List.all_eq_true]
    intro j hj
    exact h j (by rw [← hn]; exact List.mem_range.1 hj)
  rw [this, Bool.and_true, hn]
structure Vk (ks : List Key) : Prop where
  lo : 1 ≤ ks.length
  hi : ks.length ≤ 10
  tick : ∀ j, j < ks.length → 0 ≤ (kd ks j).1 ∧ (kd ks j).1 ≤ 10000
  pose : ∀ j, j < ks.length → vp (kd ks j).2 = true
  same : ∀ j, j < ks.length → (kd ks j).2.length = (kd ks 0).2.length
  rise : ∀ j, j + 1 < ks.length → (kd ks j).1 < (kd ks (j + 1)).1
theorem vk_t {ks : List Key} (h : vk ks = true) : Vk ks := by
  simp only [vk, Bool.and_eq_true, List.all_eq_true, List.mem_range] at h
  obtain ⟨h1, h2⟩ := inB_t h.1
  have h3 := h.2
  have h4 : ∀ j, j < ks.length → ((inB (kd ks j).1 0 10000 = true ∧ vp (kd ks j).2 = true) ∧ ((kd ks j).2.length == (kd ks 0).2.length) = true) ∧ (j == 0 || decide ((kd ks (j - 1)).1 < (kd ks j).1)) = true := fun j hj => by
    have := h3 j hj
    simpa only [vkAt, Bool.and_eq_true] using this
  refine ⟨by omega, by omega, fun j hj => inB_t (h4 j hj).1.1.1, fun j hj => (h4 j hj).1.1.2, fun j hj => by simpa using (h4 j hj).1.2, fun j hj => ?_⟩
  have := (h4 (j + 1) hj).2
  simpa using this
set_option maxHeartbeats 8000000 in
theorem l04Keys_any {hi : Nat} (A : Option Addr) (n c : Nat) (ks : List Key) (w : World) (hn : kbulk ks ≤ 1048576) (hA : KR w hi A n ks) :
    Calls Try.prog 61 #[.slice A n c] w fun e w' => e = .returned (.bool (vk ks)) ∧ Below w.heap.size w w' := by
  have HL := Lib.hid hA.1
  have HN := Lib.hid hn
  have hn2 : n ≤ 1048576 := by have := kbulk_len ks; have := hA.1; omega
  have HA := Lib.hid hA
  clear hA hn
  go_enter Try.func61, Try.ntmps61
  go_wp2
  go_loopw [3, 4] (fun i _ wr => ∃ k : Nat, k ≤ n ∧ i = .int .i64 k ∧ VkTo ks k ∧ Below w.heap.size w wr) (fun i _ _ => n - (intOf i).toNat)
  case atStart => exact ⟨0, Nat.zero_le _, rfl, vk_zero _, Below.refl _ _⟩
  case round =>
    obtain ⟨k, hk, rfl, hv, hb⟩ := hrel
    have HV := Lib.hid hv
    have HB := Lib.hid hb
    clear hv hb
    by_cases hlt : k < n
    · have hkl : k < ks.length := by rw [HL.out]; exact hlt
      obtain ⟨b, o, Aj, cj, hAA, _, hbl, g1, g2, hp⟩ := (HA.out.below HB.out).at_ hlt
      obtain ⟨b0, o0, A0, c0, hA0, _, _, _, g3, _⟩ := (HA.out.below HB.out).at_ (k := 0) (by omega)
      obtain ⟨rfl, rfl⟩ : b0 = b ∧ o0 = o := by rw [hAA] at hA0; injection hA0 with e; injection e with e1 e2; exact ⟨e1.symm, e2.symm⟩
      rw [Nat.zero_mul, Nat.add_zero] at g3
      have hk1 : (kd ks k).2.length ≤ 1048576 := Nat.le_trans (klen_le ks k hkl) HN.out
      have hk0 : (kd ks 0).2.length ≤ 1048576 := Nat.le_trans (klen_le ks 0 (by omega)) HN.out
      have hvf := vk_f (ks := ks) (k := k) hkl
      have hvt := vk_succ (ks := ks) (k := k) HV.out
      have hva : vkAt ks k = (inB (kd ks k).1 0 10000 && vp (kd ks k).2 && ((kd ks k).2.length == (kd ks 0).2.length) && (k == 0 || decide ((kd ks (k - 1)).1 < (kd ks k).1))) := rfl
      rw [hva] at hvf hvt
      obtain ⟨l0, hl0⟩ : ∃ l : Nat, l = (kd ks 0).2.length := ⟨_, rfl⟩
      rw [← hl0] at g3 hvf hvt hk0
      have HPV := Lib.hid (show kd ks (k - 1) = kd ks (k - 1) from rfl)
      have hprev : ∀ m : Nat, k = m + 1 → ∃ tp, tp = (kd ks (k - 1)).1 ∧ wr.cell? ⟨b0, o0 + m * 2, none⟩ = some (.int .i64 tp) := fun m hm => by
        obtain ⟨bm, om, Am, cm, hAm, _, _, gm, _, _⟩ := (HA.out.below HB.out).at_ (k := m) (by omega)
        obtain ⟨rfl, rfl⟩ : bm = b0 ∧ om = o0 := by rw [hAA] at hAm; injection hAm with e; injection e with e1 e2; exact ⟨e1.symm, e2.symm⟩
        exact ⟨_, rfl, by rw [gm, hm]; rfl⟩
      obtain ⟨tp, htp⟩ : ∃ x, x = (kd ks (k - 1)).1 := ⟨_, rfl⟩
      rw [← htp] at hprev hvf hvt
      obtain ⟨⟨t, js⟩, hx⟩ : ∃ p, p = kd ks k := ⟨_, rfl⟩
      rw [← hx] at g1 g2 hp hk1 hvf hvt
      dsimp only at g1 g2 hp hk1 hvf hvt
      subst hAA
      have HP := Lib.hid hp
      have HVF := Lib.hid hvf
      have HVT := Lib.hid hvt
      have HPR := Lib.hid hprev
      clear hl0 hva hvf hvt htp hx hp hprev hA0 HPV
      have s3 : (0 : Int) < (n : Int) := by omega
      have s4 : 0 < n := by omega
      have s5 : (k : Int) < (n : Int) := by omega
      have s6 : (0 : Int) ≤ (k : Int) := by omega
      cases h1 : inB t 0 10000
      case false =>
        have HF := Lib.hid (HVF.out (by rw [h1]; simp))
        cases h2 : vp js
        all_goals
          have c1 := fun (W : World) (hP : PI W Aj js.length js) => l04Ok_any Aj js.length cj js W (by omega) hP
          rw [h2] at c1
          have C1 := Lib.hid c1
          clear c1
          go_wp2
          go_quiet ((first | (go_at_call 57; first | (with_reducible exact quiet_left (l00In_v h1 _)) | (with_reducible exact quiet_add_left (l00In_v h1 _))) | (go_at_call 52; first | (with_reducible exact quiet_left (C1.out _ (HP.out.pi.drewN _))) | (with_reducible exact quiet_add_left (C1.out _ (HP.out.pi.drewN _))))))
          go_wp2
          go_ret
          exact ⟨ret_bool HF.out.symm, bl_drewN HB.out _⟩

      cases h2 : vp js
      case false =>
        have HF := Lib.hid (HVF.out (by rw [h1, h2]; simp))
        have c1 := fun (W : World) (hP : PI W Aj js.length js) => l04Ok_any Aj js.length cj js W (by omega) hP
        rw [h2] at c1
        have C1 := Lib.hid c1
        clear c1
        go_wp2
        go_quiet ((first | (go_at_call 57; first | (with_reducible exact quiet_left (l00In_v h1 _)) | (with_reducible exact quiet_add_left (l00In_v h1 _))) | (go_at_call 52; first | (with_reducible exact quiet_left (C1.out _ (HP.out.pi.drewN _))) | (with_reducible exact quiet_add_left (C1.out _ (HP.out.pi.drewN _))))))
        go_wp2
        go_ret
        exact ⟨ret_bool HF.out.symm, bl_drewN HB.out _⟩

      have c1 := fun (W : World) (hP : PI W Aj js.length js) => l04Ok_any Aj js.length cj js W (by omega) hP
      rw [h2] at c1
      have C1 := Lib.hid c1
      clear c1
      by_cases hq : js.length = l0
      rotate_left
      · have q0 : (js.length == l0) = false := by simpa using hq
        have HF := Lib.hid (HVF.out (by rw [h1, h2, q0]; simp))
        have q1 : ((js.length : Int) == (l0 : Int)) = false := by simp; omega
        have q2 : ((js.length : Int) != (l0 : Int)) = true := by simp; omega
        clear q0 hq
        go_wp2
        go_quiet ((first | (go_at_call 57; first | (with_reducible exact quiet_left (l00In_v h1 _)) | (with_reducible exact quiet_add_left (l00In_v h1 _))) | (go_at_call 52; first | (with_reducible exact quiet_left (C1.out _ (HP.out.pi.drewN _))) | (with_reducible exact quiet_add_left (C1.out _ (HP.out.pi.drewN _))))))
        go_wp2
        go_ret
        exact ⟨ret_bool HF.out.symm, bl_drewN HB.out _⟩

      have q0 : (js.length == l0) = true := by simpa using hq
      have q1 : ((js.length : Int) == (l0 : Int)) = true := by simp; omega
      have q2 : ((js.length : Int) != (l0 : Int)) = false := by simp; omega
      have Q0 := Lib.hid q0
      clear hq q0
      by_cases hz : k = 0
      · have HF := Lib.hid (HVT.out (by rw [h1, h2, Q0.out, hz]; rfl))
        have hd : decide ((0 : Int) < (k : Int)) = false := by simp; omega
        have hdn : decide (0 < k) = false := by simp; omega
        clear hz
        go_wp2
        go_quiet ((first | (go_at_call 57; first | (with_reducible exact quiet_left (l00In_v h1 _)) | (with_reducible exact quiet_add_left (l00In_v h1 _))) | (go_at_call 52; first | (with_reducible exact quiet_left (C1.out _ (HP.out.pi.drewN _))) | (with_reducible exact quiet_add_left (C1.out _ (HP.out.pi.drewN _))))))
        go_wp2
        go_roundw
        case rel => exact ⟨k + 1, by omega, by go_num, HF.out, bl_drewN HB.out _⟩
        case measure => simp [intOf]; omega

      obtain ⟨m, hm⟩ : ∃ m : Nat, k = m + 1 := ⟨k - 1, by omega⟩
      obtain ⟨tp2, htp2, gm⟩ := HPR.out m hm
      have hmi : (k : Int) - 1 = (m : Int) := by omega
      have hk0' : (k == 0) = false := by simpa using hz
      have HK0 := Lib.hid hk0'
      have hd : decide ((0 : Int) < (k : Int)) = true := by simp; omega
      have hdn : decide (0 < k) = true := by simp; omega
      have hdp : 0 < k := by omega
      have hms : IntKind.i64.wrap (m : Int) = (m : Int) := w64' (by omega) (by omega)
      have hmn : m < n := by omega
      have hmn' : (m : Int) < (n : Int) := by omega
      rw [htp2] at gm
      clear hz hm htp2 hk0'
      by_cases hr : tp < t
      · have HF := Lib.hid (HVT.out (by rw [h1, h2, Q0.out, HK0.out]; simpa using hr))
        have hd2 : decide (t ≤ tp) = false := by simp; omega
        clear hr
        go_wp2
        go_quiet ((first | (go_at_call 57; first | (with_reducible exact quiet_left (l00In_v h1 _)) | (with_reducible exact quiet_add_left (l00In_v h1 _))) | (go_at_call 52; first | (with_reducible exact quiet_left (C1.out _ (HP.out.pi.drewN _))) | (with_reducible exact quiet_add_left (C1.out _ (HP.out.pi.drewN _))))))
        go_wp2
        go_roundw
        case rel => exact ⟨k + 1, by omega, by go_num, HF.out, bl_drewN HB.out _⟩
        case measure => simp [intOf]; omega

      · have HF := Lib.hid (HVF.out (by rw [h1, h2, Q0.out, HK0.out]; simpa using hr))
        have hd2 : decide (t ≤ tp) = true := by simp; omega
        clear hr
        go_wp2
        go_quiet ((first | (go_at_call 57; first | (with_reducible exact quiet_left (l00In_v h1 _)) | (with_reducible exact quiet_add_left (l00In_v h1 _))) | (go_at_call 52; first | (with_reducible exact quiet_left (C1.out _ (HP.out.pi.drewN _))) | (with_reducible exact quiet_add_left (C1.out _ (HP.out.pi.drewN _))))))
        go_wp2
        go_ret
        exact ⟨ret_bool HF.out.symm, bl_drewN HB.out _⟩


    · have e : k = n := by omega
      have HF := Lib.hid (vk_end HL.out (e ▸ HV.out))
      clear e
      go_wp2_with (first | (go_at_call 55; refine (within_any _ _ _ _).mono ?_; rintro e w' ⟨rfl, rfl⟩) | (go_at_call 57; refine (l00In_any _ _ _ _).mono ?_; rintro e w' ⟨rfl, rfl⟩) | go_in)
      go_ret
      exact ⟨ret_bool (by rw [HF.out]), HB.out⟩
end Go.Proofs.Ytofjohkhhomldaa

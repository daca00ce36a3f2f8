/-
  PROVED HERE: contracts of equality, of marks and of looking them up again over slices of key poses. CONDITIONS: as each theorem names them.
-/
import Derived.Test.YtofjohkhhomldaaKeys2
namespace Go.Proofs.Ytofjohkhhomldaa
open Go.RowKit

set_option maxHeartbeats 1000000 in
theorem eqKeyPose_same (A B : Option Addr) (n ca cb : Nat) (t : Int) (ps : List Pnt) (w : World) (hn : n ≤ 1152921504606846976) (hA : PI w A n ps) (hB : PI w B n ps) :
    Calls Try.prog 63 #[.agg #[.int .i64 t, .slice A n ca], .agg #[.int .i64 t, .slice B n cb]] w fun e w' => e = .returned (.bool true) ∧ Below w.heap.size w w' := by
  have HA := Lib.hid hA
  have HB := Lib.hid hB
  clear hA hB
  go_enter Try.func63, Try.ntmps63
  go_wp2_with fail
  refine (eqPointS_same _ _ _ _ _ ps _ hn ((HA.out.alloc _).alloc _) ((HB.out.alloc _).alloc _)).mono ?_
  rintro e w1 ⟨rfl, hb1⟩
  go_wp2
  go_ret
  exact ⟨rfl, bl_tr (bl_al (bl_al (Below.refl _ _) _) _) hb1⟩
set_option maxHeartbeats 2000000 in
theorem eqKeyPoseS_same {hi hi' : Nat} (A B : Option Addr) (n ca cb : Nat) (ks : List Key) (w : World) (hn : kbulk ks ≤ 1152921504606846976) (hA : KR w hi A n ks) (hB : KR w hi' B n ks) :
    Calls Try.prog 32 #[.slice A n ca, .slice B n cb] w fun e w' => e = .returned (.bool true) ∧ Below w.heap.size w w' := by
  have HL := Lib.hid hA.1
  have HN := Lib.hid hn
  have hn2 : n ≤ 1152921504606846976 := by have := kbulk_len ks; have := hA.1; omega
  have HA := Lib.hid hA
  have HB := Lib.hid hB
  clear hA hB hn
  go_enter Try.func32, Try.ntmps32
  go_wp2
  go_loopw [5] (fun i wr => ∃ k : Nat, k ≤ n ∧ i = .int .i64 k ∧ Below w.heap.size w wr) (fun i _ => n - (intOf i).toNat)
  case atStart => exact ⟨0, Nat.zero_le _, rfl, Below.refl _ _⟩
  case round =>
    obtain ⟨k, hk, rfl, hb⟩ := hrel
    have HBW := Lib.hid hb
    clear hb
    by_cases hlt : k < n
    · obtain ⟨b1, o1, A1, c1, hAA, _, hbl1, g1, g2, hp1⟩ := (HA.out.below HBW.out).at_ hlt
      obtain ⟨b2, o2, A2, c2, hBB, _, hbl2, g3, g4, hp2⟩ := (HB.out.below HBW.out).at_ hlt
      subst hAA
      subst hBB
      have hkl : (kd ks k).2.length ≤ 1152921504606846976 := Nat.le_trans (klen_le ks k (by rw [HL.out]; exact hlt)) HN.out
      obtain ⟨⟨t, ps⟩, hx⟩ : ∃ p, p = kd ks k := ⟨_, rfl⟩
      rw [← hx] at g1 g2 g3 g4 hp1 hp2 hkl
      dsimp only at g1 g2 g3 g4 hp1 hp2 hkl
      have HP1 := Lib.hid hp1
      have HP2 := Lib.hid hp2
      clear hx hp1 hp2
      go_wp2
      go_region_held3 (fun w' => (w'.cell? ⟨b1, o1 + k * 2, none⟩ = some (.int .i64 t) ∧ w'.cell? ⟨b1, o1 + k * 2 + 1, none⟩ = some (.slice A1 ps.length c1)) ∧ w'.cell? ⟨b2, o2 + k * 2, none⟩ = some (.int .i64 t) ∧ w'.cell? ⟨b2, o2 + k * 2 + 1, none⟩ = some (.slice A2 ps.length c2)) (((try dsimp only); (refine ⟨⟨?_, ?_⟩, ?_, ?_⟩ <;> (first | ((with_reducible (repeat (first | assumption | refine keepD ?_ | refine keepN ?_ _ | refine keepA ?_))); done) | (refine bcell_of hb1 ?_; with_reducible (repeat (first | assumption | refine keepD ?_ | refine keepN ?_ _ | refine keepA ?_)); done)))))
        (first | (go_at_call 63; refine (eqKeyPose_same _ _ _ _ _ _ ps _ hkl (HP1.out.pi.drewN _) (HP2.out.pi.drewN _)).mono ?_; rintro e w1 ⟨rfl, hb1⟩))
      have hb3 := Lib.hid (show Below w.heap.size w w1 from bl_tr (bl_drewN HBW.out _) hb1)
      clear hb1
      go_wp2
      go_roundw
      case rel => exact ⟨k + 1, by omega, by go_num, hb3.out⟩
      case measure => simp [intOf]; omega
    · go_wp2
      go_ret
      exact ⟨rfl, HBW.out⟩
/-- The first k key poses marked. -/
def midK (k0 : Int) (ks : List Key) (k : Nat) : List Key := (List.range ks.length).map fun j => if j < k then (k0 + (kcnt (ks.take j) : Nat), mkP (k0 + (kcnt (ks.take j) : Nat) + 1) (kd ks j).2.length) else kd ks j
/-- All key poses marked. -/
def mkK (k0 : Int) (ks : List Key) : List Key := midK k0 ks ks.length
theorem midK_len (k0 : Int) (ks : List Key) (k : Nat) : (midK k0 ks k).length = ks.length := by simp [midK]
theorem midK_kd (k0 : Int) (ks : List Key) (k j : Nat) (h : j < ks.length) : kd (midK k0 ks k) j = if j < k then (k0 + (kcnt (ks.take j) : Nat), mkP (k0 + (kcnt (ks.take j) : Nat) + 1) (kd ks j).2.length) else kd ks j := by
  simp [kd, midK, List.getD, h]
theorem midK_ge (k0 : Int) (ks : List Key) {k j : Nat} (h : j < ks.length) (hj : ¬ j < k) : kd (midK k0 ks k) j = kd ks j := by rw [midK_kd _ _ _ _ h, if_neg hj]
theorem midK_same (k0 : Int) (ks : List Key) {k j : Nat} (h : j < ks.length) (hj : j ≠ k) : kd (midK k0 ks (k + 1)) j = kd (midK k0 ks k) j := by
  rw [midK_kd _ _ _ _ h, midK_kd _ _ _ _ h]
  by_cases h1 : j < k
  · rw [if_pos h1, if_pos (by omega)]
  · rw [if_neg h1, if_neg (by omega)]
theorem midK_at (k0 : Int) (ks : List Key) {k : Nat} (h : k < ks.length) : kd (midK k0 ks (k + 1)) k = (k0 + (kcnt (ks.take k) : Nat), mkP (k0 + (kcnt (ks.take k) : Nat) + 1) (kd ks k).2.length) := by rw [midK_kd _ _ _ _ h, if_pos (by omega)]
theorem midK_jl (k0 : Int) (ks : List Key) {k j : Nat} (h : j < ks.length) : (kd (midK k0 ks k) j).2.length = (kd ks j).2.length := by
  rw [midK_kd _ _ _ _ h]
  split
  · rw [mkP_len]
  · rfl
theorem midK_zero (k0 : Int) (ks : List Key) : midK k0 ks 0 = ks := by
  apply List.ext_getElem
  · rw [midK_len]
  · intro j h1 h2
    simp [midK, kd, List.getD, h2]
theorem kfl_mid (As : Nat → Option Addr) (Cs : Nat → Nat) (k0 : Int) (ks : List Key) {k : Nat} (h : k < ks.length) : (kfl As Cs (midK k0 ks k)).set (k * 2) (.int .i64 (k0 + (kcnt (ks.take k) : Nat))) = kfl As Cs (midK k0 ks (k + 1)) := by
  apply List.ext_getElem?
  intro j
  by_cases hj : j < ks.length * 2
  · have hjq : j / 2 < ks.length := by omega
    rw [List.getElem?_set]
    have g1 := kfl_get As Cs (midK k0 ks k) (j := j / 2) (by rw [midK_len]; exact hjq)
    have g2 := kfl_get As Cs (midK k0 ks (k + 1)) (j := j / 2) (by rw [midK_len]; exact hjq)
    rw [midK_jl _ _ hjq] at g1 g2
    by_cases e : k * 2 = j
    · subst e
      rw [if_pos rfl, if_pos (by rw [kfl_len, midK_len]; omega)]
      rw [show k * 2 / 2 = k by omega, midK_at k0 ks h] at g2
      exact g2.1.symm
    · rw [if_neg e]
      rcases Nat.mod_two_eq_zero_or_one j with hm | hm
      · have hj2 : j = j / 2 * 2 := by omega
        rw [hj2, g1.1, g2.1, midK_same k0 ks hjq (by omega)]
      · have hj2 : j = j / 2 * 2 + 1 := by omega
        rw [hj2, g1.2, g2.2]
  · rw [List.getElem?_eq_none (by rw [List.length_set, kfl_len, midK_len]; omega), List.getElem?_eq_none (by rw [kfl_len, midK_len]; omega)]
/-- Rows of key poses and of points never share a block. -/
theorem apart_types {w : World} {B B' n m s s' : Nat} {u v : Value} {xs ys : List Value} (h : w.ownsRow B 74 s u n xs) (h' : w.ownsRow B' 61 s' v m ys) : ∀ g, u.ownBlock = some g → v.ownBlock ≠ some g := by
  intro g h1 h2
  rcases h.2 with ⟨e1, _⟩ | ⟨g1, _, _, e1, _, hh1, _⟩
  · rw [e1] at h1; cases h1
  · rcases h'.2 with ⟨e2, _⟩ | ⟨g2, _, _, e2, _, hh2, _⟩
    · rw [e2] at h2; cases h2
    · rw [e1] at h1
      rw [e2] at h2
      have b1 : g1 = g := by injection h1
      have b2 : g2 = g := by injection h2
      subst b1
      subst b2
      rw [hh1] at hh2
      injection hh2 with hh2
      injection hh2 with _ ht
      exact absurd ht (by decide)
set_option maxHeartbeats 4000000 in
theorem markKeyPoseS_any (lo hi : Nat) (A : Option Addr) (n c : Nat) (k0 : Int) (ks : List Key) (w : World) (hn : kbulk ks ≤ 10000000) (hk0 : 0 ≤ k0) (hk1 : k0 ≤ 1000000000) (hown : OK w lo hi A n c ks) :
    Calls Try.prog 35 #[.slice A n c, .int .i64 k0] w fun e w' => e = .returned (.int .i64 (k0 + (kcnt ks : Nat))) ∧ OK w' lo hi A n c (mkK k0 ks) ∧ Touch lo hi w w' := by
  obtain ⟨As, Cs, hok⟩ := hown
  have HL := Lib.hid hok.len
  have HN := Lib.hid hn
  have hn2 : n ≤ 1152921504606846976 := by have := kbulk_len ks; have := hok.len; omega
  have HO := Lib.hid (show OKf w lo hi A n c As Cs (midK k0 ks 0) from by rw [midK_zero]; exact hok)
  clear hok hn
  go_enter Try.func35, Try.ntmps35
  go_wp2
  go_loopw [1, 5] (fun q i wr => ∃ k : Nat, k ≤ n ∧ i = .int .i64 k ∧ q = .int .i64 (k0 + (kcnt (ks.take k) : Nat)) ∧ OKf wr lo hi A n c As Cs (midK k0 ks k) ∧ Touch lo hi w wr) (fun _ i _ => n - (intOf i).toNat)
  case atStart => exact ⟨0, Nat.zero_le _, rfl, by simp [kcnt], HO.out, Touch.refl _ _ _⟩
  case round =>
    obtain ⟨k, hk, rfl, rfl, ho, ht⟩ := hrel
    have HO2 := Lib.hid ho
    have HT := Lib.hid ht
    clear ho ht
    by_cases hlt : k < n
    · have hkl : k < ks.length := by rw [HL.out]; exact hlt
      obtain ⟨g, cap, hv, _, _⟩ := HO2.out.row.form (by omega)
      obtain ⟨rfl, rfl⟩ : A = some ⟨g, 0, none⟩ ∧ c = cap := by injection hv; exact ⟨by assumption, by assumption⟩
      clear hv
      have hkf := kfl_get As Cs (midK k0 ks k) (j := k) (by rw [midK_len]; exact hkl)
      rw [midK_jl _ _ hkl] at hkf
      have hc2 : wr.cell? ⟨g, k * 2, none⟩ = some (.int .i64 (kd (midK k0 ks k) k).1) := by rw [HO2.out.row.cellAt (k * 2) (by omega)]; exact hkf.1
      have hc3 : wr.cell? ⟨g, k * 2 + 1, none⟩ = some (.slice (As k) (kd ks k).2.length (Cs k)) := by rw [HO2.out.row.cellAt (k * 2 + 1) (by omega)]; exact hkf.2
      have hf := HO2.out.row.frozenAt (k * 2)
      obtain ⟨u, hu⟩ : ∃ u, u = (kd (midK k0 ks k) k).1 := ⟨_, rfl⟩
      rw [← hu] at hc2
      have hct := kcnt_take ks k hkl
      have hcl : kcnt (ks.take k) ≤ kbulk ks * 2 := Nat.le_trans (kcnt_take_le ks k) (kcnt_le ks)
      have hcn := HN.out
      have hml : (kd ks k).2.length ≤ 1152921504606846976 := Nat.le_trans (klen_le ks k hkl) (by omega)
      have hin := HO2.out.inn k hlt
      rw [midK_ge k0 ks hkl (by omega)] at hin
      obtain ⟨K, hK⟩ : ∃ K : Nat, K = kcnt (ks.take k) := ⟨_, rfl⟩
      obtain ⟨m, hm⟩ : ∃ m : Nat, m = (kd ks k).2.length := ⟨_, rfl⟩
      have hst := HO2.out.row.stored (k * 2) (.int .i64 (k0 + (kcnt (ks.take k) : Nat)))
      rw [kfl_mid As Cs k0 ks hkl] at hst
      rw [← hK] at hct hcl hst ⊢
      rw [← hm] at hc3 hct hml hin
      have hin2 : (wr.setCell ⟨g, k * 2, none⟩ (.int .i64 (k0 + (K : Nat)))).ownsRow lo 61 2 (.slice (As k) m (Cs k)) m (flat (kd ks k).2) := ownsRow_setCell_other hin.1 (fun e => apart_types HO2.out.row hin.1 g rfl e) _
      have HST := Lib.hid hst
      have HIN := Lib.hid hin2
      have HIO := Lib.hid hin
      have HK := Lib.hid hK
      have HM := Lib.hid hm
      have HCT := Lib.hid hct
      have hKb : (K : Int) ≤ 20000000 := by omega
      clear hst hkf hu hin hin2 hK hm hct hcn hcl
      go_wp2_with fail
      refine (markPointS_any lo _ _ _ _ _ _ hml (by omega) (by omega) HIN.out).mono ?_
      rintro e w2 ⟨rfl, own2, hg2⟩
      have HG2 := Lib.hid hg2
      have HW2 := Lib.hid own2
      clear own2 hg2
      go_wp2
      go_roundw
      case rel =>
        have hblk : ∀ q, (Value.slice (As k) m (Cs k)).ownBlock = some q → lo ≤ q ∧ q < hi := fun q hq => ⟨(HIO.out.1.lt q hq).1, HIO.out.2 q hq⟩
        have hgl := (HO2.out.row.lt g rfl).1
        have hgh := HO2.out.top g rfl
        have t1 : Touch lo hi wr w2 := (Touch.of_grown HST.out.2 (fun q hq => by injection hq with hq; exact ⟨by omega, by omega⟩)).trans (Touch.of_grown HG2.out hblk)
        have hrow : w2.ownsRow lo 74 2 (.slice (some ⟨g, 0, none⟩) n c) n (kfl As Cs (midK k0 ks (k + 1))) := HST.out.1.kept HG2.out (.inr fun e => apart_types HST.out.1 HIN.out g rfl e.symm)
        refine ⟨k + 1, by omega, by go_num, by rw [HCT.out]; go_num, ⟨by rw [midK_len]; exact HL.out, hrow, HO2.out.top, fun j hj => ?_, HO2.out.far⟩, HT.out.trans t1⟩
        have hjl : j < ks.length := by rw [HL.out]; exact hj
        by_cases e : j = k
        · subst e
          rw [midK_at k0 ks hjl, ← HK.out, ← HM.out]
          dsimp only
          rw [mkP_len]
          exact ⟨HW2.out, HIO.out.2⟩
        · rw [midK_same k0 ks hjl e]
          have hj0 := HO2.out.inn j hj
          have s1 := ownsRow_setCell_other (a := ⟨g, k * 2, none⟩) hj0.1 (fun e => apart_types HO2.out.row hj0.1 g rfl e) (.int .i64 (k0 + (K : Nat)))
          refine ⟨s1.kept HG2.out ?_, hj0.2⟩
          rw [own_blk, own_blk]
          cases hb : (As j).map Addr.block with
          | none => exact .inl rfl
          | some q => exact .inr fun e2 => HO2.out.far j k hj hlt e q hb e2.symm
      case measure => simp [intOf]; omega
    · go_wp2
      go_ret
      have e : k = n := by omega
      have hl := HL.out
      subst e
      subst hl
      rw [List.take_length]
      exact ⟨rfl, ⟨As, Cs, HO2.out⟩, HT.out⟩
set_option maxHeartbeats 2000000 in
theorem heldKeyPoseS_same {hi : Nat} (ks : List Key) (A : Option Addr) (n c : Nat) (k0 : Int) (w : World) (hn : kbulk ks ≤ 10000000) (hk0 : 0 ≤ k0) (hk1 : k0 ≤ 1000000000) (hA : KR w hi A n (mkK k0 ks)) :
    Calls Try.prog 36 #[.slice A n c, .int .i64 k0] w fun e w' => e = .returned (.int .i64 (k0 + (kcnt ks : Nat))) ∧ ∃ k, w' = w.drewN k := by
  have hl : ks.length = n := by have := hA.1; rw [mkK, midK_len] at this; exact this
  have HL := Lib.hid hl
  have HN := Lib.hid hn
  have hn2 : n ≤ 1152921504606846976 := by have := kbulk_len ks; omega
  have HA := Lib.hid hA
  clear hA hn hl
  go_enter Try.func36, Try.ntmps36
  go_wp2
  go_loopw [1, 5] (fun q i wr => ∃ k m : Nat, k ≤ n ∧ i = .int .i64 k ∧ q = .int .i64 (k0 + (kcnt (ks.take k) : Nat)) ∧ wr = w.drewN m) (fun _ i _ => n - (intOf i).toNat)
  case atStart => exact ⟨0, 0, Nat.zero_le _, rfl, by simp [kcnt], rfl⟩
  case round =>
    obtain ⟨k, m, hk, rfl, rfl, rfl⟩ := hrel
    by_cases hlt : k < n
    · have hkl : k < ks.length := by rw [HL.out]; exact hlt
      obtain ⟨b1, o1, A1, c1, hAA, _, hbl1, g1, g2, hp1⟩ := HA.out.at_ hlt
      subst hAA
      rw [mkK, midK_kd _ _ _ _ hkl, if_pos hkl] at g1 g2 hp1
      dsimp only at g1 g2 hp1
      rw [mkP_len] at g2 hp1
      have hct := kcnt_take ks k hkl
      have hcl : kcnt (ks.take k) ≤ kbulk ks * 2 := Nat.le_trans (kcnt_take_le ks k) (kcnt_le ks)
      have hcn := HN.out
      have hml : (kd ks k).2.length ≤ 1152921504606846976 := Nat.le_trans (klen_le ks k hkl) (by omega)
      obtain ⟨K, hK⟩ : ∃ K : Nat, K = kcnt (ks.take k) := ⟨_, rfl⟩
      obtain ⟨q, hq⟩ : ∃ q : Nat, q = (kd ks k).2.length := ⟨_, rfl⟩
      rw [← hK] at hct hcl g1 hp1 ⊢
      rw [← hq] at hct hml g2 hp1
      have HCT := Lib.hid hct
      have HP := Lib.hid hp1
      have hKb : (K : Int) ≤ 20000000 := by omega
      have hnn : decide (k0 + (K : Int) + 1 + ((q * 2 : Nat) : Int) < 0) = false := by simp; omega
      clear hK hq hct hp1 hcn hcl
      go_wp2_with fail
      refine (heldPointS_same _ _ _ _ _ hml (by omega) (by omega) (HP.out.pi.drewN _)).mono ?_
      rintro e w' ⟨rfl, d1, rfl⟩
      go_wp2
      go_roundw
      case rel => exact ⟨k + 1, _, by omega, by go_num, by rw [HCT.out]; go_num, rfl⟩
      case measure => simp [intOf]; omega
    · go_wp2
      go_ret
      have e : k = n := by omega
      have hl := HL.out
      subst e
      subst hl
      rw [List.take_length]
      exact ⟨rfl, _, rfl⟩
end Go.Proofs.Ytofjohkhhomldaa

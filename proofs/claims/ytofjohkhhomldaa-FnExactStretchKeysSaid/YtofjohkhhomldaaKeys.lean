/-
  PROVED HERE: contracts of the laws' own helpers over slices of key poses: size, copy, equality, marks, looking the marks up again; what a slice of key poses reads as. CONDITIONS: as each theorem names them.
-/
import Derived.Test.YtofjohkhhomldaaTouch
import Derived.Test.YtofjohkhhomldaaPoseN
namespace Go.Proofs.Ytofjohkhhomldaa
open Go.RowKit

abbrev Key := Int × List Pnt
abbrev kd (ks : List Key) (j : Nat) : Key := ks.getD j (0, [])
/-- The slice with this address and length reads as the key poses ks; all its blocks lie below hi. -/
def KR (w : World) (hi : Nat) (A : Option Addr) (n : Nat) (ks : List Key) : Prop :=
  ks.length = n ∧ (0 < n → ∃ b off, A = some ⟨b, off, none⟩ ∧ b < hi ∧ ∀ j, j < n → w.cell? ⟨b, off + j * 2, none⟩ = some (.int .i64 (kd ks j).1) ∧
    ∃ Aj cj, w.cell? ⟨b, off + j * 2 + 1, none⟩ = some (.slice Aj (kd ks j).2.length cj) ∧ AP w hi Aj (kd ks j).2.length (kd ks j).2)
section
variable {w w' : World} {hi n : Nat} {A : Option Addr} {ks : List Key}
theorem KR.at_ (h : KR w hi A n ks) {k : Nat} (hk : k < n) : ∃ b off Aj cj, A = some ⟨b, off, none⟩ ∧ b < hi ∧ b < w.heap.size ∧ w.cell? ⟨b, off + k * 2, none⟩ = some (.int .i64 (kd ks k).1) ∧ w.cell? ⟨b, off + k * 2 + 1, none⟩ = some (.slice Aj (kd ks k).2.length cj) ∧ AP w hi Aj (kd ks k).2.length (kd ks k).2 := by
  obtain ⟨b, off, e, hb, hc⟩ := h.2 (by omega)
  obtain ⟨c1, Aj, cj, c2, hp⟩ := hc k hk
  exact ⟨b, off, Aj, cj, e, hb, World.block_lt_of_cell? w _ c1, c1, c2, hp⟩
theorem KR.below (h : KR w hi A n ks) (hb : Below w.heap.size w w') : KR w' hi A n ks :=
  ⟨h.1, fun hn => by
    obtain ⟨b, off, e, hl, hc⟩ := h.2 hn
    refine ⟨b, off, e, hl, fun j hj => ?_⟩
    obtain ⟨c1, Aj, cj, c2, hp⟩ := hc j hj
    exact ⟨bcell_of hb c1, Aj, cj, bcell_of hb c2, hp.below hb⟩⟩
theorem KR.drewN (h : KR w hi A n ks) (k : Nat) : KR (w.drewN k) hi A n ks := h
theorem KR.touch {B1 B2 : Nat} (h : KR w hi A n ks) (t : Touch B1 B2 w w') (ho : hi ≤ B1) : KR w' hi A n ks :=
  ⟨h.1, fun hn => by
    obtain ⟨b, off, e, hl, hc⟩ := h.2 hn
    refine ⟨b, off, e, hl, fun j hj => ?_⟩
    obtain ⟨c1, Aj, cj, c2, hp⟩ := hc j hj
    have hbl := World.block_lt_of_cell? w _ c1
    exact ⟨(World.cell?_of_block (a := ⟨b, off + j * 2, none⟩) (t.block b hbl (by omega))).trans c1, Aj, cj, (World.cell?_of_block (a := ⟨b, off + j * 2 + 1, none⟩) (t.block b hbl (by omega))).trans c2, hp.touch t ho⟩⟩
theorem KR.wide {hi' : Nat} (h : KR w hi A n ks) (hh : hi ≤ hi') : KR w hi' A n ks :=
  ⟨h.1, fun hn => by
    obtain ⟨b, off, e, hl, hc⟩ := h.2 hn
    refine ⟨b, off, e, by omega, fun j hj => ?_⟩
    obtain ⟨c1, Aj, cj, c2, hp⟩ := hc j hj
    exact ⟨c1, Aj, cj, c2, hp.1, fun h1 b1 o1 e1 => Nat.lt_of_lt_of_le (hp.2 h1 b1 o1 e1) hh⟩⟩
end
def KI (w : World) (A : Option Addr) (n : Nat) (ks : List Key) : Prop := KR w w.heap.size A n ks
def AK (w : World) (hi : Nat) (A : Option Addr) (n : Nat) (ks : List Key) : Prop := KR w hi A n ks
section
variable {w w' : World} {hi n : Nat} {A : Option Addr} {ks : List Key}
theorem AK.mk (h : KI w A n ks) : AK w w.heap.size A n ks := h
theorem AK.ki (h : AK w hi A n ks) : KR w hi A n ks := h
theorem AK.below (h : AK w hi A n ks) (hb : Below w.heap.size w w') : AK w' hi A n ks := KR.below h hb
theorem AK.touch {B1 B2 : Nat} (h : AK w hi A n ks) (t : Touch B1 B2 w w') (ho : hi ≤ B1) : AK w' hi A n ks := KR.touch h t ho
end
/-- No slice is longer than slices are. -/
def KBd (n : Nat) (ks : List Key) : Prop := n ≤ maxLen ∧ ∀ j, j < ks.length → (kd ks j).2.length ≤ maxLen
/-- How many key poses and joints there are. -/
def kbulk (ks : List Key) : Nat := ks.length + (ks.map fun k => k.2.length).sum
/-- How many marks they take. -/
def kcnt (ks : List Key) : Nat := (ks.map fun k => 1 + k.2.length * 2).sum
theorem kbulk_len (ks : List Key) : ks.length ≤ kbulk ks := by unfold kbulk; omega
theorem ksum_take (ks : List Key) (k : Nat) (h : k < ks.length) : ((ks.take (k + 1)).map fun k => k.2.length).sum = ((ks.take k).map fun k => k.2.length).sum + (kd ks k).2.length := by
  rw [List.take_succ_eq_append_getElem h, List.map_append, List.sum_append]
  simp [kd, List.getD, h]
theorem ksum_le (ks : List Key) (k : Nat) : ((ks.take k).map fun k => k.2.length).sum ≤ (ks.map fun k => k.2.length).sum := by
  conv => rhs; rw [← List.take_append_drop k ks]
  rw [List.map_append, List.sum_append]; omega
theorem kcnt_eq (ks : List Key) : kcnt ks = ks.length + (ks.map fun k => k.2.length).sum * 2 := by
  unfold kcnt
  induction ks with
  | nil => rfl
  | cons x xs ih => simp only [List.map_cons, List.sum_cons, List.length_cons, ih]; omega
theorem kcnt_le (ks : List Key) : kcnt ks ≤ kbulk ks * 2 := by rw [kcnt_eq]; unfold kbulk; omega
theorem kcnt_take (ks : List Key) (k : Nat) (h : k < ks.length) : kcnt (ks.take (k + 1)) = kcnt (ks.take k) + 1 + (kd ks k).2.length * 2 := by
  unfold kcnt
  rw [List.take_succ_eq_append_getElem h, List.map_append, List.sum_append]
  simp [kd, List.getD, h]; omega
theorem klen_le (ks : List Key) (k : Nat) (h : k < ks.length) : (kd ks k).2.length ≤ kbulk ks := by
  have h1 := ksum_take ks k h
  have h2 := ksum_le ks (k + 1)
  unfold kbulk; omega
theorem kcnt_take_le (ks : List Key) (k : Nat) : kcnt (ks.take k) ≤ kcnt ks := by
  rw [kcnt_eq, kcnt_eq, List.length_take]
  have := ksum_le ks k
  omega
theorem info_Key : (Try.prog.info? 74).map (fun i => (i.zero, i.size, i.bytes)) = some (some (.agg #[.int .i64 0, .slice none 0 0]), 2, 32) := by kernel_rfl
theorem szKeyPose_yes (A : Option Addr) (n c : Nat) (t left : Int) (w : World) (h : (n : Int) ≤ left) (h1 : left ≤ 1048576) :
    Calls Try.prog 60 #[.agg #[.int .i64 t, .slice A n c], .int .i64 left] w fun e w' => e = .returned (.int .i64 (left - n)) ∧ ∃ o : Array Value, w' = w.alloc (.cells o 72) := by
  have hd : decide (left - (n : Int) < 0) = false := by simp; omega
  go_enter Try.func60, Try.ntmps60
  go_wp2_with (go_at_call 13; refine (szP_yes _ _ _ _ _ h h1).mono ?_; rintro e w' ⟨rfl, rfl⟩)
  go_ret
  exact ⟨rfl, _, rfl⟩
theorem szKeyPose_no (A : Option Addr) (n c : Nat) (t left : Int) (w : World) (hn : n ≤ maxLen) (h0 : 0 ≤ left) (h1 : left ≤ 1048576) (h : left < n) :
    Calls Try.prog 60 #[.agg #[.int .i64 t, .slice A n c], .int .i64 left] w fun e w' => e = .returned (.int .i64 (-1)) ∧ ∃ o : Array Value, w' = w.alloc (.cells o 72) := by
  go_enter Try.func60, Try.ntmps60
  go_wp2_with (go_at_call 13; refine (szP_no _ _ _ _ _ hn h0 h1 h).mono ?_; rintro e w' ⟨rfl, rfl⟩)
  go_ret
  exact ⟨rfl, _, rfl⟩
set_option maxHeartbeats 1000000 in
theorem szK_no {hi : Nat} (A : Option Addr) (n c : Nat) (ks : List Key) (w : World) (h : 1048576 < kbulk ks) (hA : KR w hi A n ks) (hB : KBd n ks) :
    Calls Try.prog 28 #[.slice A n c, .int .i64 1048576] w fun e w' => e = .returned (.int .i64 (-1)) ∧ Below w.heap.size w w' := by
  have hl := hA.1
  have hn := hB.1
  unfold maxLen at hn
  by_cases hbig : 1048576 < n
  · have hd : decide ((1048576 : Int) - (n : Int) < 0) = true := by simp; omega
    clear hA hl hB
    go_enter Try.func28, Try.ntmps28
    go_wp2
    go_ret
    exact ⟨rfl, Below.refl _ _⟩
  have hd : decide ((1048576 : Int) - (n : Int) < 0) = false := by simp; omega
  have HA := Lib.hid hA
  have HL := Lib.hid hl
  have HB := Lib.hid hB.2
  have HK := Lib.hid (show 1048576 < ks.length + (ks.map fun k => k.2.length).sum from h)
  clear hA hl hB h
  go_enter Try.func28, Try.ntmps28
  go_wp2
  go_loopw [1, 5] (fun q i wr => ∃ k s : Nat, k ≤ n ∧ i = .int .i64 k ∧ s = ((ks.take k).map fun k => k.2.length).sum ∧ n + s ≤ 1048576 ∧ q = .int .i64 (1048576 - (n : Int) - (s : Int)) ∧ Below w.heap.size w wr) (fun _ i _ => n - (intOf i).toNat)
  case atStart => exact ⟨0, 0, Nat.zero_le _, rfl, by simp, by omega, by simp, Below.refl _ _⟩
  case round =>
    obtain ⟨k, s, hk, rfl, hs, hs2, rfl, hb⟩ := hrel
    have HS := Lib.hid hs
    have HBW := Lib.hid hb
    clear hs hb
    by_cases hlt : k < n
    · obtain ⟨b, o, Aj, cj, hAA, _, hbl, g1, g2, hp⟩ := (HA.out.below HBW.out).at_ hlt
      subst hAA
      have hst := ksum_take ks k (by rw [HL.out]; exact hlt)
      have hbd := HB.out k (by rw [HL.out]; exact hlt)
      rw [← HS.out] at hst
      obtain ⟨m, hm⟩ : ∃ m, m = (kd ks k).2.length := ⟨_, rfl⟩
      obtain ⟨t, ht⟩ : ∃ t, t = (kd ks k).1 := ⟨_, rfl⟩
      rw [← hm] at g2 hst hbd
      rw [← ht] at g1
      have HST := Lib.hid hst
      clear hst hm ht hp
      by_cases hr : n + s + m ≤ 1048576
      · have hd2 : decide ((1048576 : Int) - (n : Int) - (s : Int) - (m : Int) < 0) = false := by simp; omega
        have c1 := fun W => szKeyPose_yes Aj m cj t (1048576 - (n : Int) - (s : Int)) W (by omega) (by omega)
        have C1 := Lib.hid c1
        clear c1
        go_wp2_with (go_at_call 60; refine (C1.out _).mono ?_; rintro e w' ⟨rfl, o1, rfl⟩)
        go_roundw
        case rel => exact ⟨k + 1, s + m, by omega, by go_num, HST.out.symm, by omega, by go_num, bl_al HBW.out _⟩
        case measure => simp [intOf]; omega
      · have c1 := fun W => szKeyPose_no Aj m cj t (1048576 - (n : Int) - (s : Int)) W hbd (by omega) (by omega) (by omega)
        have C1 := Lib.hid c1
        clear c1
        go_wp2_with (go_at_call 60; refine (C1.out _).mono ?_; rintro e w' ⟨rfl, o1, rfl⟩)
        go_ret
        exact ⟨rfl, bl_al HBW.out _⟩
    · exfalso
      have e : k = n := by omega
      have h1 := HK.out
      have h2 := HS.out
      rw [e, ← HL.out, List.take_length] at h2
      rw [HL.out] at h1
      omega
set_option maxHeartbeats 1000000 in
theorem szK_yes {hi : Nat} (A : Option Addr) (n c : Nat) (ks : List Key) (w : World) (h : kbulk ks ≤ 1048576) (hA : KR w hi A n ks) :
    Calls Try.prog 28 #[.slice A n c, .int .i64 1048576] w fun e w' => e = .returned (.int .i64 (1048576 - (kbulk ks : Nat))) ∧ Below w.heap.size w w' := by
  have hl := hA.1
  have hn : n ≤ 1048576 := by have := kbulk_len ks; omega
  have hd : decide ((1048576 : Int) - (n : Int) < 0) = false := by simp; omega
  have HA := Lib.hid hA
  have HL := Lib.hid hl
  have HK := Lib.hid (show ks.length + (ks.map fun k => k.2.length).sum ≤ 1048576 from h)
  clear hA hl h
  go_enter Try.func28, Try.ntmps28
  go_wp2
  go_loopw [1, 5] (fun q i wr => ∃ k s : Nat, k ≤ n ∧ i = .int .i64 k ∧ s = ((ks.take k).map fun k => k.2.length).sum ∧ q = .int .i64 (1048576 - (n : Int) - (s : Int)) ∧ Below w.heap.size w wr) (fun _ i _ => n - (intOf i).toNat)
  case atStart => exact ⟨0, 0, Nat.zero_le _, rfl, by simp, by simp, Below.refl _ _⟩
  case round =>
    obtain ⟨k, s, hk, rfl, hs, rfl, hb⟩ := hrel
    have HS := Lib.hid hs
    have HBW := Lib.hid hb
    clear hs hb
    by_cases hlt : k < n
    · obtain ⟨b, o, Aj, cj, hAA, _, hbl, g1, g2, hp⟩ := (HA.out.below HBW.out).at_ hlt
      subst hAA
      have hst := ksum_take ks k (by rw [HL.out]; exact hlt)
      have hsl := ksum_le ks (k + 1)
      have hkk := HK.out
      rw [hst, ← HS.out] at hsl
      rw [HL.out] at hkk
      rw [← HS.out] at hst
      obtain ⟨m, hm⟩ : ∃ m, m = (kd ks k).2.length := ⟨_, rfl⟩
      obtain ⟨t, ht⟩ : ∃ t, t = (kd ks k).1 := ⟨_, rfl⟩
      rw [← hm] at g2 hst hsl
      rw [← ht] at g1
      have HST := Lib.hid hst
      clear hst hm ht hp
      have hr : n + s + m ≤ 1048576 := by omega
      clear hsl hkk
      have hd2 : decide ((1048576 : Int) - (n : Int) - (s : Int) - (m : Int) < 0) = false := by simp; omega
      have c1 := fun W => szKeyPose_yes Aj m cj t (1048576 - (n : Int) - (s : Int)) W (by omega) (by omega)
      have C1 := Lib.hid c1
      clear c1
      go_wp2_with (go_at_call 60; refine (C1.out _).mono ?_; rintro e w' ⟨rfl, o1, rfl⟩)
      go_roundw
      case rel => exact ⟨k + 1, s + m, by omega, by go_num, HST.out.symm, by go_num, bl_al HBW.out _⟩
      case measure => simp [intOf]; omega
    · go_wp2
      go_ret
      refine ⟨ret_int ?_, HBW.out⟩
      have e : k = n := by omega
      have h2 := HS.out
      rw [e, ← HL.out, List.take_length] at h2
      rw [kbulk, ← h2, HL.out]
      omega
end Go.Proofs.Ytofjohkhhomldaa

/-
  PROVED HERE: the plain law of the pose at a tick of key poses; a copy of a slice of points. CONDITIONS: as each theorem names them.
-/
import Derived.Test.YtofjohkhhomldaaVKeysI
import Derived.Lib.SliceRun
namespace Go.Proofs.Ytofjohkhhomldaa
open Go.RowKit

theorem rnd_part (y T : Int) (h : 1 ≤ T) : rndV (y * T) T = y := by
  unfold rndV
  rw [show 2 * (y * T) + T = T * (2 * y + 1) by rw [Int.mul_add, Int.mul_one, Int.mul_comm y T, Int.mul_left_comm], show 2 * T = T * 2 by omega, Int.mul_ediv_mul_of_pos _ _ (by omega)]
  omega
theorem btI_hi {ps qs : List Pnt} {T : Int} {m : Nat} (h : 1 ≤ T) (hm : qs.length = m) : btI ps qs T T m = qs := by
  apply List.ext_getElem
  · rw [btI_len, hm]
  · intro j h1 h2
    simp [btI, btV, rnd_part _ _ h, List.getD, h2]
theorem btI_lo {ps qs : List Pnt} {T : Int} {m : Nat} (h : 1 ≤ T) (hm : ps.length = m) : btI ps qs 0 T m = ps := by
  apply List.ext_getElem
  · rw [btI_len, hm]
  · intro j h1 h2
    simp [btI, btV, rnd_part _ _ h, List.getD, h2]
theorem Vk.up {ks : List Key} (hv : Vk ks) : ∀ (d i : Nat), i + d + 1 < ks.length → (kd ks i).1 < (kd ks (i + d + 1)).1 := by
  intro d
  induction d with
  | zero => intro i hi; exact hv.rise i hi
  | succ d ih => intro i hi; have h1 := ih i (by omega); have h2 := hv.rise (i + d + 1) hi; rw [show i + (d + 1) + 1 = i + d + 1 + 1 by omega]; omega
theorem Vk.lt {ks : List Key} (hv : Vk ks) {i j : Nat} (h : i < j) (hj : j < ks.length) : (kd ks i).1 < (kd ks j).1 := by
  have := hv.up (j - i - 1) i (by omega)
  rwa [show i + (j - i - 1) + 1 = j by omega] at this
/-- The pose at a tick between key pose i and the next one. -/
def seg (ks : List Key) (tick : Int) (i : Nat) : List Pnt := btI (kd ks i).2 (kd ks (i + 1)).2 (tick - (kd ks i).1) ((kd ks (i + 1)).1 - (kd ks i).1) (kd ks 0).2.length
/-- The pose at a tick. -/
def atX (ks : List Key) (tick : Int) : List Pnt := match (List.range (ks.length - 1)).find? (fun i => decide ((kd ks i).1 ≤ tick) && decide (tick ≤ (kd ks (i + 1)).1)) with
  | some i => seg ks tick i
  | none => (kd ks 0).2
theorem seg_meet {ks : List Key} {tick : Int} (hv : Vk ks) {i j : Nat} (hij : i < j) (hj : j + 1 < ks.length) (h2 : tick ≤ (kd ks (i + 1)).1) (h3 : (kd ks j).1 ≤ tick) : seg ks tick i = seg ks tick j := by
  have e : j = i + 1 := by
    by_cases e : j = i + 1
    · exact e
    · have := hv.lt (show i + 1 < j by omega) (by omega)
      omega
  subst e
  have et : tick = (kd ks (i + 1)).1 := by omega
  have r1 := hv.rise i (by omega)
  have r2 := hv.rise (i + 1) hj
  unfold seg
  rw [et, Int.sub_self, btI_hi (by omega) (hv.same (i + 1) (by omega)), btI_lo (by omega) (hv.same (i + 1) (by omega))]
theorem atX_seg {ks : List Key} {tick : Int} (hv : Vk ks) {i : Nat} (hi : i + 1 < ks.length) (h1 : (kd ks i).1 ≤ tick) (h2 : tick ≤ (kd ks (i + 1)).1) : atX ks tick = seg ks tick i := by
  unfold atX
  split
  · rename_i j hj
    have hp := List.find?_some hj
    have hm := List.mem_of_find?_eq_some hj
    simp only [Bool.and_eq_true, decide_eq_true_eq] at hp
    have hjl := List.mem_range.1 hm
    rcases Nat.lt_trichotomy i j with h | h | h
    · exact (seg_meet hv h (by omega) h2 hp.1).symm
    · rw [h]
    · exact seg_meet hv h (by omega) hp.2 h1
  · rename_i hn
    have := List.find?_eq_none.1 hn i (List.mem_range.2 (by omega))
    exact absurd (by simp only [Bool.and_eq_true, decide_eq_true_eq]; exact ⟨h1, h2⟩) this
theorem atX_one {ks : List Key} (tick : Int) (h : ks.length = 1) : atX ks tick = (kd ks 0).2 := by simp [atX, h]
theorem atX_last {ks : List Key} (hv : Vk ks) {k : Nat} (hk : ks.length = k + 1) : atX ks (kd ks k).1 = (kd ks k).2 := by
  cases k with
  | zero => exact atX_one _ hk
  | succ i =>
    have r1 := hv.rise i (by omega)
    rw [atX_seg hv (i := i) (by omega) (by omega) (Int.le_refl _)]
    unfold seg
    exact btI_hi (by omega) (hv.same (i + 1) (by omega))
theorem atX_len (ks : List Key) (tick : Int) : (atX ks tick).length = (kd ks 0).2.length := by
  unfold atX
  split
  · unfold seg; rw [btI_len]
  · rfl
theorem kd8 {ks : List Key} (hv : Vk ks) {j : Nat} (hj : j < ks.length) : 1 ≤ (kd ks j).2.length ∧ (kd ks j).2.length ≤ 8 ∧ Pd (kd ks j).2 := by
  obtain ⟨⟨h1, h2⟩, h3⟩ := vp_t (hv.pose j hj)
  exact ⟨by omega, by omega, h3⟩
theorem PI.news {w : World} {b o n : Nat} {ps : List Pnt} (h : PI w (some ⟨b, o, none⟩) n ps) : ∀ j u, (flat ps)[j]? = some u → w.cell? ((⟨b, o, none⟩ : Addr).add j) = some u := by
  intro j u hj
  have hlt : j < ps.length * 2 := by
    rw [← flat_len]
    exact (List.getElem?_eq_some_iff.1 hj).1
  have hq : j / 2 < n := by have := h.1; omega
  obtain ⟨b1, o1, e, g1, g2⟩ := h.at_ hq
  injection e with e; injection e with e1 e2
  subst e1
  subst e2
  have hl : j / 2 < ps.length := by have := h.1; omega
  rcases Nat.mod_two_eq_zero_or_one j with e | e
  · have ej : j = j / 2 * 2 := by omega
    rw [ej, flat_get0 ps _ hl] at hj
    rw [← hj, ← g1, ej, Addr.add_lit, show j / 2 * 2 / 2 * 2 = j / 2 * 2 by omega]
  · have ej : j = j / 2 * 2 + 1 := by omega
    rw [ej, flat_get1 ps _ hl] at hj
    rw [← hj, ← g2, ej, Addr.add_lit, show (j / 2 * 2 + 1) / 2 * 2 = j / 2 * 2 by omega, Nat.add_assoc]
set_option maxHeartbeats 1000000 in
theorem CloneP_any (A : Option Addr) (n c : Nat) (ps : List Pnt) (w : World) (h1 : 1 ≤ n) (hn : n ≤ 1000) (hA : PI w A n ps) :
    Calls Try.prog 64 #[.slice A n c] w (PlR w.heap.size ps w) := by
  obtain ⟨i0, hi, hz0, hz1, hz2⟩ := info_parts info_Point
  obtain ⟨b, o, hAA, _⟩ := hA.2 (by omega)
  subst hAA
  have HL := Lib.hid hA.1
  have HA := Lib.hid hA
  have HO := Lib.hid (World.ownsRow_lit (e := 61) (size := 2) (base := w.heap.size) w #[] 0 (Nat.le_refl _) (Nat.zero_le _) (by simp))
  have q22 : ∀ (w : World) (a : Option Addr) (n c n' c' : Nat), (binOp .eql 25 (.slice a n c) (.slice none n' c')).run Try.prog w = .ok (.bool a.isNone) w := fun w a n c n' c' => Lib.run_eql_slice_nil w _ _ a n c n' c' Try.underlying25
  clear hA
  go_enter Try.func64, Try.ntmps64
  go_wp2_with (at_builtin; refine wpList_append_own _ rfl _ _ 25 rfl w.heap.size 61 i0 (.agg #[.int .i64 0, .int .i64 0]) 2 16 Try.underlying25 hi hz0 hz1 hz2 rfl (by decide) _ _ _ rfl HO.out ⟨b, o, none⟩ n c (flat ps) rfl (by rw [flat_len, HL.out]) (PI.news (HA.out.alloc _)) (flat_int _) (by unfold maxLen; omega) (by omega) (by simp) ?_; intro v' w2 hown' hgrow _)
  go_ret
  exact PlR.mk HL.out (by simpa using hown') (((Below.refl _ _).alloc (Nat.le_refl _) _).grown hgrow (by simp) (fun j hj => (HO.out.lt j hj).1))
end Go.Proofs.Ytofjohkhhomldaa

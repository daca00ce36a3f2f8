/-
  PROVED HERE: contracts of a pose's validity and of two poses' equality, in the program and in the reference. CONDITIONS: ps each theorem names them.
-/
import Derived.Test.YtofjohkhhomldaaPt
namespace Go.Proofs.Ytofjohkhhomldaa
open Go.RowKit

def ptB (p : Pnt) : Bool := inB p.1 0 1000 && inB p.2 0 1000
def psB (ps : List Pnt) : Bool := ps.all ptB
def PtTo (ps : List Pnt) (k : Nat) : Prop := ∀ j, j < k → ptB (ps.getD j (0, 0)) = true
theorem pt_zero (ps : List Pnt) : PtTo ps 0 := fun _ h => absurd h (by omega)
theorem pt_succ {ps : List Pnt} {k : Nat} (h : PtTo ps k) (hk : ptB (ps.getD k (0, 0)) = true) : PtTo ps (k + 1) := fun j hj => by
  by_cases e : j = k
  · subst e; exact hk
  · exact h j (by omega)
theorem pt_t {ps : List Pnt} {n : Nat} (hn : ps.length = n) (h : PtTo ps n) : psB ps = true := by
  unfold psB
  rw [List.all_eq_true]
  intro x hx
  obtain ⟨j, hj, rfl⟩ := List.mem_iff_getElem.1 hx
  have := h j (by omega)
  simpa [List.getD, hj] using this
theorem pt_f {ps : List Pnt} {k : Nat} (hk : k < ps.length) (h : ptB (ps.getD k (0, 0)) = false) : psB ps = false := by
  unfold psB
  rw [List.all_eq_false]
  exact ⟨ps[k], List.getElem_mem hk, by rw [show ps[k] = ps.getD k (0, 0) by simp [List.getD, hk], h]; simp⟩
/-- Is it a pose? -/
def vp (ps : List Pnt) : Bool := inB ps.length 1 8 && psB ps
theorem vp_t {ps : List Pnt} (h : vp ps = true) : (1 ≤ (ps.length : Int) ∧ (ps.length : Int) ≤ 8) ∧ ∀ j, j < ps.length → (0 ≤ (ps.getD j (0, 0)).1 ∧ (ps.getD j (0, 0)).1 ≤ 1000) ∧ 0 ≤ (ps.getD j (0, 0)).2 ∧ (ps.getD j (0, 0)).2 ≤ 1000 := by
  simp only [vp, Bool.and_eq_true] at h
  refine ⟨inB_t h.1, fun j hj => ?_⟩
  have := List.all_eq_true.1 h.2 ps[j] (List.getElem_mem hj)
  rw [show ps[j] = ps.getD j (0, 0) by simp [List.getD, hj]] at this
  simp only [ptB, Bool.and_eq_true] at this
  exact ⟨inB_t this.1, inB_t this.2⟩
set_option maxHeartbeats 1000000 in
theorem l04Ok_any (A : Option Addr) (n c : Nat) (ps : List Pnt) (w : World) (hn : n ≤ 1152921504606846976) (hA : PI w A n ps) :
    Calls Try.prog 52 #[.slice A n c] w fun e w' => e = .returned (.bool (vp ps)) ∧ w = w' := by
  have hl := hA.1
  have HA := Lib.hid hA
  have HL := Lib.hid hl
  clear hA hl
  go_enter Try.func52, Try.ntmps52
  go_wp2
  go_loop [3] (fun i => ∃ k : Nat, k ≤ n ∧ i = .int .i64 k ∧ PtTo ps k) (fun i => n - (intOf i).toNat)
  case atStart => exact ⟨0, Nat.zero_le _, rfl, pt_zero _⟩
  case round =>
    obtain ⟨k, hk, rfl, hp⟩ := hrel
    have HP := Lib.hid hp
    clear hp
    by_cases hlt : k < n
    · obtain ⟨b1, o1, hAA, h1, h2⟩ := HA.out.at_ hlt
      subst hAA
      obtain ⟨x, hx⟩ : ∃ x, x = (ps.getD k (0, 0)).1 := ⟨_, rfl⟩
      obtain ⟨y, hy⟩ : ∃ y, y = (ps.getD k (0, 0)).2 := ⟨_, rfl⟩
      have hpt : ptB (ps.getD k (0, 0)) = (inB x 0 1000 && inB y 0 1000) := by rw [ptB, ← hx, ← hy]
      rw [← hx] at h1
      rw [← hy] at h2
      have HPT := Lib.hid hpt
      clear hx hy hpt
      cases hc1 : inB x 0 1000 <;> cases hc2 : inB y 0 1000
      case true.true =>
        have HS := Lib.hid (pt_succ HP.out (by rw [HPT.out, hc1, hc2]; rfl))
        go_wp2_with (first | (go_at_call 55; refine (within_any _ _ _ _).mono ?_; rintro e w' ⟨rfl, rfl⟩) | (go_at_call 57; refine (l00In_any _ _ _ _).mono ?_; rintro e w' ⟨rfl, rfl⟩) | go_in)
        go_round
        case rel => exact ⟨k + 1, by omega, by go_num, HS.out⟩
        case measure => simp [intOf]; omega
      all_goals
        have HS := Lib.hid (pt_f (ps := ps) (k := k) (by rw [HL.out]; exact hlt) (by rw [HPT.out, hc1, hc2]; rfl))
        go_wp2_with (first | (go_at_call 55; refine (within_any _ _ _ _).mono ?_; rintro e w' ⟨rfl, rfl⟩) | (go_at_call 57; refine (l00In_any _ _ _ _).mono ?_; rintro e w' ⟨rfl, rfl⟩) | go_in)
        go_ret
        exact ⟨ret_bool (by simp only [vp, HS.out, Bool.and_false]), rfl⟩
    · have e : k = n := by omega
      have HS := Lib.hid (pt_t HL.out (e ▸ HP.out))
      clear e
      go_wp2_with (first | (go_at_call 55; refine (within_any _ _ _ _).mono ?_; rintro e w' ⟨rfl, rfl⟩) | (go_at_call 57; refine (l00In_any _ _ _ _).mono ?_; rintro e w' ⟨rfl, rfl⟩) | go_in)
      go_ret
      exact ⟨ret_bool (by simp only [vp, HS.out, HL.out, Bool.and_true]), rfl⟩
theorem vpClosure (x y : Int) (w : World) :
    Calls Try.prog 54 #[.agg #[.int .i64 x, .int .i64 y]] w fun e w' => e = .returned (.bool (!(inB x 0 1000 && inB y 0 1000))) ∧ ∃ c : Array Value, w' = w.alloc (.cells c 61) := by
  cases hc1 : inB x 0 1000 <;> cases hc2 : inB y 0 1000
  all_goals
    go_enter Try.func54, Try.ntmps54
    go_wp2_with (first | (go_at_call 55; refine (within_any _ _ _ _).mono ?_; rintro e w' ⟨rfl, rfl⟩) | (go_at_call 57; refine (l00In_any _ _ _ _).mono ?_; rintro e w' ⟨rfl, rfl⟩) | go_in)
    go_ret
    exact ⟨rfl, _, rfl⟩
def IdxP (ok : Bool) (w : World) (e : Ending) (w' : World) : Prop := ∃ r : Int, -1 ≤ r ∧ r ≤ 1152921504606846976 ∧ (decide (0 ≤ r)) = !ok ∧ e = .returned (.int .i64 r) ∧ Below w.heap.size w w'
set_option maxHeartbeats 1000000 in
theorem vpIndex (A : Option Addr) (n c : Nat) (ps : List Pnt) (w : World) (hn : n ≤ 1152921504606846976) (hA : PI w A n ps) :
    Calls Try.prog 67 #[.slice A n c, .func (.func 54) #[] #[]] w (IdxP (psB ps) w) := by
  have hl := hA.1
  have HA := Lib.hid hA
  have HL := Lib.hid hl
  clear hA hl
  go_enter Try.func67, Try.ntmps67
  go_wp2
  go_loopw [5, 8] (fun _ i wr => ∃ k : Nat, k ≤ n ∧ i = .int .i64 k ∧ PtTo ps k ∧ Below w.heap.size w wr) (fun _ i _ => n - (intOf i).toNat)
  case atStart => exact ⟨0, Nat.zero_le _, rfl, pt_zero _, Below.refl _ _⟩
  case round =>
    obtain ⟨k, hk, rfl, hp, hb⟩ := hrel
    have HP := Lib.hid hp
    have HB := Lib.hid hb
    clear hp hb
    by_cases hlt : k < n
    · obtain ⟨b1, o1, hAA, h1, h2⟩ := (HA.out.below HB.out).at_ hlt
      subst hAA
      obtain ⟨x, hx⟩ : ∃ x, x = (ps.getD k (0, 0)).1 := ⟨_, rfl⟩
      obtain ⟨y, hy⟩ : ∃ y, y = (ps.getD k (0, 0)).2 := ⟨_, rfl⟩
      have hpt : ptB (ps.getD k (0, 0)) = (inB x 0 1000 && inB y 0 1000) := by rw [ptB, ← hx, ← hy]
      rw [← hx] at h1
      rw [← hy] at h2
      have HPT := Lib.hid hpt
      clear hx hy hpt
      cases hc1 : inB x 0 1000 <;> cases hc2 : inB y 0 1000
      case true.true =>
        have HS := Lib.hid (pt_succ HP.out (by rw [HPT.out, hc1, hc2]; rfl))
        go_wp2_with (go_at_call 54; refine (vpClosure _ _ _).mono ?_; rintro e w' ⟨rfl, o1, rfl⟩)
        go_roundw
        case rel => exact ⟨k + 1, by omega, by go_num, HS.out, bl_al HB.out _⟩
        case measure => simp [intOf]; omega
      all_goals
        have HS := Lib.hid (pt_f (ps := ps) (k := k) (by rw [HL.out]; exact hlt) (by rw [HPT.out, hc1, hc2]; rfl))
        go_wp2_with (go_at_call 54; refine (vpClosure _ _ _).mono ?_; rintro e w' ⟨rfl, o1, rfl⟩)
        go_ret
        exact ⟨k, by omega, by omega, by rw [HS.out]; simp, rfl, bl_al HB.out _⟩
    · have e : k = n := by omega
      have HS := Lib.hid (pt_t HL.out (e ▸ HP.out))
      clear e
      go_wp2
      go_ret
      exact ⟨-1, by omega, by omega, by rw [HS.out]; rfl, rfl, HB.out⟩
set_option maxHeartbeats 1000000 in
theorem ValidPose_any (A : Option Addr) (n c : Nat) (ps : List Pnt) (w : World) (hn : n ≤ 1152921504606846976) (hA : PI w A n ps) :
    Calls Try.prog 19 #[.slice A n c] w fun e w' => e = .returned (.bool (vp ps)) ∧ Below w.heap.size w w' := by
  have hl := hA.1
  have HA := Lib.hid hA
  by_cases h1 : 1 ≤ (n : Int)
  rotate_left
  · have e : vp ps = false := by simp only [vp, inB, hl]; simp; intros; omega
    rw [e]
    clear hA hl e
    go_enter Try.func19, Try.ntmps19
    go_wp2
    go_ret
    exact ⟨rfl, Below.refl _ _⟩
  by_cases h2 : (n : Int) ≤ 8
  rotate_left
  · have e : vp ps = false := by simp only [vp, inB, hl]; simp; intros; omega
    have h2' : decide ((n : Int) ≤ 8) = false := decide_eq_false h2
    rw [e]
    clear hA hl e
    go_enter Try.func19, Try.ntmps19
    go_wp2
    go_ret
    exact ⟨rfl, Below.refl _ _⟩
  have e : vp ps = psB ps := by simp only [vp, hl, inB_mk h1 h2, Bool.true_and]
  rw [e]
  clear hA hl e
  go_enter Try.func19, Try.ntmps19
  go_wp2_with (first | (go_at_call 67; refine (vpIndex _ _ _ ps _ hn HA.out).mono ?_; rintro e w' ⟨r, r1, r2, r3, rfl, hb⟩) | go_in)
  go_ret
  exact ⟨by simp, hb⟩
def EqTo (ps qs : List Pnt) (k : Nat) : Prop := ∀ j, j < k → ps.getD j (0, 0) = qs.getD j (0, 0)
theorem eq_zero (ps qs : List Pnt) : EqTo ps qs 0 := fun _ h => absurd h (by omega)
theorem eq_succ {ps qs : List Pnt} {k : Nat} (h : EqTo ps qs k) (hk : ps.getD k (0, 0) = qs.getD k (0, 0)) : EqTo ps qs (k + 1) := fun j hj => by
  by_cases e : j = k
  · subst e; exact hk
  · exact h j (by omega)
/-- Are two poses equal? -/
def spB (ps qs : List Pnt) : Bool := decide (ps = qs)
theorem spB_t {ps qs : List Pnt} {n : Nat} (ha : ps.length = n) (hb : qs.length = n) (h : EqTo ps qs n) : spB ps qs = true := by
  unfold spB
  apply decide_eq_true
  apply List.ext_getElem (by omega)
  intro j h1 h2
  have := h j (by omega)
  simpa [List.getD, h1, h2] using this
theorem spB_f {ps qs : List Pnt} {k : Nat} (h : ps.getD k (0, 0) ≠ qs.getD k (0, 0)) : spB ps qs = false := by
  unfold spB
  apply decide_eq_false
  intro e; exact h (by rw [e])
theorem spB_n {ps qs : List Pnt} (h : ps.length ≠ qs.length) : spB ps qs = false := by
  unfold spB
  apply decide_eq_false
  intro e; exact h (by rw [e])
set_option maxHeartbeats 1000000 in
theorem equalP_any (A B : Option Addr) (n m ca cb : Nat) (ps qs : List Pnt) (w : World) (hn : n ≤ 1152921504606846976) (hm : m ≤ 1152921504606846976) (hA : PI w A n ps) (hB : PI w B m qs) :
    Calls Try.prog 50 #[.slice A n ca, .slice B m cb] w fun e w' => e = .returned (.bool (spB ps qs)) ∧ ∃ k, w' = w.drewN k := by
  by_cases hnm : n = m
  rotate_left
  · have e := spB_n (ps := ps) (qs := qs) (by rw [hA.1, hB.1]; exact hnm)
    rw [e]
    have q1 : ((n : Int) == (m : Int)) = false := by simp; omega
    have q2 : ((n : Int) != (m : Int)) = true := by simp; omega
    clear hA hB e hnm
    go_enter Try.func50, Try.ntmps50
    go_wp2
    go_ret
    exact ⟨rfl, 0, rfl⟩
  subst hnm
  have HA := Lib.hid hA
  have HB := Lib.hid hB
  clear hA hB
  go_enter Try.func50, Try.ntmps50
  go_wp2
  go_loopw [5, 13] (fun _ i wr => ∃ k m : Nat, k ≤ n ∧ i = .int .i64 k ∧ EqTo ps qs k ∧ wr = w.drewN m) (fun _ i _ => n - (intOf i).toNat)
  case atStart => exact ⟨0, 0, Nat.zero_le _, rfl, eq_zero _ _, rfl⟩
  case round =>
    obtain ⟨k, m, hk, rfl, hq, rfl⟩ := hrel
    have HQ := Lib.hid hq
    clear hq
    by_cases hlt : k < n
    · obtain ⟨b1, o1, hAA, h1, h1'⟩ := HA.out.at_ hlt
      obtain ⟨b2, o2, hBB, h2, h2'⟩ := HB.out.at_ hlt
      subst hAA
      subst hBB
      obtain ⟨p, hp⟩ : ∃ p, p = ps.getD k (0, 0) := ⟨_, rfl⟩
      obtain ⟨q, hq⟩ : ∃ q, q = qs.getD k (0, 0) := ⟨_, rfl⟩
      rw [← hp] at h1 h1'
      rw [← hq] at h2 h2'
      have HP := Lib.hid hp
      have HQ2 := Lib.hid hq
      clear hp hq
      obtain ⟨x, y⟩ := p
      obtain ⟨u, v⟩ := q
      cases hc1 : (x == u) <;> cases hc2 : (y == v)
      case true.true =>
        have HS := Lib.hid (eq_succ HQ.out (by rw [← HP.out, ← HQ2.out, eq_of_beq hc1, eq_of_beq hc2]))
        go_wp2
        go_quiet (fail)
        go_wp2
        go_roundw
        case rel => exact ⟨k + 1, _, by omega, by go_num, HS.out, rfl⟩
        case measure => simp [intOf]; omega
      all_goals
        have HS := Lib.hid (spB_f (ps := ps) (qs := qs) (k := k) (by rw [← HP.out, ← HQ2.out]; intro e; injection e with e1 e2; simp_all))
        go_wp2
        go_quiet (fail)
        go_wp2
        go_ret
        exact ⟨ret_bool HS.out.symm, m + nq, by rw [World.drewN_drewN]⟩
    · have e : k = n := by omega
      have HS := Lib.hid (spB_t HA.out.1 HB.out.1 (e ▸ HQ.out))
      clear e
      go_wp2
      go_ret
      exact ⟨ret_bool HS.out.symm, _, rfl⟩
set_option maxHeartbeats 1000000 in
theorem lSamePose_any (A B : Option Addr) (n m ca cb : Nat) (ps qs : List Pnt) (w : World) (hn : n ≤ 1152921504606846976) (hm : m ≤ 1152921504606846976) (hA : PI w A n ps) (hB : PI w B m qs) :
    Calls Try.prog 14 #[.slice A n ca, .slice B m cb] w fun e w' => e = .returned (.bool (spB ps qs)) ∧ ∃ k, w' = w.drewN k := by
  by_cases hnm : n = m
  rotate_left
  · have e := spB_n (ps := ps) (qs := qs) (by rw [hA.1, hB.1]; exact hnm)
    rw [e]
    have q1 : ((n : Int) == (m : Int)) = false := by simp; omega
    have q2 : ((n : Int) != (m : Int)) = true := by simp; omega
    clear hA hB e hnm
    go_enter Try.func14, Try.ntmps14
    go_wp2
    go_ret
    exact ⟨rfl, 0, rfl⟩
  subst hnm
  have HA := Lib.hid hA
  have HB := Lib.hid hB
  clear hA hB
  go_enter Try.func14, Try.ntmps14
  go_wp2
  go_loopw [5] (fun i wr => ∃ k m : Nat, k ≤ n ∧ i = .int .i64 k ∧ EqTo ps qs k ∧ wr = w.drewN m) (fun i _ => n - (intOf i).toNat)
  case atStart => exact ⟨0, 0, Nat.zero_le _, rfl, eq_zero _ _, rfl⟩
  case round =>
    obtain ⟨k, m, hk, rfl, hq, rfl⟩ := hrel
    have HQ := Lib.hid hq
    clear hq
    by_cases hlt : k < n
    · obtain ⟨b1, o1, hAA, h1, h1'⟩ := HA.out.at_ hlt
      obtain ⟨b2, o2, hBB, h2, h2'⟩ := HB.out.at_ hlt
      subst hAA
      subst hBB
      obtain ⟨p, hp⟩ : ∃ p, p = ps.getD k (0, 0) := ⟨_, rfl⟩
      obtain ⟨q, hq⟩ : ∃ q, q = qs.getD k (0, 0) := ⟨_, rfl⟩
      rw [← hp] at h1 h1'
      rw [← hq] at h2 h2'
      have HP := Lib.hid hp
      have HQ2 := Lib.hid hq
      clear hp hq
      obtain ⟨x, y⟩ := p
      obtain ⟨u, v⟩ := q
      cases hc1 : (x == u) <;> cases hc2 : (y == v)
      case true.true =>
        have HS := Lib.hid (eq_succ HQ.out (by rw [← HP.out, ← HQ2.out, eq_of_beq hc1, eq_of_beq hc2]))
        go_wp2
        go_quiet (fail)
        go_wp2
        go_roundw
        case rel => exact ⟨k + 1, _, by omega, by go_num, HS.out, rfl⟩
        case measure => simp [intOf]; omega
      all_goals
        have HS := Lib.hid (spB_f (ps := ps) (qs := qs) (k := k) (by rw [← HP.out, ← HQ2.out]; intro e; injection e with e1 e2; simp_all))
        go_wp2
        go_quiet (fail)
        go_wp2
        go_ret
        exact ⟨ret_bool HS.out.symm, m + nq, by rw [World.drewN_drewN]⟩
    · have e : k = n := by omega
      have HS := Lib.hid (spB_t HA.out.1 HB.out.1 (e ▸ HQ.out))
      clear e
      go_wp2
      go_ret
      exact ⟨ret_bool HS.out.symm, _, rfl⟩
theorem SamePose_any (A B : Option Addr) (n m ca cb : Nat) (ps qs : List Pnt) (w : World) (hn : n ≤ 1152921504606846976) (hm : m ≤ 1152921504606846976) (hA : PI w A n ps) (hB : PI w B m qs) :
    Calls Try.prog 16 #[.slice A n ca, .slice B m cb] w fun e w' => e = .returned (.bool (spB ps qs)) ∧ ∃ k, w' = w.drewN k := by
  have HA := Lib.hid hA
  have HB := Lib.hid hB
  clear hA hB
  go_enter Try.func16, Try.ntmps16
  go_wp2_with (go_at_call 50; refine (equalP_any _ _ _ _ _ _ ps qs _ hn hm HA.out HB.out).mono ?_; rintro e w' ⟨rfl, k, rfl⟩)
  go_ret
  exact ⟨rfl, _, rfl⟩
end Go.Proofs.Ytofjohkhhomldaa

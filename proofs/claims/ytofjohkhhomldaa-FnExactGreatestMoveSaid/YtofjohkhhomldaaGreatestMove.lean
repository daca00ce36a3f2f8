/-
  PROVED HERE: the walk of GreatestMove: the program and the reference agree. CONDITIONS: the arguments' cells lie in the world.
-/
import Derived.Test.YtofjohkhhomldaaPoseN
namespace Go.Proofs.Ytofjohkhhomldaa
open Go.RowKit

theorem l04Two_any (A : Option Addr) (n ca : Nat) (ps : List Pnt) (B : Option Addr) (m cb : Nat) (qs : List Pnt) (w : World) (hn : n ≤ 1048576) (hm : m ≤ 1048576) (hA : PI w A n ps) (hB : PI w B m qs) :
    Calls Try.prog 56 #[.slice A n ca, .slice B m cb] w fun e w' => e = .returned (.int .i64 (if vp ps && vp qs then 0 else 1)) ∧ w = w' := by
  have HA := Lib.hid hA
  have HB := Lib.hid hB
  clear hA hB
  cases h0 : vp ps
  case false =>
    go_enter Try.func56, Try.ntmps56
    go_wp2_with fail
    refine (l04Ok_any _ _ _ ps _ (by omega) HA.out).mono ?_
    rintro e w' ⟨rfl, rfl⟩
    go_wp2
    go_ret
    exact ⟨rfl, rfl⟩
  cases h1 : vp qs
  all_goals
    go_enter Try.func56, Try.ntmps56
    go_wp2_with fail
    refine (l04Ok_any _ _ _ ps _ (by omega) HA.out).mono ?_
    rintro e w' ⟨rfl, rfl⟩
    go_wp2_with fail
    refine (l04Ok_any _ _ _ qs _ (by omega) HB.out).mono ?_
    rintro e w' ⟨rfl, rfl⟩
    go_wp2
    go_ret
    exact ⟨rfl, rfl⟩
theorem l04Two_v {b c : Bool} (A : Option Addr) (n ca : Nat) (ps : List Pnt) (B : Option Addr) (m cb : Nat) (qs : List Pnt) (w : World) (hn : n ≤ 1048576) (hm : m ≤ 1048576) (h0 : vp ps = b) (h1 : vp qs = c) (hA : PI w A n ps) (hB : PI w B m qs) :
    Calls Try.prog 56 #[.slice A n ca, .slice B m cb] w fun e w' => e = .returned (.int .i64 (if b && c then 0 else 1)) ∧ w = w' := by
  have := l04Two_any A n ca ps B m cb qs w hn hm hA hB
  rw [h0, h1] at this
  exact this
/-- The square of how far a joint moves. -/
def gmD (ps qs : List Pnt) (k : Nat) : Int := ((ps.getD k (0, 0)).1 - (qs.getD k (0, 0)).1) * ((ps.getD k (0, 0)).1 - (qs.getD k (0, 0)).1) + ((ps.getD k (0, 0)).2 - (qs.getD k (0, 0)).2) * ((ps.getD k (0, 0)).2 - (qs.getD k (0, 0)).2)
def gmB (ps qs : List Pnt) : Nat → Int × Int
  | 0 => (0, -1)
  | k + 1 => if (gmB ps qs k).2 < gmD ps qs k then ((k : Int), gmD ps qs k) else gmB ps qs k
theorem gmB_t {ps qs : List Pnt} {k : Nat} (h : (gmB ps qs k).2 < gmD ps qs k) : gmB ps qs (k + 1) = ((k : Int), gmD ps qs k) := if_pos h
theorem gmB_f {ps qs : List Pnt} {k : Nat} (h : ¬ (gmB ps qs k).2 < gmD ps qs k) : gmB ps qs (k + 1) = gmB ps qs k := if_neg h
def gmR (ps qs : List Pnt) : Value := if vp ps && vp qs then (if ps.length = qs.length then .tuple #[.int .i64 (gmB ps qs ps.length).1, .int .i64 (gmB ps qs ps.length).2, .int .i64 0] else .tuple #[.int .i64 0, .int .i64 0, .int .i64 8]) else .tuple #[.int .i64 0, .int .i64 0, .int .i64 1]
theorem gmR_is (ps qs : List Pnt) : ∃ a b c : Int, gmR ps qs = .tuple #[.int .i64 a, .int .i64 b, .int .i64 c] := by
  unfold gmR
  repeat' split
  all_goals exact ⟨_, _, _, rfl⟩
set_option maxHeartbeats 4000000 in
theorem GreatestMove_any (A : Option Addr) (n ca : Nat) (ps : List Pnt) (B : Option Addr) (m cb : Nat) (qs : List Pnt) (w : World) (hn : n ≤ 1048576) (hm : m ≤ 1048576) (hA : PI w A n ps) (hB : PI w B m qs) :
    Calls Try.prog 21 #[.slice A n ca, .slice B m cb] w fun e w' => e = .returned (gmR ps qs) ∧ Below w.heap.size w w' := by
  have HLA := Lib.hid hA.1
  have HLB := Lib.hid hB.1
  have HA := Lib.hid hA
  have HB := Lib.hid hB
  cases h0 : vp ps
  case false =>
    have e1 : gmR ps qs = .tuple #[.int .i64 0, .int .i64 0, .int .i64 1] := by simp [gmR, h0]
    rw [e1]
    clear e1 hA hB
    go_enter Try.func21, Try.ntmps21
    go_wp2_with fail
    refine (ValidPose_any _ _ _ ps _ (by omega) HA.out).mono ?_
    rintro e w1 ⟨rfl, hb1⟩
    have HA1 := Lib.hid (HA.out.below hb1)
    have HB1 := Lib.hid (HB.out.below hb1)
    have HW1 := Lib.hid hb1
    clear hb1
    go_wp2
    go_ret3
    exact ⟨rfl, HW1.out⟩

  cases h1 : vp qs
  case false =>
    have e1 : gmR ps qs = .tuple #[.int .i64 0, .int .i64 0, .int .i64 1] := by simp [gmR, h0, h1]
    rw [e1]
    clear e1 hA hB
    go_enter Try.func21, Try.ntmps21
    go_wp2_with fail
    refine (ValidPose_any _ _ _ ps _ (by omega) HA.out).mono ?_
    rintro e w1 ⟨rfl, hb1⟩
    have HA1 := Lib.hid (HA.out.below hb1)
    have HB1 := Lib.hid (HB.out.below hb1)
    have HW1 := Lib.hid hb1
    clear hb1
    go_wp2_with fail
    refine (ValidPose_any _ _ _ qs _ (by omega) HB1.out).mono ?_
    rintro e w2 ⟨rfl, hb2⟩
    have HA2 := Lib.hid (HA1.out.below hb2)
    have HB2 := Lib.hid (HB1.out.below hb2)
    have HW2 := Lib.hid (bl_tr HW1.out hb2)
    clear hb2
    go_wp2
    go_ret3
    exact ⟨rfl, HW2.out⟩

  by_cases hnm : n = m
  rotate_left
  · have hpq : ¬ ps.length = qs.length := by rw [HLA.out, HLB.out]; exact hnm
    have q1 : ((n : Int) == (m : Int)) = false := by simp; omega
    have q2 : ((n : Int) != (m : Int)) = true := by simp; omega
    have e1 : gmR ps qs = .tuple #[.int .i64 0, .int .i64 0, .int .i64 8] := by simp [gmR, h0, h1, hpq]
    rw [e1]
    clear e1 hA hB hpq hnm
    go_enter Try.func21, Try.ntmps21
    go_wp2_with fail
    refine (ValidPose_any _ _ _ ps _ (by omega) HA.out).mono ?_
    rintro e w1 ⟨rfl, hb1⟩
    have HA1 := Lib.hid (HA.out.below hb1)
    have HB1 := Lib.hid (HB.out.below hb1)
    have HW1 := Lib.hid hb1
    clear hb1
    go_wp2_with fail
    refine (ValidPose_any _ _ _ qs _ (by omega) HB1.out).mono ?_
    rintro e w2 ⟨rfl, hb2⟩
    have HA2 := Lib.hid (HA1.out.below hb2)
    have HB2 := Lib.hid (HB1.out.below hb2)
    have HW2 := Lib.hid (bl_tr HW1.out hb2)
    clear hb2
    go_wp2
    go_ret3
    exact ⟨rfl, HW2.out⟩

  subst hnm
  obtain ⟨⟨_, n8⟩, hp⟩ := vp_t h0
  obtain ⟨_, hq⟩ := vp_t h1
  rw [HLA.out] at n8
  have hpq : ps.length = qs.length := by rw [HLA.out, HLB.out]
  have e1 : gmR ps qs = .tuple #[.int .i64 (gmB ps qs n).1, .int .i64 (gmB ps qs n).2, .int .i64 0] := by simp only [gmR, h0, h1, hpq, if_true, Bool.and_true, HLB.out]
  rw [e1]
  have q1 : ((n : Int) == (n : Int)) = true := by simp
  have q2 : ((n : Int) != (n : Int)) = false := by simp
  have HP := Lib.hid (show Pd ps from hp)
  have HQ := Lib.hid (show Pd qs from hq)
  have n8' : n ≤ 8 := by omega
  clear e1 hA hB hpq hp hq
  go_enter Try.func21, Try.ntmps21
  go_wp2_with fail
  refine (ValidPose_any _ _ _ ps _ (by omega) HA.out).mono ?_
  rintro e w1 ⟨rfl, hb1⟩
  have HA1 := Lib.hid (HA.out.below hb1)
  have HB1 := Lib.hid (HB.out.below hb1)
  have HW1 := Lib.hid hb1
  clear hb1
  go_wp2_with fail
  refine (ValidPose_any _ _ _ qs _ (by omega) HB1.out).mono ?_
  rintro e w2 ⟨rfl, hb2⟩
  have HA2 := Lib.hid (HA1.out.below hb2)
  have HB2 := Lib.hid (HB1.out.below hb2)
  have HW2 := Lib.hid (bl_tr HW1.out hb2)
  clear hb2
  go_wp2
  go_loopw [7, 8, 9, 10, 11, 12, 30] (fun b m _ _ _ _ i wr => ∃ k d : Nat, k ≤ n ∧ i = .int .i64 k ∧ b = .int .i64 (gmB ps qs k).1 ∧ m = .int .i64 (gmB ps qs k).2 ∧ wr = w2.drewN d) (fun _ _ _ _ _ _ i _ => n - (intOf i).toNat)
  case atStart => exact ⟨0, 0, Nat.zero_le _, rfl, rfl, rfl, rfl⟩
  case round =>
    obtain ⟨k, d, hk, rfl, rfl, rfl, rfl⟩ := hrel
    by_cases hlt : k < n
    · obtain ⟨b1, o1, hAA, g1, g2⟩ := HA2.out.at_ hlt
      obtain ⟨b2, o2, hBB, g3, g4⟩ := HB2.out.at_ hlt
      subst hAA
      subst hBB
      obtain ⟨⟨p1, p2⟩, p3, p4⟩ := HP.out k (by rw [HLA.out]; exact hlt)
      obtain ⟨⟨p5, p6⟩, p7, p8⟩ := HQ.out k (by rw [HLB.out]; exact hlt)
      obtain ⟨M, hM⟩ : ∃ M, M = (gmB ps qs k).2 := ⟨_, rfl⟩
      obtain ⟨N, hN⟩ : ∃ N, N = (gmB ps qs k).1 := ⟨_, rfl⟩
      have ht := gmB_t (ps := ps) (qs := qs) (k := k)
      have hf := gmB_f (ps := ps) (qs := qs) (k := k)
      have hD : gmD ps qs k = ((ps.getD k (0, 0)).1 - (qs.getD k (0, 0)).1) * ((ps.getD k (0, 0)).1 - (qs.getD k (0, 0)).1) + ((ps.getD k (0, 0)).2 - (qs.getD k (0, 0)).2) * ((ps.getD k (0, 0)).2 - (qs.getD k (0, 0)).2) := rfl
      rw [hD] at ht hf
      obtain ⟨⟨x, y⟩, hx⟩ : ∃ p, p = ps.getD k (0, 0) := ⟨_, rfl⟩
      obtain ⟨⟨u, v⟩, hu⟩ : ∃ p, p = qs.getD k (0, 0) := ⟨_, rfl⟩
      rw [← hx] at g1 g2 p1 p2 p3 p4 ht hf
      rw [← hu] at g3 g4 p5 p6 p7 p8 ht hf
      rw [← hM] at ht hf ⊢
      rw [← hN]
      dsimp only at g1 g2 g3 g4 p1 p2 p3 p4 p5 p6 p7 p8 ht hf
      obtain ⟨m1, m1'⟩ := sqb (x - u) 1000 (by omega) (by omega)
      obtain ⟨m2, m2'⟩ := sqb (y - v) 1000 (by omega) (by omega)
      have t1 : IntKind.i64.wrap (x - u) = x - u := w64' (by omega) (by omega)
      have t2 : IntKind.i64.wrap (y - v) = y - v := w64' (by omega) (by omega)
      have t3 : IntKind.i64.wrap ((x - u) * (x - u)) = (x - u) * (x - u) := w64' (by omega) (by omega)
      have t4 : IntKind.i64.wrap ((y - v) * (y - v)) = (y - v) * (y - v) := w64' (by omega) (by omega)
      have t5 : IntKind.i64.wrap ((x - u) * (x - u) + (y - v) * (y - v)) = (x - u) * (x - u) + (y - v) * (y - v) := w64' (by omega) (by omega)
      by_cases hc : M < (x - u) * (x - u) + (y - v) * (y - v)
      · have H := Lib.hid (ht hc)
        clear ht hf hM hN hx hu hD
        go_wp2
        go_quiet (fail)
        go_wp2
        go_roundw
        case rel => exact ⟨k + 1, _, by omega, by go_num, by rw [H.out], by rw [H.out], rfl⟩
        case measure => simp [intOf]; omega
      · have H := Lib.hid (hf hc)
        have HM := Lib.hid hM
        have HN := Lib.hid hN
        clear ht hf hM hN hx hu hD
        go_wp2
        go_quiet (fail)
        go_wp2
        go_roundw
        case rel => exact ⟨k + 1, _, by omega, by go_num, by rw [H.out, HN.out], by rw [H.out, HM.out], rfl⟩
        case measure => simp [intOf]; omega
    · have e : k = n := by omega
      subst e
      go_wp2
      go_ret3
      exact ⟨rfl, bl_drewN (HW2.out) _⟩

set_option maxHeartbeats 4000000 in
theorem lGreatestMove_any (A : Option Addr) (n ca : Nat) (ps : List Pnt) (B : Option Addr) (m cb : Nat) (qs : List Pnt) (w : World) (hn : n ≤ 1048576) (hm : m ≤ 1048576) (hA : PI w A n ps) (hB : PI w B m qs) :
    Calls Try.prog 20 #[.slice A n ca, .slice B m cb] w fun e w' => e = .returned (gmR ps qs) ∧ Below w.heap.size w w' := by
  have HLA := Lib.hid hA.1
  have HLB := Lib.hid hB.1
  have HA := Lib.hid hA
  have HB := Lib.hid hB
  cases h0 : vp ps <;> cases h1 : vp qs
  case true.true =>
    by_cases hnm : n = m
    rotate_left
    · have hpq : ¬ ps.length = qs.length := by rw [HLA.out, HLB.out]; exact hnm
      have q1 : ((n : Int) == (m : Int)) = false := by simp; omega
      have q2 : ((n : Int) != (m : Int)) = true := by simp; omega
      have e1 : gmR ps qs = .tuple #[.int .i64 0, .int .i64 0, .int .i64 8] := by simp [gmR, h0, h1, hpq]
      rw [e1]
      clear e1 hA hB hpq hnm
      go_enter Try.func20, Try.ntmps20
      go_wp2_with fail
      refine (l04Two_v _ _ _ ps _ _ _ qs _ hn hm h0 h1 HA.out HB.out).mono ?_
      rintro e w' ⟨rfl, rfl⟩
      go_wp2
      go_ret3
      exact ⟨rfl, Below.refl _ _⟩

    subst hnm
    obtain ⟨⟨_, n8⟩, hp⟩ := vp_t h0
    obtain ⟨_, hq⟩ := vp_t h1
    rw [HLA.out] at n8
    have hpq : ps.length = qs.length := by rw [HLA.out, HLB.out]
    have e1 : gmR ps qs = .tuple #[.int .i64 (gmB ps qs n).1, .int .i64 (gmB ps qs n).2, .int .i64 0] := by simp only [gmR, h0, h1, hpq, if_true, Bool.and_true, HLB.out]
    rw [e1]
    have q1 : ((n : Int) == (n : Int)) = true := by simp
    have q2 : ((n : Int) != (n : Int)) = false := by simp
    have HP := Lib.hid (show Pd ps from hp)
    have HQ := Lib.hid (show Pd qs from hq)
    have n8' : n ≤ 8 := by omega
    clear e1 hA hB hpq hp hq
    go_enter Try.func20, Try.ntmps20
    go_wp2_with fail
    refine (l04Two_v _ _ _ ps _ _ _ qs _ hn hm h0 h1 HA.out HB.out).mono ?_
    rintro e w' ⟨rfl, rfl⟩
    go_wp2
    go_loopw [8, 9, 10, 11, 12] (fun b m i _ _ wr => ∃ k d : Nat, k ≤ n ∧ i = .int .i64 k ∧ b = .int .i64 (gmB ps qs k).1 ∧ m = .int .i64 (gmB ps qs k).2 ∧ wr = w.drewN d) (fun _ _ i _ _ _ => n - (intOf i).toNat)
    case atStart => exact ⟨0, 0, Nat.zero_le _, rfl, rfl, rfl, rfl⟩
    case round =>
      obtain ⟨k, d, hk, rfl, rfl, rfl, rfl⟩ := hrel
      by_cases hlt : k < n
      · obtain ⟨b1, o1, hAA, g1, g2⟩ := HA.out.at_ hlt
        obtain ⟨b2, o2, hBB, g3, g4⟩ := HB.out.at_ hlt
        subst hAA
        subst hBB
        obtain ⟨⟨p1, p2⟩, p3, p4⟩ := HP.out k (by rw [HLA.out]; exact hlt)
        obtain ⟨⟨p5, p6⟩, p7, p8⟩ := HQ.out k (by rw [HLB.out]; exact hlt)
        obtain ⟨M, hM⟩ : ∃ M, M = (gmB ps qs k).2 := ⟨_, rfl⟩
        obtain ⟨N, hN⟩ : ∃ N, N = (gmB ps qs k).1 := ⟨_, rfl⟩
        have ht := gmB_t (ps := ps) (qs := qs) (k := k)
        have hf := gmB_f (ps := ps) (qs := qs) (k := k)
        have hD : gmD ps qs k = ((ps.getD k (0, 0)).1 - (qs.getD k (0, 0)).1) * ((ps.getD k (0, 0)).1 - (qs.getD k (0, 0)).1) + ((ps.getD k (0, 0)).2 - (qs.getD k (0, 0)).2) * ((ps.getD k (0, 0)).2 - (qs.getD k (0, 0)).2) := rfl
        rw [hD] at ht hf
        obtain ⟨⟨x, y⟩, hx⟩ : ∃ p, p = ps.getD k (0, 0) := ⟨_, rfl⟩
        obtain ⟨⟨u, v⟩, hu⟩ : ∃ p, p = qs.getD k (0, 0) := ⟨_, rfl⟩
        rw [← hx] at g1 g2 p1 p2 p3 p4 ht hf
        rw [← hu] at g3 g4 p5 p6 p7 p8 ht hf
        rw [← hM] at ht hf ⊢
        rw [← hN]
        dsimp only at g1 g2 g3 g4 p1 p2 p3 p4 p5 p6 p7 p8 ht hf
        obtain ⟨m1, m1'⟩ := sqb (x - u) 1000 (by omega) (by omega)
        obtain ⟨m2, m2'⟩ := sqb (y - v) 1000 (by omega) (by omega)
        have t1 : IntKind.i64.wrap (x - u) = x - u := w64' (by omega) (by omega)
        have t2 : IntKind.i64.wrap (y - v) = y - v := w64' (by omega) (by omega)
        have t3 : IntKind.i64.wrap ((x - u) * (x - u)) = (x - u) * (x - u) := w64' (by omega) (by omega)
        have t4 : IntKind.i64.wrap ((y - v) * (y - v)) = (y - v) * (y - v) := w64' (by omega) (by omega)
        have t5 : IntKind.i64.wrap ((x - u) * (x - u) + (y - v) * (y - v)) = (x - u) * (x - u) + (y - v) * (y - v) := w64' (by omega) (by omega)
        by_cases hc : M < (x - u) * (x - u) + (y - v) * (y - v)
        · have H := Lib.hid (ht hc)
          clear ht hf hM hN hx hu hD
          go_wp2
          go_quiet (fail)
          go_wp2
          go_quiet (fail)
          go_wp2
          go_roundw
          case rel => exact ⟨k + 1, _, by omega, by go_num, by rw [H.out], by rw [H.out], rfl⟩
          case measure => simp [intOf]; omega
        · have H := Lib.hid (hf hc)
          have HM := Lib.hid hM
          have HN := Lib.hid hN
          clear ht hf hM hN hx hu hD
          go_wp2
          go_quiet (fail)
          go_wp2
          go_quiet (fail)
          go_wp2
          go_roundw
          case rel => exact ⟨k + 1, _, by omega, by go_num, by rw [H.out, HN.out], by rw [H.out, HM.out], rfl⟩
          case measure => simp [intOf]; omega
      · have e : k = n := by omega
        subst e
        go_wp2
        go_ret3
        exact ⟨rfl, bl_drewN (Below.refl _ _) _⟩

  all_goals
    have e1 : gmR ps qs = .tuple #[.int .i64 0, .int .i64 0, .int .i64 1] := by simp [gmR, h0, h1]
    rw [e1]
    clear e1 hA hB
    go_enter Try.func20, Try.ntmps20
    go_wp2_with fail
    refine (l04Two_v _ _ _ ps _ _ _ qs _ hn hm h0 h1 HA.out HB.out).mono ?_
    rintro e w' ⟨rfl, rfl⟩
    go_wp2
    go_ret3
    exact ⟨rfl, Below.refl _ _⟩

theorem GreatestMove_v (A : Option Addr) (n ca : Nat) (ps : List Pnt) (B : Option Addr) (m cb : Nat) (qs : List Pnt) (w : World) (hn : n ≤ 1048576) (hm : m ≤ 1048576) (hA : PI w A n ps) (hB : PI w B m qs) {R : Value} (hR : gmR ps qs = R) :
    Calls Try.prog 21 #[.slice A n ca, .slice B m cb] w fun e w' => e = .returned R ∧ Below w.heap.size w w' := by
  have := GreatestMove_any A n ca ps B m cb qs w hn hm hA hB
  rw [hR] at this
  exact this
theorem lGreatestMove_v (A : Option Addr) (n ca : Nat) (ps : List Pnt) (B : Option Addr) (m cb : Nat) (qs : List Pnt) (w : World) (hn : n ≤ 1048576) (hm : m ≤ 1048576) (hA : PI w A n ps) (hB : PI w B m qs) {R : Value} (hR : gmR ps qs = R) :
    Calls Try.prog 20 #[.slice A n ca, .slice B m cb] w fun e w' => e = .returned R ∧ Below w.heap.size w w' := by
  have := lGreatestMove_any A n ca ps B m cb qs w hn hm hA hB
  rw [hR] at this
  exact this
set_option maxHeartbeats 4000000 in
theorem law_GreatestMove (w : World) (A0 : Option Addr) (n0 c0 : Nat) (p0 : List Pnt) (hA0 : PI w A0 n0 p0) (hN0 : n0 ≤ maxLen) (A1 : Option Addr) (n1 c1 : Nat) (p1 : List Pnt) (hA1 : PI w A1 n1 p1) (hN1 : n1 ≤ maxLen) :
    Calls Try.prog 5 #[.slice A0 n0 c0, .slice A1 n1 c1] w fun e w' => e = .returned (.bool true) ∧ Below w.heap.size w w' := by
  obtain rfl : n0 = p0.length := hA0.1.symm
  obtain rfl : n1 = p1.length := hA1.1.symm
  by_cases hb0 : 1048576 < p0.length
  · clear hA0 hA1
    go_enter Try.func5, Try.ntmps5
    go_wp2_with fail
    refine (szP_no _ _ _ _ _ hN0 (by omega) (by omega) (by omega)).mono ?_
    rintro e w' ⟨rfl, rfl⟩
    go_wp2
    go_ret
    exact ⟨rfl, Below.refl _ _⟩
  by_cases hb1 : 1048576 < p0.length + p1.length
  · clear hA0 hA1
    go_enter Try.func5, Try.ntmps5
    go_wp2_with fail
    refine (szP_yes _ _ _ _ _ (by omega) (by omega)).mono ?_
    rintro e w' ⟨rfl, rfl⟩
    go_wp2_with fail
    refine (szP_no _ _ _ _ _ hN1 (by omega) (by omega) (by omega)).mono ?_
    rintro e w' ⟨rfl, rfl⟩
    go_wp2
    go_ret
    exact ⟨rfl, Below.refl _ _⟩
  have hm0 : p0.length ≤ 1048576 := by omega
  have hM0 : p0.length ≤ 1152921504606846976 := by omega
  have hm1 : p1.length ≤ 1048576 := by omega
  have hM1 : p1.length ≤ 1152921504606846976 := by omega
  obtain ⟨r0, r1, r2, hr⟩ := gmR_is p0 p1
  have HR := Lib.hid hr
  clear hr
  have FA0_0 := Lib.hid (AP.mk hA0)
  have FA1_0 := Lib.hid (AP.mk hA1)
  clear hA0 hA1
  go_enter Try.func5, Try.ntmps5
  go_wp2_with fail
  refine (szP_yes _ _ _ _ _ (by omega) (by omega)).mono ?_
  rintro e w' ⟨rfl, rfl⟩
  go_wp2_with fail
  refine (szP_yes _ _ _ _ _ (by omega) (by omega)).mono ?_
  rintro e w' ⟨rfl, rfl⟩
  go_wp2_with fail
  refine (toPointS_any _ _ _ p0 _ hm0 (by with_reducible first | exact FA0_0.out.pi | exact (FA0_0.out.pi).drewN _)).mono ?_
  rintro e w1 ⟨T0, cT0, rfl, own1, hb1⟩
  have M1 := Lib.hid (show Below w.heap.size w w1 from by
    repeat (first | exact Below.refl _ _ | assumption | refine bl_drewN ?_ _ | refine Below.drew ?_ | refine bl_al ?_ _ | (refine Below.setCell ?_ (by simp <;> omega) _) | refine bl_tr ?_ (by assumption)))
  have U1 := Lib.hid (M1.out)
  have Z1 := Lib.hid (show w.heap.size ≤ w1.heap.size from M1.out.size)
  have FA0_1 := Lib.hid (FA0_0.out.below M1.out)
  have FA1_1 := Lib.hid (FA1_0.out.below M1.out)
  have FT0_1 := Lib.hid (show OP w1 w.heap.size w1.heap.size T0 p0.length cT0 p0 from OP.mk own1)
  clear own1 hb1
  go_wp2_with fail
  refine (toPointS_any _ _ _ p1 _ hm1 (by with_reducible first | exact FA1_1.out.pi | exact (FA1_1.out.pi).drewN _)).mono ?_
  rintro e w2 ⟨T1, cT1, rfl, own2, hb2⟩
  have M2 := Lib.hid (show Below w1.heap.size w1 w2 from by
    repeat (first | exact Below.refl _ _ | assumption | refine bl_drewN ?_ _ | refine Below.drew ?_ | refine bl_al ?_ _ | (refine Below.setCell ?_ (by simp <;> omega) _) | refine bl_tr ?_ (by assumption)))
  have U2 := Lib.hid (bl_tr U1.out M2.out)
  have Z2 := Lib.hid (show w1.heap.size ≤ w2.heap.size from M2.out.size)
  have FA0_2 := Lib.hid (FA0_1.out.below M2.out)
  have FA1_2 := Lib.hid (FA1_1.out.below M2.out)
  have FT0_2 := Lib.hid (FT0_1.out.below M2.out)
  have FT1_2 := Lib.hid (show OP w2 w1.heap.size w2.heap.size T1 p1.length cT1 p1 from OP.mk own2)
  clear own2 hb2
  go_wp2_with fail
  refine (lGreatestMove_v _ _ _ p0 _ _ _ p1 _ hm0 hm1 (by with_reducible first | exact FT0_2.out.pi | exact (FT0_2.out.pi).drewN _) (by with_reducible first | exact FT1_2.out.pi | exact (FT1_2.out.pi).drewN _) HR.out).mono ?_
  rintro e w3 ⟨rfl, hb3⟩
  have M3 := Lib.hid (show Below w2.heap.size w2 w3 from by
    repeat (first | exact Below.refl _ _ | assumption | refine bl_drewN ?_ _ | refine Below.drew ?_ | refine bl_al ?_ _ | (refine Below.setCell ?_ (by simp <;> omega) _) | refine bl_tr ?_ (by assumption)))
  have U3 := Lib.hid (bl_tr U2.out M3.out)
  have Z3 := Lib.hid (show w2.heap.size ≤ w3.heap.size from M3.out.size)
  have FA0_3 := Lib.hid (FA0_2.out.below M3.out)
  have FA1_3 := Lib.hid (FA1_2.out.below M3.out)
  have FT0_3 := Lib.hid (FT0_2.out.below M3.out)
  have FT1_3 := Lib.hid (FT1_2.out.below M3.out)
  clear hb3
  go_wp2_with fail
  refine (toPointS_any _ _ _ p0 _ hm0 (by with_reducible first | exact FA0_3.out.pi | exact (FA0_3.out.pi).drewN _)).mono ?_
  rintro e w4 ⟨X0, cX0, rfl, own4, hb4⟩
  have M4 := Lib.hid (show Below w3.heap.size w3 w4 from by
    repeat (first | exact Below.refl _ _ | assumption | refine bl_drewN ?_ _ | refine Below.drew ?_ | refine bl_al ?_ _ | (refine Below.setCell ?_ (by simp <;> omega) _) | refine bl_tr ?_ (by assumption)))
  have U4 := Lib.hid (bl_tr U3.out M4.out)
  have Z4 := Lib.hid (show w3.heap.size ≤ w4.heap.size from M4.out.size)
  have FA0_4 := Lib.hid (FA0_3.out.below M4.out)
  have FA1_4 := Lib.hid (FA1_3.out.below M4.out)
  have FX0_4 := Lib.hid (show OP w4 w3.heap.size w4.heap.size X0 p0.length cX0 p0 from OP.mk own4)
  clear own4 hb4
  go_wp2_with fail
  refine (toPointS_any _ _ _ p1 _ hm1 (by with_reducible first | exact FA1_4.out.pi | exact (FA1_4.out.pi).drewN _)).mono ?_
  rintro e w5 ⟨X1, cX1, rfl, own5, hb5⟩
  have M5 := Lib.hid (show Below w4.heap.size w4 w5 from by
    repeat (first | exact Below.refl _ _ | assumption | refine bl_drewN ?_ _ | refine Below.drew ?_ | refine bl_al ?_ _ | (refine Below.setCell ?_ (by simp <;> omega) _) | refine bl_tr ?_ (by assumption)))
  have U5 := Lib.hid (bl_tr U4.out M5.out)
  have Z5 := Lib.hid (show w4.heap.size ≤ w5.heap.size from M5.out.size)
  have FA0_5 := Lib.hid (FA0_4.out.below M5.out)
  have FA1_5 := Lib.hid (FA1_4.out.below M5.out)
  have FX0_5 := Lib.hid (FX0_4.out.below M5.out)
  have FX1_5 := Lib.hid (show OP w5 w4.heap.size w5.heap.size X1 p1.length cX1 p1 from OP.mk own5)
  clear own5 hb5
  go_wp2_with fail
  refine (GreatestMove_v _ _ _ p0 _ _ _ p1 _ hm0 hm1 (by with_reducible first | exact FX0_5.out.pi | exact (FX0_5.out.pi).drewN _) (by with_reducible first | exact FX1_5.out.pi | exact (FX1_5.out.pi).drewN _) HR.out).mono ?_
  rintro e w6 ⟨rfl, hb6⟩
  have M6 := Lib.hid (show Below w5.heap.size w5 w6 from by
    repeat (first | exact Below.refl _ _ | assumption | refine bl_drewN ?_ _ | refine Below.drew ?_ | refine bl_al ?_ _ | (refine Below.setCell ?_ (by simp <;> omega) _) | refine bl_tr ?_ (by assumption)))
  have U6 := Lib.hid (bl_tr U5.out M6.out)
  have Z6 := Lib.hid (show w5.heap.size ≤ w6.heap.size from M6.out.size)
  have FA0_6 := Lib.hid (FA0_5.out.below M6.out)
  have FA1_6 := Lib.hid (FA1_5.out.below M6.out)
  have FX0_6 := Lib.hid (FX0_5.out.below M6.out)
  have FX1_6 := Lib.hid (FX1_5.out.below M6.out)
  clear hb6
  go_wp2_with fail
  refine (toPointS_any _ _ _ p0 _ hm0 (by with_reducible first | exact FA0_6.out.pi | exact (FA0_6.out.pi).drewN _)).mono ?_
  rintro e w7 ⟨V0, cV0, rfl, own7, hb7⟩
  have M7 := Lib.hid (show Below w6.heap.size w6 w7 from by
    repeat (first | exact Below.refl _ _ | assumption | refine bl_drewN ?_ _ | refine Below.drew ?_ | refine bl_al ?_ _ | (refine Below.setCell ?_ (by simp <;> omega) _) | refine bl_tr ?_ (by assumption)))
  have U7 := Lib.hid (bl_tr U6.out M7.out)
  have Z7 := Lib.hid (show w6.heap.size ≤ w7.heap.size from M7.out.size)
  have FA0_7 := Lib.hid (FA0_6.out.below M7.out)
  have FA1_7 := Lib.hid (FA1_6.out.below M7.out)
  have FX0_7 := Lib.hid (FX0_6.out.below M7.out)
  have FX1_7 := Lib.hid (FX1_6.out.below M7.out)
  have FV0_7 := Lib.hid (show OP w7 w6.heap.size w7.heap.size V0 p0.length cV0 p0 from OP.mk own7)
  clear own7 hb7
  go_wp2_with fail
  refine (eqPointS_same _ _ _ _ _ (p0) _ hM0 (by with_reducible first | exact FX0_7.out.pi | exact (FX0_7.out.pi).drewN _) (by with_reducible first | exact FV0_7.out.pi | exact (FV0_7.out.pi).drewN _)).mono ?_
  rintro e w8 ⟨rfl, hb8⟩
  have M8 := Lib.hid (show Below w7.heap.size w7 w8 from by
    repeat (first | exact Below.refl _ _ | assumption | refine bl_drewN ?_ _ | refine Below.drew ?_ | refine bl_al ?_ _ | (refine Below.setCell ?_ (by simp <;> omega) _) | refine bl_tr ?_ (by assumption)))
  have U8 := Lib.hid (bl_tr U7.out M8.out)
  have Z8 := Lib.hid (show w7.heap.size ≤ w8.heap.size from M8.out.size)
  have FA0_8 := Lib.hid (FA0_7.out.below M8.out)
  have FA1_8 := Lib.hid (FA1_7.out.below M8.out)
  have FX0_8 := Lib.hid (FX0_7.out.below M8.out)
  have FX1_8 := Lib.hid (FX1_7.out.below M8.out)
  have FV0_8 := Lib.hid (FV0_7.out.below M8.out)
  clear hb8
  go_wp2_with fail
  refine (toPointS_any _ _ _ p1 _ hm1 (by with_reducible first | exact FA1_8.out.pi | exact (FA1_8.out.pi).drewN _)).mono ?_
  rintro e w9 ⟨V1, cV1, rfl, own9, hb9⟩
  have M9 := Lib.hid (show Below w8.heap.size w8 w9 from by
    repeat (first | exact Below.refl _ _ | assumption | refine bl_drewN ?_ _ | refine Below.drew ?_ | refine bl_al ?_ _ | (refine Below.setCell ?_ (by simp <;> omega) _) | refine bl_tr ?_ (by assumption)))
  have U9 := Lib.hid (bl_tr U8.out M9.out)
  have Z9 := Lib.hid (show w8.heap.size ≤ w9.heap.size from M9.out.size)
  have FA0_9 := Lib.hid (FA0_8.out.below M9.out)
  have FA1_9 := Lib.hid (FA1_8.out.below M9.out)
  have FX0_9 := Lib.hid (FX0_8.out.below M9.out)
  have FX1_9 := Lib.hid (FX1_8.out.below M9.out)
  have FV1_9 := Lib.hid (show OP w9 w8.heap.size w9.heap.size V1 p1.length cV1 p1 from OP.mk own9)
  clear own9 hb9
  go_wp2_with fail
  refine (eqPointS_same _ _ _ _ _ (p1) _ hM1 (by with_reducible first | exact FX1_9.out.pi | exact (FX1_9.out.pi).drewN _) (by with_reducible first | exact FV1_9.out.pi | exact (FV1_9.out.pi).drewN _)).mono ?_
  rintro e w10 ⟨rfl, hb10⟩
  have M10 := Lib.hid (show Below w9.heap.size w9 w10 from by
    repeat (first | exact Below.refl _ _ | assumption | refine bl_drewN ?_ _ | refine Below.drew ?_ | refine bl_al ?_ _ | (refine Below.setCell ?_ (by simp <;> omega) _) | refine bl_tr ?_ (by assumption)))
  have U10 := Lib.hid (bl_tr U9.out M10.out)
  have Z10 := Lib.hid (show w9.heap.size ≤ w10.heap.size from M10.out.size)
  have FA0_10 := Lib.hid (FA0_9.out.below M10.out)
  have FA1_10 := Lib.hid (FA1_9.out.below M10.out)
  have FX0_10 := Lib.hid (FX0_9.out.below M10.out)
  have FX1_10 := Lib.hid (FX1_9.out.below M10.out)
  have FV1_10 := Lib.hid (FV1_9.out.below M10.out)
  clear hb10
  go_wp2_with fail
  go_ret
  exact ⟨rfl, by first | exact U10.out | exact bl_drewN U10.out _⟩
end Go.Proofs.Ytofjohkhhomldaa

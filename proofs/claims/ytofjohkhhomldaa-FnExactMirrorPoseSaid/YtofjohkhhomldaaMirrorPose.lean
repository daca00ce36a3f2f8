/-
  PROVED HERE: the walk of MirrorPose: the program and the reference agree. CONDITIONS: the arguments' cells lie in the world.
-/
import Derived.Test.YtofjohkhhomldaaPoseN
namespace Go.Proofs.Ytofjohkhhomldaa
open Go.RowKit

/-- The first k mirrored joints. -/
def miI (ps : List Pnt) (y : Int) (k : Nat) : List Pnt := (List.range k).map fun (j : Nat) => (y - (ps.getD j (0, 0)).1, (ps.getD j (0, 0)).2)
theorem miI_len (ps : List Pnt) (y : Int) (k : Nat) : (miI ps y k).length = k := by simp [miI]
theorem miI_succ (ps : List Pnt) (y : Int) (k : Nat) : miI ps y (k + 1) = miI ps y k ++ [(y - (ps.getD k (0, 0)).1, (ps.getD k (0, 0)).2)] := by simp [miI, List.range_succ]
/-- Do all joints lie within the width? -/
def miB (ps : List Pnt) (y : Int) : Bool := ps.all fun p => decide (p.1 ≤ y)
def MiTo (ps : List Pnt) (y : Int) (k : Nat) : Prop := ∀ j, j < k → (ps.getD j (0, 0)).1 ≤ y
theorem mi_zero (ps : List Pnt) (y : Int) : MiTo ps y 0 := fun _ h => absurd h (by omega)
theorem mi_succ {ps : List Pnt} {y : Int} {k : Nat} (h : MiTo ps y k) (hk : (ps.getD k (0, 0)).1 ≤ y) : MiTo ps y (k + 1) := fun j hj => by
  by_cases e : j = k
  · subst e; exact hk
  · exact h j (by omega)
theorem mi_t {ps : List Pnt} {y : Int} {n : Nat} (hn : ps.length = n) (h : MiTo ps y n) : miB ps y = true := by
  unfold miB
  rw [List.all_eq_true]
  intro x hx
  obtain ⟨j, hj, rfl⟩ := List.mem_iff_getElem.1 hx
  have := h j (by omega)
  simpa [List.getD, hj] using this
theorem mi_f {ps : List Pnt} {y : Int} {k : Nat} (hk : k < ps.length) (h : ¬ (ps.getD k (0, 0)).1 ≤ y) : miB ps y = false := by
  unfold miB
  rw [List.all_eq_false]
  exact ⟨ps[k], List.getElem_mem hk, by rw [show ps[k] = ps.getD k (0, 0) by simp [List.getD, hk]]; simpa using h⟩
def miK (ps : List Pnt) (y : Int) : Int := if vp ps then (if inB y 0 1000 then (if miB ps y then 0 else 6) else 2) else 1
def miX (ps : List Pnt) (y : Int) : List Pnt := if vp ps then (if inB y 0 1000 then (if miB ps y then miI ps y ps.length else []) else []) else []
theorem miX_le (ps : List Pnt) (y : Int) : (miX ps y).length ≤ 1000000 := by
  unfold miX
  split
  · rename_i h
    have := vp_t h
    repeat' split
    all_goals first | (rw [miI_len]; omega) | simp
  · simp
theorem cell_two_new1 (w : World) (o : Obj) (a b : Value) (t : TypeId) : ∀ j u, [a, b][j]? = some u → ((w.alloc o).alloc (.cells #[a, b] t)).cell? ((⟨w.heap.size + 1, 0, none⟩ : Addr).add j) = some u := fun j u h => by
  have := cell_two_new (w.alloc o) a b t 0 j u h
  simpa using this
set_option maxHeartbeats 4000000 in
theorem MirrorPose_v (A : Option Addr) (n c : Nat) (ps : List Pnt) (y : Int) (w : World) (hn : n ≤ 1048576) (hA : PI w A n ps) :
    Calls Try.prog 23 #[.slice A n c, .int .i64 y] w (PlC w.heap.size (miX ps y) (miK ps y) w) := by
  obtain ⟨i0, hi, hz0, hz1, hz2⟩ := info_parts info_Point
  have HLA := Lib.hid hA.1
  have HA := Lib.hid hA
  clear hA
  cases h0 : vp ps
  case false =>
    have e1 : miX ps y = [] := by simp [miX, h0]
    have e2 : miK ps y = 1 := by simp [miK, h0]
    rw [e1, e2]
    clear e1 e2
    go_enter Try.func23, Try.ntmps23
    go_wp2_with fail
    refine (ValidPose_any _ _ _ ps _ (by omega) HA.out).mono ?_
    rintro e w1 ⟨rfl, hb1⟩
    have HA1 := Lib.hid (HA.out.below hb1)
    have HW1 := Lib.hid hb1
    clear hb1
    go_wp2_with (first | (go_at_call 55; refine (within_any _ _ _ _).mono ?_; rintro e w' ⟨rfl, rfl⟩) | (go_at_call 57; refine (l00In_any _ _ _ _).mono ?_; rintro e w' ⟨rfl, rfl⟩) | go_in)
    go_ret2
    exact PlC.none_ HW1.out
  cases h1 : inB y 0 1000
  case false =>
    have e1 : miX ps y = [] := by simp [miX, h0, h1]
    have e2 : miK ps y = 2 := by simp [miK, h0, h1]
    rw [e1, e2]
    clear e1 e2
    go_enter Try.func23, Try.ntmps23
    go_wp2_with fail
    refine (ValidPose_any _ _ _ ps _ (by omega) HA.out).mono ?_
    rintro e w1 ⟨rfl, hb1⟩
    have HA1 := Lib.hid (HA.out.below hb1)
    have HW1 := Lib.hid hb1
    clear hb1
    go_wp2_with (first | (go_at_call 55; refine (within_any _ _ _ _).mono ?_; rintro e w' ⟨rfl, rfl⟩) | (go_at_call 57; refine (l00In_any _ _ _ _).mono ?_; rintro e w' ⟨rfl, rfl⟩) | go_in)
    go_ret2
    exact PlC.none_ HW1.out
  obtain ⟨⟨_, n8⟩, hp⟩ := vp_t h0
  obtain ⟨y1, y2⟩ := inB_t h1
  rw [HLA.out] at n8
  have HP := Lib.hid (show Pd ps from hp)
  have n8' : n ≤ 8 := by omega
  have e1 : miX ps y = if miB ps y then miI ps y n else [] := by simp [miX, h0, h1, HLA.out]
  have e2 : miK ps y = if miB ps y then 0 else 6 := by simp [miK, h0, h1]
  have E1 := Lib.hid e1
  have E2 := Lib.hid e2
  clear e1 e2 hp
  go_enter Try.func23, Try.ntmps23
  go_wp2_with fail
  refine (ValidPose_any _ _ _ ps _ (by omega) HA.out).mono ?_
  rintro e w1 ⟨rfl, hb1⟩
  have HA1 := Lib.hid (HA.out.below hb1)
  have HW1 := Lib.hid hb1
  clear hb1
  go_wp2_with (first | (go_at_call 55; refine (within_any _ _ _ _).mono ?_; rintro e w' ⟨rfl, rfl⟩) | (go_at_call 57; refine (l00In_any _ _ _ _).mono ?_; rintro e w' ⟨rfl, rfl⟩) | go_in)
  have hz1' := HW1.out.size
  go_loopw [6, 8, 20] (fun v _ i wr => ∃ k : Nat, k ≤ n ∧ i = .int .i64 k ∧ MiTo ps y k ∧ wr.ownsRow w.heap.size 61 2 v k (flat (miI ps y k)) ∧ Below w.heap.size w wr) (fun _ _ i _ => n - (intOf i).toNat)
  case atStart => exact ⟨0, Nat.zero_le _, rfl, mi_zero _ _, World.ownsRow_lit w1 #[] 0 hz1' (Nat.zero_le _) (by simp), HW1.out.alloc hz1' _⟩
  case round =>
    obtain ⟨k, hk, rfl, hm, ho, hb⟩ := hrel
    have HM := Lib.hid hm
    have hz := hb.size
    have HO := Lib.hid ho
    have HBW := Lib.hid hb
    clear ho hb hm
    by_cases hlt : k < n
    · obtain ⟨b1, o1, hAA, g1, g2⟩ := (HA.out.below HBW.out).at_ hlt
      have hne : u6.ownBlock ≠ some b1 := fun e => by
        have := (HO.out.lt _ e).1
        have := HA.out.lt (by omega) b1 o1 hAA
        omega
      subst hAA
      have hb1lt : b1 < wr.heap.size := World.block_lt_of_cell? wr _ g1
      obtain ⟨⟨p1, p2⟩, p3, p4⟩ := HP.out k (by rw [HLA.out]; exact hlt)
      have hs := miI_succ ps y k
      have hm1 := mi_succ HM.out (ps := ps) (y := y) (k := k)
      have hm2 := mi_f (ps := ps) (y := y) (k := k) (by rw [HLA.out]; exact hlt)
      obtain ⟨⟨x, z⟩, hx⟩ : ∃ p, p = ps.getD k (0, 0) := ⟨_, rfl⟩
      rw [← hx] at g1 g2 p1 p2 p3 p4 hs hm1 hm2
      dsimp only at g1 g2 p1 p2 p3 p4 hs hm1 hm2
      have HS := Lib.hid hs
      clear hx hs
      have t1 : IntKind.i64.wrap (y - x) = y - x := w64' (by omega) (by omega)
      by_cases hc : x ≤ y
      · have HM1 := Lib.hid (hm1 hc)
        clear hm1 hm2
        have hcn : ¬ y < x := by omega
        go_wp2_with (at_builtin; refine wpList_append_own _ rfl _ _ 25 rfl w.heap.size 61 i0 (.agg #[.int .i64 0, .int .i64 0]) 2 16 Try.underlying25 hi hz0 hz1 hz2 rfl (by decide) _ _ _ rfl ((HO.out.alloc (.cells #[.int .i64 x, .int .i64 z] 61)).alloc (.cells #[.int .i64 (y - x), .int .i64 z] 61)) ⟨wr.heap.size + 1, 0, none⟩ 1 1 [.int .i64 (y - x), .int .i64 z] rfl rfl (cell_two_new1 _ _ _ _ _) (two_int _ _ _ _) (by unfold maxLen; omega) (by omega) (by simp; omega) ?_; intro v' w1 hown' hgrow _)
        have hb2 := ((HBW.out.alloc hz (.cells #[.int .i64 x, .int .i64 z] 61)).alloc (by simp; omega) (.cells #[.int .i64 (y - x), .int .i64 z] 61)).grown hgrow (by simp; omega) (fun j hj => (HO.out.lt j hj).1)
        go_roundw
        case rel => exact ⟨k + 1, by omega, by go_num, HM1.out, by rw [HS.out, flat_app, flat_one]; exact hown', hb2⟩
        case measure => simp [intOf]; omega
      · have HM2 := Lib.hid (hm2 hc)
        clear hm1 hm2
        have hcn : y < x := by omega
        go_wp2
        go_ret2
        rw [E1.out, E2.out, HM2.out]
        exact PlC.none_ (bl_al HBW.out _)
    · have e : k = n := by omega
      subst e
      have HM3 := Lib.hid (mi_t HLA.out HM.out)
      go_wp2
      go_ret2
      rw [E1.out, E2.out, HM3.out]
      obtain ⟨A1, c1, q1, q2, q3⟩ := PlR.mk (miI_len _ _ _) HO.out HBW.out
      simp only [Ending.returned.injEq] at q1
      rw [q1]
      exact ⟨A1, c1, rfl, q2, q3⟩
set_option maxHeartbeats 4000000 in
theorem lMirrorPose_v (A : Option Addr) (n c : Nat) (ps : List Pnt) (y : Int) (w : World) (hn : n ≤ 1048576) (hA : PI w A n ps) :
    Calls Try.prog 22 #[.slice A n c, .int .i64 y] w (PlC w.heap.size (miX ps y) (miK ps y) w) := by
  obtain ⟨i0, hi, hz0, hz1, hz2⟩ := info_parts info_Point
  have HLA := Lib.hid hA.1
  have HA := Lib.hid hA
  clear hA
  cases h0 : vp ps
  case false =>
    have e1 : miX ps y = [] := by simp [miX, h0]
    have e2 : miK ps y = 1 := by simp [miK, h0]
    rw [e1, e2]
    clear e1 e2
    go_enter Try.func22, Try.ntmps22
    go_wp2_with fail
    refine (l04Ok_any _ _ _ ps _ (by omega) HA.out).mono ?_
    rintro e w' ⟨rfl, rfl⟩
    have HA1 := Lib.hid HA.out
    have HW1 := Lib.hid (Below.refl w.heap.size w)
    go_wp2_with (first | (go_at_call 55; refine (within_any _ _ _ _).mono ?_; rintro e w' ⟨rfl, rfl⟩) | (go_at_call 57; refine (l00In_any _ _ _ _).mono ?_; rintro e w' ⟨rfl, rfl⟩) | go_in)
    go_ret2
    exact PlC.none_ HW1.out
  cases h1 : inB y 0 1000
  case false =>
    have e1 : miX ps y = [] := by simp [miX, h0, h1]
    have e2 : miK ps y = 2 := by simp [miK, h0, h1]
    rw [e1, e2]
    clear e1 e2
    go_enter Try.func22, Try.ntmps22
    go_wp2_with fail
    refine (l04Ok_any _ _ _ ps _ (by omega) HA.out).mono ?_
    rintro e w' ⟨rfl, rfl⟩
    have HA1 := Lib.hid HA.out
    have HW1 := Lib.hid (Below.refl w.heap.size w)
    go_wp2_with (first | (go_at_call 55; refine (within_any _ _ _ _).mono ?_; rintro e w' ⟨rfl, rfl⟩) | (go_at_call 57; refine (l00In_any _ _ _ _).mono ?_; rintro e w' ⟨rfl, rfl⟩) | go_in)
    go_ret2
    exact PlC.none_ HW1.out
  obtain ⟨⟨_, n8⟩, hp⟩ := vp_t h0
  obtain ⟨y1, y2⟩ := inB_t h1
  rw [HLA.out] at n8
  have HP := Lib.hid (show Pd ps from hp)
  have n8' : n ≤ 8 := by omega
  have e1 : miX ps y = if miB ps y then miI ps y n else [] := by simp [miX, h0, h1, HLA.out]
  have e2 : miK ps y = if miB ps y then 0 else 6 := by simp [miK, h0, h1]
  have E1 := Lib.hid e1
  have E2 := Lib.hid e2
  clear e1 e2 hp
  go_enter Try.func22, Try.ntmps22
  go_wp2_with fail
  refine (l04Ok_any _ _ _ ps _ (by omega) HA.out).mono ?_
  rintro e w' ⟨rfl, rfl⟩
  have HA1 := Lib.hid HA.out
  have HW1 := Lib.hid (Below.refl w.heap.size w)
  go_wp2_with (first | (go_at_call 55; refine (within_any _ _ _ _).mono ?_; rintro e w' ⟨rfl, rfl⟩) | (go_at_call 57; refine (l00In_any _ _ _ _).mono ?_; rintro e w' ⟨rfl, rfl⟩) | go_in)
  have hz1' := HW1.out.size
  go_loopw [6, 7] (fun v i wr => ∃ k : Nat, k ≤ n ∧ i = .int .i64 k ∧ MiTo ps y k ∧ wr.ownsRow w.heap.size 61 2 v k (flat (miI ps y k)) ∧ Below w.heap.size w wr) (fun _ i _ => n - (intOf i).toNat)
  case atStart => exact ⟨0, Nat.zero_le _, rfl, mi_zero _ _, World.ownsRow_lit w #[] 0 hz1' (Nat.zero_le _) (by simp), HW1.out.alloc hz1' _⟩
  case round =>
    obtain ⟨k, hk, rfl, hm, ho, hb⟩ := hrel
    have HM := Lib.hid hm
    have hz := hb.size
    have HO := Lib.hid ho
    have HBW := Lib.hid hb
    clear ho hb hm
    by_cases hlt : k < n
    · obtain ⟨b1, o1, hAA, g1, g2⟩ := (HA.out.below HBW.out).at_ hlt
      have hne : u6.ownBlock ≠ some b1 := fun e => by
        have := (HO.out.lt _ e).1
        have := HA.out.lt (by omega) b1 o1 hAA
        omega
      subst hAA
      have hb1lt : b1 < wr.heap.size := World.block_lt_of_cell? wr _ g1
      obtain ⟨⟨p1, p2⟩, p3, p4⟩ := HP.out k (by rw [HLA.out]; exact hlt)
      have hs := miI_succ ps y k
      have hm1 := mi_succ HM.out (ps := ps) (y := y) (k := k)
      have hm2 := mi_f (ps := ps) (y := y) (k := k) (by rw [HLA.out]; exact hlt)
      obtain ⟨⟨x, z⟩, hx⟩ : ∃ p, p = ps.getD k (0, 0) := ⟨_, rfl⟩
      rw [← hx] at g1 g2 p1 p2 p3 p4 hs hm1 hm2
      dsimp only at g1 g2 p1 p2 p3 p4 hs hm1 hm2
      have HS := Lib.hid hs
      clear hx hs
      have t1 : IntKind.i64.wrap (y - x) = y - x := w64' (by omega) (by omega)
      by_cases hc : x ≤ y
      · have HM1 := Lib.hid (hm1 hc)
        clear hm1 hm2
        have hcn : ¬ y < x := by omega
        go_wp2
        go_region_held3 (fun w' => w'.cell? ⟨b1, o1 + k * 2, none⟩ = some (.int .i64 x) ∧ w'.cell? ⟨b1, o1 + k * 2 + 1, none⟩ = some (.int .i64 z))
          (first | go_keep | ((try dsimp only); rw [hgrow.cell_far ⟨b1, o1 + k * 2, none⟩ (by simp; omega) (Ne.symm hne), hgrow.cell_far ⟨b1, o1 + k * 2 + 1, none⟩ (by simp; omega) (Ne.symm hne)]; assumption))
          (first | ((refine step_append_lies _ (by rfl) _ _ _ (by rfl) w.heap.size 61 i0 (.agg #[.int .i64 0, .int .i64 0]) 2 16 Try.underlying25 hi hz0 hz1 hz2 rfl (by decide) u6 k (flat (miI ps y k)) (by rfl) ((HO.out.alloc _).drew) ⟨wr.heap.size, 0, none⟩ 1 1 [.int .i64 (y - x), .int .i64 z] (by rfl) (by rfl) (fun j u h => cell_two_new wr _ _ _ 1 j u h) (two_int _ _ _ _) (by omega) (by unfold maxLen; omega) (by omega) (by simp; omega) (wr.heap.size + 1) (by simp) ?_; intro gg cap w1 hown' hgrow hat hgl)))
        go_wp2
        have hb2 := (HBW.out.alloc hz (.cells #[.int .i64 (y - x), .int .i64 z] 61)).drew.grown hgrow (by simp; omega) (fun j hj => (HO.out.lt j hj).1)
        go_roundw
        case rel => exact ⟨k + 1, by omega, by go_num, HM1.out, by rw [HS.out, flat_app, flat_one]; exact hown', hb2⟩
        case measure => simp [intOf]; omega
      · have HM2 := Lib.hid (hm2 hc)
        clear hm1 hm2
        have hcn : y < x := by omega
        go_wp2
        go_ret2
        rw [E1.out, E2.out, HM2.out]
        exact PlC.none_ (HBW.out)
    · have e : k = n := by omega
      subst e
      have HM3 := Lib.hid (mi_t HLA.out HM.out)
      go_wp2
      go_ret2
      rw [E1.out, E2.out, HM3.out]
      obtain ⟨A1, c1, q1, q2, q3⟩ := PlR.mk (miI_len _ _ _) HO.out HBW.out
      simp only [Ending.returned.injEq] at q1
      rw [q1]
      exact ⟨A1, c1, rfl, q2, q3⟩
set_option maxHeartbeats 4000000 in
theorem law_MirrorPose (w : World) (A0 : Option Addr) (n0 c0 : Nat) (p0 : List Pnt) (hA0 : PI w A0 n0 p0) (hN0 : n0 ≤ maxLen) (y : Int) (_wy : (Lit.int .i64 y).wf = true) :
    Calls Try.prog 6 #[.slice A0 n0 c0, .int .i64 y] w fun e w' => e = .returned (.bool true) ∧ Below w.heap.size w w' := by
  obtain rfl : n0 = p0.length := hA0.1.symm
  by_cases hb0 : 1048576 < p0.length
  · clear hA0
    go_enter Try.func6, Try.ntmps6
    go_wp2_with fail
    refine (szP_no _ _ _ _ _ hN0 (by omega) (by omega) (by omega)).mono ?_
    rintro e w' ⟨rfl, rfl⟩
    go_wp2
    go_ret
    exact ⟨rfl, Below.refl _ _⟩
  have hm0 : p0.length ≤ 1048576 := by omega
  have hM0 : p0.length ≤ 1152921504606846976 := by omega
  have hr := miX_le p0 y
  have hR : (miX p0 y).length ≤ 1152921504606846976 := by omega
  have FA0_0 := Lib.hid (AP.mk hA0)
  clear hA0
  go_enter Try.func6, Try.ntmps6
  go_wp2_with fail
  refine (szP_yes _ _ _ _ _ (by omega) (by omega)).mono ?_
  rintro e w' ⟨rfl, rfl⟩
  go_wp2_with fail
  refine (toPointS_any _ _ _ p0 _ hm0 (by with_reducible first | exact FA0_0.out.pi | exact (FA0_0.out.pi).drewN _)).mono ?_
  rintro e w1 ⟨T0, cT0, rfl, own1, hb1⟩
  have M1 := Lib.hid (show Below w.heap.size w w1 from by
    repeat (first | exact Below.refl _ _ | assumption | refine bl_drewN ?_ _ | refine Below.drew ?_ | refine bl_al ?_ _ | (refine Below.setCell ?_ (by simp <;> omega) _) | refine bl_tr ?_ (by assumption)))
  have U1 := Lib.hid (M1.out)
  have Z1 := Lib.hid (show w.heap.size ≤ w1.heap.size from M1.out.size)
  have FA0_1 := Lib.hid (FA0_0.out.below M1.out)
  have FT0_1 := Lib.hid (show OP w1 w.heap.size w1.heap.size T0 p0.length cT0 p0 from OP.mk own1)
  clear own1 hb1
  go_wp2_with fail
  refine (lMirrorPose_v _ _ _ p0 y _ hm0 (by with_reducible first | exact FT0_1.out.pi | exact (FT0_1.out.pi).drewN _)).mono ?_
  rintro e w2 ⟨W0, cW0, rfl, own2, hb2⟩
  have M2 := Lib.hid (show Below w1.heap.size w1 w2 from by
    repeat (first | exact Below.refl _ _ | assumption | refine bl_drewN ?_ _ | refine Below.drew ?_ | refine bl_al ?_ _ | (refine Below.setCell ?_ (by simp <;> omega) _) | refine bl_tr ?_ (by assumption)))
  have U2 := Lib.hid (bl_tr U1.out M2.out)
  have Z2 := Lib.hid (show w1.heap.size ≤ w2.heap.size from M2.out.size)
  have FA0_2 := Lib.hid (FA0_1.out.below M2.out)
  have FT0_2 := Lib.hid (FT0_1.out.below M2.out)
  have FW0_2 := Lib.hid (show OP w2 w1.heap.size w2.heap.size W0 (miX p0 y).length cW0 (miX p0 y) from OP.mk own2)
  clear own2 hb2
  go_wp2_with fail
  refine (toPointS_any _ _ _ p0 _ hm0 (by with_reducible first | exact FA0_2.out.pi | exact (FA0_2.out.pi).drewN _)).mono ?_
  rintro e w3 ⟨X0, cX0, rfl, own3, hb3⟩
  have M3 := Lib.hid (show Below w2.heap.size w2 w3 from by
    repeat (first | exact Below.refl _ _ | assumption | refine bl_drewN ?_ _ | refine Below.drew ?_ | refine bl_al ?_ _ | (refine Below.setCell ?_ (by simp <;> omega) _) | refine bl_tr ?_ (by assumption)))
  have U3 := Lib.hid (bl_tr U2.out M3.out)
  have Z3 := Lib.hid (show w2.heap.size ≤ w3.heap.size from M3.out.size)
  have FA0_3 := Lib.hid (FA0_2.out.below M3.out)
  have FW0_3 := Lib.hid (FW0_2.out.below M3.out)
  have FX0_3 := Lib.hid (show OP w3 w2.heap.size w3.heap.size X0 p0.length cX0 p0 from OP.mk own3)
  clear own3 hb3
  go_wp2_with fail
  refine (MirrorPose_v _ _ _ p0 y _ hm0 (by with_reducible first | exact FX0_3.out.pi | exact (FX0_3.out.pi).drewN _)).mono ?_
  rintro e w4 ⟨G0, cG0, rfl, own4, hb4⟩
  have M4 := Lib.hid (show Below w3.heap.size w3 w4 from by
    repeat (first | exact Below.refl _ _ | assumption | refine bl_drewN ?_ _ | refine Below.drew ?_ | refine bl_al ?_ _ | (refine Below.setCell ?_ (by simp <;> omega) _) | refine bl_tr ?_ (by assumption)))
  have U4 := Lib.hid (bl_tr U3.out M4.out)
  have Z4 := Lib.hid (show w3.heap.size ≤ w4.heap.size from M4.out.size)
  have FA0_4 := Lib.hid (FA0_3.out.below M4.out)
  have FW0_4 := Lib.hid (FW0_3.out.below M4.out)
  have FX0_4 := Lib.hid (FX0_3.out.below M4.out)
  have FG0_4 := Lib.hid (show OP w4 w3.heap.size w4.heap.size G0 (miX p0 y).length cG0 (miX p0 y) from OP.mk own4)
  clear own4 hb4
  go_wp2_with fail
  refine (eqPointS_same _ _ _ _ _ (miX p0 y) _ hR (by with_reducible first | exact FG0_4.out.pi | exact (FG0_4.out.pi).drewN _) (by with_reducible first | exact FW0_4.out.pi | exact (FW0_4.out.pi).drewN _)).mono ?_
  rintro e w5 ⟨rfl, hb5⟩
  have M5 := Lib.hid (show Below w4.heap.size w4 w5 from by
    repeat (first | exact Below.refl _ _ | assumption | refine bl_drewN ?_ _ | refine Below.drew ?_ | refine bl_al ?_ _ | (refine Below.setCell ?_ (by simp <;> omega) _) | refine bl_tr ?_ (by assumption)))
  have U5 := Lib.hid (bl_tr U4.out M5.out)
  have Z5 := Lib.hid (show w4.heap.size ≤ w5.heap.size from M5.out.size)
  have FA0_5 := Lib.hid (FA0_4.out.below M5.out)
  have FW0_5 := Lib.hid (FW0_4.out.below M5.out)
  have FX0_5 := Lib.hid (FX0_4.out.below M5.out)
  have FG0_5 := Lib.hid (FG0_4.out.below M5.out)
  clear hb5
  go_wp2_with fail
  refine (toPointS_any _ _ _ p0 _ hm0 (by with_reducible first | exact FA0_5.out.pi | exact (FA0_5.out.pi).drewN _)).mono ?_
  rintro e w6 ⟨V0, cV0, rfl, own6, hb6⟩
  have M6 := Lib.hid (show Below w5.heap.size w5 w6 from by
    repeat (first | exact Below.refl _ _ | assumption | refine bl_drewN ?_ _ | refine Below.drew ?_ | refine bl_al ?_ _ | (refine Below.setCell ?_ (by simp <;> omega) _) | refine bl_tr ?_ (by assumption)))
  have U6 := Lib.hid (bl_tr U5.out M6.out)
  have Z6 := Lib.hid (show w5.heap.size ≤ w6.heap.size from M6.out.size)
  have FA0_6 := Lib.hid (FA0_5.out.below M6.out)
  have FW0_6 := Lib.hid (FW0_5.out.below M6.out)
  have FX0_6 := Lib.hid (FX0_5.out.below M6.out)
  have FG0_6 := Lib.hid (FG0_5.out.below M6.out)
  have FV0_6 := Lib.hid (show OP w6 w5.heap.size w6.heap.size V0 p0.length cV0 p0 from OP.mk own6)
  clear own6 hb6
  go_wp2_with fail
  refine (eqPointS_same _ _ _ _ _ (p0) _ hM0 (by with_reducible first | exact FX0_6.out.pi | exact (FX0_6.out.pi).drewN _) (by with_reducible first | exact FV0_6.out.pi | exact (FV0_6.out.pi).drewN _)).mono ?_
  rintro e w7 ⟨rfl, hb7⟩
  have M7 := Lib.hid (show Below w6.heap.size w6 w7 from by
    repeat (first | exact Below.refl _ _ | assumption | refine bl_drewN ?_ _ | refine Below.drew ?_ | refine bl_al ?_ _ | (refine Below.setCell ?_ (by simp <;> omega) _) | refine bl_tr ?_ (by assumption)))
  have U7 := Lib.hid (bl_tr U6.out M7.out)
  have Z7 := Lib.hid (show w6.heap.size ≤ w7.heap.size from M7.out.size)
  have FA0_7 := Lib.hid (FA0_6.out.below M7.out)
  have FW0_7 := Lib.hid (FW0_6.out.below M7.out)
  have FX0_7 := Lib.hid (FX0_6.out.below M7.out)
  have FG0_7 := Lib.hid (FG0_6.out.below M7.out)
  have FV0_7 := Lib.hid (FV0_6.out.below M7.out)
  clear hb7
  have kp8 : (0 : Int) ≤ 1 := by omega
  have kq8 : (1 : Int) ≤ 1152921504606846976 := by omega
  go_wp2_with fail
  refine (markPointS_any _ _ _ _ _ (1) _ hM0 kp8 kq8 (by with_reducible first | exact FX0_7.out.own | exact own_drewN FX0_7.out.own _)).mono ?_
  rintro e w8 ⟨rfl, own8, hg8⟩
  have T8 := Lib.hid (show Touch w2.heap.size w3.heap.size w7 w8 from by first | exact Touch.of_grown hg8 (fun k hk => ⟨(FX0_7.out.1.lt k hk).1, FX0_7.out.2 k hk⟩) | exact (Touch.of_grown hg8 (fun k hk => ⟨(FX0_7.out.1.lt k hk).1, FX0_7.out.2 k hk⟩)).drewN)
  have Z8 := Lib.hid (show w7.heap.size ≤ w8.heap.size from T8.out.size)
  have U8 := Lib.hid (T8.out.below U7.out (Nat.le_trans Z1.out Z2.out) (Nat.le_trans (Nat.le_trans (Nat.le_trans (Nat.le_trans (Nat.le_trans (Nat.le_trans Z1.out Z2.out) Z3.out) Z4.out) Z5.out) Z6.out) Z7.out))
  have FA0_8 := Lib.hid (FA0_7.out.touch T8.out (Nat.le_trans Z1.out Z2.out))
  have FW0_8 := Lib.hid (FW0_7.out.touch T8.out (.inl (Nat.le_refl _)))
  have FG0_8 := Lib.hid (FG0_7.out.touch T8.out (.inr (Nat.le_refl _)))
  clear own8 hg8
  have kr : (0 : Int) ≤ 1 + (p0.length * 2 : Nat) := by omega
  go_wp2_with fail
  refine (eqPointS_same _ _ _ _ _ (miX p0 y) _ hR (by with_reducible first | exact FG0_8.out.pi | exact (FG0_8.out.pi).drewN _) (by with_reducible first | exact FW0_8.out.pi | exact (FW0_8.out.pi).drewN _)).mono ?_
  rintro e w9 ⟨rfl, hb9⟩
  have M9 := Lib.hid (show Below w8.heap.size w8 w9 from by
    repeat (first | exact Below.refl _ _ | assumption | refine bl_drewN ?_ _ | refine Below.drew ?_ | refine bl_al ?_ _ | (refine Below.setCell ?_ (by simp <;> omega) _) | refine bl_tr ?_ (by assumption)))
  have U9 := Lib.hid (bl_tr U8.out M9.out)
  have Z9 := Lib.hid (show w8.heap.size ≤ w9.heap.size from M9.out.size)
  have FA0_9 := Lib.hid (FA0_8.out.below M9.out)
  have FW0_9 := Lib.hid (FW0_8.out.below M9.out)
  have FG0_9 := Lib.hid (FG0_8.out.below M9.out)
  clear hb9
  have kp10 : (0 : Int) ≤ 1 := by omega
  have kq10 : (1 : Int) ≤ 1152921504606846976 := by omega
  go_wp2_with fail
  refine (markPointS_any _ _ _ _ _ (1) _ hR kp10 kq10 (by with_reducible first | exact FG0_9.out.own | exact own_drewN FG0_9.out.own _)).mono ?_
  rintro e w10 ⟨rfl, own10, hg10⟩
  have T10 := Lib.hid (show Touch w3.heap.size w4.heap.size w9 w10 from by first | exact Touch.of_grown hg10 (fun k hk => ⟨(FG0_9.out.1.lt k hk).1, FG0_9.out.2 k hk⟩) | exact (Touch.of_grown hg10 (fun k hk => ⟨(FG0_9.out.1.lt k hk).1, FG0_9.out.2 k hk⟩)).drewN)
  have Z10 := Lib.hid (show w9.heap.size ≤ w10.heap.size from T10.out.size)
  have U10 := Lib.hid (T10.out.below U9.out (Nat.le_trans (Nat.le_trans Z1.out Z2.out) Z3.out) (Nat.le_trans (Nat.le_trans (Nat.le_trans (Nat.le_trans (Nat.le_trans (Nat.le_trans (Nat.le_trans (Nat.le_trans Z1.out Z2.out) Z3.out) Z4.out) Z5.out) Z6.out) Z7.out) Z8.out) Z9.out))
  have FA0_10 := Lib.hid (FA0_9.out.touch T10.out (Nat.le_trans (Nat.le_trans Z1.out Z2.out) Z3.out))
  have FW0_10 := Lib.hid (FW0_9.out.touch T10.out (.inl Z3.out))
  have FG0_10 := Lib.hid (show OP w10 w3.heap.size w4.heap.size G0 (miX p0 y).length cG0 (mkP (1) (miX p0 y).length) from ⟨own10, fun k hk => FG0_9.out.2 k hk⟩)
  clear own10 hg10
  have ks : (0 : Int) ≤ 1 + ((miX p0 y).length * 2 : Nat) := by omega
  go_wp2_with fail
  refine (heldPointS_same _ _ _ 1 _ hR (by omega) (by omega) (by with_reducible first | exact FG0_10.out.pi | exact (FG0_10.out.pi).drewN _)).mono ?_
  rintro e w' ⟨rfl, k1, rfl⟩
  go_wp2_with fail
  refine (toPointS_any _ _ _ p0 _ hm0 (by with_reducible first | exact FA0_10.out.pi | exact (FA0_10.out.pi).drewN _)).mono ?_
  rintro e w11 ⟨Y0, cY0, rfl, own11, hb11⟩
  have M11 := Lib.hid (show Below w10.heap.size w10 w11 from by
    repeat (first | exact Below.refl _ _ | assumption | refine bl_drewN ?_ _ | refine Below.drew ?_ | refine bl_al ?_ _ | (refine Below.setCell ?_ (by simp <;> omega) _) | refine bl_tr ?_ (by assumption)))
  have U11 := Lib.hid (bl_tr U10.out M11.out)
  have Z11 := Lib.hid (show w10.heap.size ≤ w11.heap.size from M11.out.size)
  have FA0_11 := Lib.hid (FA0_10.out.below M11.out)
  have FW0_11 := Lib.hid (FW0_10.out.below M11.out)
  have FG0_11 := Lib.hid (FG0_10.out.below M11.out)
  have FY0_11 := Lib.hid (show OP w11 w10.heap.size w11.heap.size Y0 p0.length cY0 p0 from OP.mk own11)
  clear own11 hb11
  go_wp2_with fail
  refine (MirrorPose_v _ _ _ p0 y _ hm0 (by with_reducible first | exact FY0_11.out.pi | exact (FY0_11.out.pi).drewN _)).mono ?_
  rintro e w12 ⟨H0, cH0, rfl, own12, hb12⟩
  have M12 := Lib.hid (show Below w11.heap.size w11 w12 from by
    repeat (first | exact Below.refl _ _ | assumption | refine bl_drewN ?_ _ | refine Below.drew ?_ | refine bl_al ?_ _ | (refine Below.setCell ?_ (by simp <;> omega) _) | refine bl_tr ?_ (by assumption)))
  have U12 := Lib.hid (bl_tr U11.out M12.out)
  have Z12 := Lib.hid (show w11.heap.size ≤ w12.heap.size from M12.out.size)
  have FA0_12 := Lib.hid (FA0_11.out.below M12.out)
  have FW0_12 := Lib.hid (FW0_11.out.below M12.out)
  have FG0_12 := Lib.hid (FG0_11.out.below M12.out)
  have FY0_12 := Lib.hid (FY0_11.out.below M12.out)
  have FH0_12 := Lib.hid (show OP w12 w11.heap.size w12.heap.size H0 (miX p0 y).length cH0 (miX p0 y) from OP.mk own12)
  clear own12 hb12
  go_wp2_with fail
  refine (eqPointS_same _ _ _ _ _ (miX p0 y) _ hR (by with_reducible first | exact FH0_12.out.pi | exact (FH0_12.out.pi).drewN _) (by with_reducible first | exact FW0_12.out.pi | exact (FW0_12.out.pi).drewN _)).mono ?_
  rintro e w13 ⟨rfl, hb13⟩
  have M13 := Lib.hid (show Below w12.heap.size w12 w13 from by
    repeat (first | exact Below.refl _ _ | assumption | refine bl_drewN ?_ _ | refine Below.drew ?_ | refine bl_al ?_ _ | (refine Below.setCell ?_ (by simp <;> omega) _) | refine bl_tr ?_ (by assumption)))
  have U13 := Lib.hid (bl_tr U12.out M13.out)
  have Z13 := Lib.hid (show w12.heap.size ≤ w13.heap.size from M13.out.size)
  have FA0_13 := Lib.hid (FA0_12.out.below M13.out)
  have FW0_13 := Lib.hid (FW0_12.out.below M13.out)
  have FG0_13 := Lib.hid (FG0_12.out.below M13.out)
  have FY0_13 := Lib.hid (FY0_12.out.below M13.out)
  have FH0_13 := Lib.hid (FH0_12.out.below M13.out)
  clear hb13
  go_wp2_with fail
  refine (heldPointS_same _ _ _ 1 _ hR (by omega) (by omega) (by with_reducible first | exact FG0_13.out.pi | exact (FG0_13.out.pi).drewN _)).mono ?_
  rintro e w' ⟨rfl, k2, rfl⟩
  go_wp2_with fail
  go_ret
  exact ⟨rfl, by first | exact U13.out | exact bl_drewN U13.out _⟩
end Go.Proofs.Ytofjohkhhomldaa

/-
  PROVED HERE: the walk of ThinLoop: the program and the reference agree. CONDITIONS: the argument's cells lie in the world.
-/
import Derived.Test.YticdilgnjnnaiaaAl
import Derived.Test.YticdilgnjnnaiaaSt
namespace Go.Proofs.Yticdilgnjnnaiaa
open Go.RowKit

/-- The first k of the places that stay. -/
def thI (xs : List Int) (D k : Nat) : List Int := (List.range k).map fun (j : Nat) => xs.getD (j * D) 0
theorem thI_len (xs : List Int) (D k : Nat) : (thI xs D k).length = k := by simp [thI]
theorem thI_succ (xs : List Int) (D k : Nat) : thI xs D (k + 1) = thI xs D k ++ [xs.getD (k * D) 0] := by simp [thI, List.range_succ]
def ThR (t k D : Nat) : Prop := t = k * D
theorem th_step {t k D n q : Nat} (h : t = k * D) (hq : n = q * D) (hlt : t < n) : t + D ≤ n ∧ t + D = (k + 1) * D := by
  subst h hq
  have h1 : k < q := Nat.lt_of_mul_lt_mul_right hlt
  have h2 : (k + 1) * D ≤ q * D := Nat.mul_le_mul_right D h1
  rw [Nat.succ_mul] at h2 ⊢
  exact ⟨h2, rfl⟩
theorem th_end {t k D n q : Nat} (h : t = k * D) (hq : n = q * D) (hD : 0 < D) (e : t = n) : k = q := by
  subst h hq
  exact Nat.eq_of_mul_eq_mul_right hD e
def thK (xs : List Int) (y : Int) : Int := if vl xs then (if inB y 1 60 then (if xs.length % y.toNat = 0 then 0 else 8) else 2) else 1
def thX (xs : List Int) (y : Int) : List Int := if vl xs then (if inB y 1 60 then (if xs.length % y.toNat = 0 then thI xs y.toNat (xs.length / y.toNat) else []) else []) else []
theorem thX_le (xs : List Int) (y : Int) : (thX xs y).length ≤ 1000000 := by
  unfold thX
  split
  · rename_i h
    have := vl_t h
    split
    · split
      · rw [thI_len]; have := Nat.div_le_self xs.length y.toNat; omega
      · simp
    · simp
  · simp
set_option maxHeartbeats 1000000 in
theorem ThinLoop_any (A : Option Addr) (n c : Nat) (xs : List Int) (y : Int) (w : World) (hn : n ≤ 1048576) (hA : RI w A n xs) :
    Calls Try.prog 33 #[.slice A n c, .int .i64 y] w (SlC w.heap.size (thX xs y) (thK xs y) w) := by
  have hl := hA.1
  have HA := Lib.hid hA
  clear hA
  cases h0 : vl xs
  case false =>
    have e1 : thX xs y = [] := by simp [thX, h0]
    have e2 : thK xs y = 1 := by simp [thK, h0]
    rw [e1, e2]
    clear e1 e2 hl
    go_enter Try.func33, Try.ntmps33
    go_wp2_with (first | (go_at_call 13; refine (ValidLoop_any _ _ _ xs _ (by omega) HA.out).mono ?_; rintro e w' ⟨rfl, rfl⟩) | (first | (go_at_call 37; refine (within_any _ _ _ _).mono ?_; rintro e w' ⟨rfl, rfl⟩) | (go_at_call 42; refine (l00In_any _ _ _ _).mono ?_; rintro e w' ⟨rfl, rfl⟩) | go_in))
    go_ret2
    exact SlC.none_ (Below.refl _ _)
  case true =>
    cases h1 : inB y 1 60
    case false =>
      have e1 : thX xs y = [] := by simp [thX, h0, h1]
      have e2 : thK xs y = 2 := by simp [thK, h0, h1]
      rw [e1, e2]
      clear e1 e2 hl
      go_enter Try.func33, Try.ntmps33
      go_wp2_with (first | (go_at_call 13; refine (ValidLoop_any _ _ _ xs _ (by omega) HA.out).mono ?_; rintro e w' ⟨rfl, rfl⟩) | (first | (go_at_call 37; refine (within_any _ _ _ _).mono ?_; rintro e w' ⟨rfl, rfl⟩) | (go_at_call 42; refine (l00In_any _ _ _ _).mono ?_; rintro e w' ⟨rfl, rfl⟩) | go_in))
      go_ret2
      exact SlC.none_ (Below.refl _ _)
    case true =>
      obtain ⟨y1, y2⟩ := inB_t h1
      obtain ⟨D, rfl⟩ : ∃ D : Nat, y = D := ⟨y.toNat, by omega⟩
      obtain ⟨⟨_, h60'⟩, _⟩ := vl_t h0
      have h60 : n ≤ 60 := by omega
      have eD : ((D : Int)).toNat = D := by simp
      by_cases hr : n % D = 0
      case neg =>
        have e1 : thX xs D = [] := by simp only [thX, h0, h1, eD, hl, hr, if_true, if_false]
        have e2 : thK xs D = 8 := by simp only [thK, h0, h1, eD, hl, hr, if_true, if_false]
        rw [e1, e2]
        obtain ⟨r, hr1, hr2⟩ : ∃ r : Nat, (n : Int) % (D : Int) = (r : Int) ∧ 0 < r := ⟨n % D, by simp, by omega⟩
        have hr3 : ((r : Int) != 0) = true := by simp; omega
        have hr4 : ¬ (r : Int) = 0 := by omega
        clear e1 e2 hl
        go_enter Try.func33, Try.ntmps33
        go_wp2_with (first | (go_at_call 13; refine (ValidLoop_any _ _ _ xs _ (by omega) HA.out).mono ?_; rintro e w' ⟨rfl, rfl⟩) | (first | (go_at_call 37; refine (within_any _ _ _ _).mono ?_; rintro e w' ⟨rfl, rfl⟩) | (go_at_call 42; refine (l00In_any _ _ _ _).mono ?_; rintro e w' ⟨rfl, rfl⟩) | go_in))
        go_ret2
        exact SlC.none_ (Below.refl _ _)
      case pos =>
        have e1 : thX xs D = thI xs D (n / D) := by simp only [thX, h0, h1, eD, hl, hr, if_true]
        have e2 : thK xs D = 0 := by simp only [thK, h0, h1, eD, hl, hr, if_true]
        rw [e1, e2]
        have hr1 : (n : Int) % (D : Int) = 0 := by
          have : ((n % D : Nat) : Int) = 0 := by rw [hr]; rfl
          simpa using this
        obtain ⟨q, hq⟩ : ∃ q, n = q * D := ⟨n / D, (Nat.div_mul_cancel (Nat.dvd_of_mod_eq_zero hr)).symm⟩
        have eq1 : n / D = q := by rw [hq]; exact Nat.mul_div_cancel _ (by omega)
        rw [eq1]
        have HQ := Lib.hid hq
        obtain ⟨i0, hi, hz0, hz1, hz2⟩ := info_parts info_int64
        clear e1 e2 hl hr hq eq1 eD
        go_enter Try.func33, Try.ntmps33
        go_wp2_with (first | (go_at_call 13; refine (ValidLoop_any _ _ _ xs _ (by omega) HA.out).mono ?_; rintro e w' ⟨rfl, rfl⟩) | (first | (go_at_call 37; refine (within_any _ _ _ _).mono ?_; rintro e w' ⟨rfl, rfl⟩) | (go_at_call 42; refine (l00In_any _ _ _ _).mono ?_; rintro e w' ⟨rfl, rfl⟩) | go_in))
        clear hr1
        go_loopw [6, 7] (fun v i wr => ∃ k t : Nat, ThR t k D ∧ t ≤ n ∧ i = .int .i64 t ∧ k ≤ t ∧ wr.ownsRow w.heap.size 2 1 v k ((thI xs D k).map (Value.int .i64)) ∧ Below w.heap.size w wr) (fun _ i _ => n - (intOf i).toNat)
        case atStart => exact ⟨0, 0, by simp [ThR], Nat.zero_le _, rfl, Nat.le_refl _, World.ownsRow_lit w #[] 0 (Nat.le_refl _) (Nat.zero_le _) (by simp), (Below.refl _ _).alloc (Nat.le_refl _) _⟩
        case round =>
          obtain ⟨k, t, HT, ht, rfl, hkt, ho, hb⟩ := hrel
          have hz := hb.size
          have HO := Lib.hid ho
          have HB := Lib.hid hb
          clear ho hb
          by_cases hlt : t < n
          · obtain ⟨s1, s2⟩ := th_step HT HQ.out hlt
            have HT2 : ThR (t + D) (k + 1) D := s2
            clear s2
            obtain ⟨b1, o1, hAA, hc1⟩ := (HA.out.below HB.out).at_ hlt
            subst hAA
            obtain ⟨x, hx⟩ : ∃ x, x = xs.getD t 0 := ⟨_, rfl⟩
            rw [← hx] at hc1
            have hs : thI xs D (k + 1) = thI xs D k ++ [x] := by rw [thI_succ, ← (show t = k * D from HT), ← hx]
            have HS := Lib.hid hs
            clear hs hx
            go_wp2_with (at_builtin; refine wpList_append_own _ rfl _ _ 22 rfl w.heap.size 2 i0 (.int .i64 0) 1 8 Try.underlying22 hi hz0 hz1 hz2 rfl (by decide) _ _ _ rfl (HO.out.alloc _) ⟨wr.heap.size, 0, none⟩ 1 1 [.int .i64 x] rfl rfl (cell_one_new _ _ _) (one_int _ _) (by unfold maxLen; omega) (by omega) (by simp; omega) ?_; intro v' w1 hown' hgrow _)
            have hb2 := (HB.out.alloc hz (.cells #[.int .i64 x] 2)).grown hgrow (by simp; omega) (fun j hj => (HO.out.lt j hj).1)
            go_roundw
            case rel => exact ⟨k + 1, t + D, HT2, s1, by go_num, by omega, by rw [HS.out, List.map_append]; exact hown', hb2⟩
            case measure => simp [intOf]; omega
          · go_wp2
            go_ret2
            have e := th_end HT HQ.out (by omega) (show t = n by omega)
            subst e
            obtain ⟨A1, c1, h1, h2, h3⟩ := SlR.mk (thI_len xs D k) HO.out HB.out
            simp only [Ending.returned.injEq] at h1
            rw [h1]
            exact ⟨A1, c1, rfl, h2, h3⟩
set_option maxHeartbeats 1000000 in
theorem lThinLoop_any (A : Option Addr) (n c : Nat) (xs : List Int) (y : Int) (w : World) (hn : n ≤ 1048576) (hA : RI w A n xs) :
    Calls Try.prog 32 #[.slice A n c, .int .i64 y] w (SlC w.heap.size (thX xs y) (thK xs y) w) := by
  have hl := hA.1
  have HA := Lib.hid hA
  clear hA
  cases h0 : vl xs
  case false =>
    have e1 : thX xs y = [] := by simp [thX, h0]
    have e2 : thK xs y = 1 := by simp [thK, h0]
    rw [e1, e2]
    clear e1 e2 hl
    go_enter Try.func32, Try.ntmps32
    go_wp2_with (first | (go_at_call 34; refine (l05Ok_any _ _ _ xs _ (by omega) HA.out).mono ?_; rintro e w' ⟨rfl, rfl⟩) | (first | (go_at_call 37; refine (within_any _ _ _ _).mono ?_; rintro e w' ⟨rfl, rfl⟩) | (go_at_call 42; refine (l00In_any _ _ _ _).mono ?_; rintro e w' ⟨rfl, rfl⟩) | go_in))
    go_ret2
    exact SlC.none_ (Below.refl _ _)
  case true =>
    cases h1 : inB y 1 60
    case false =>
      have e1 : thX xs y = [] := by simp [thX, h0, h1]
      have e2 : thK xs y = 2 := by simp [thK, h0, h1]
      rw [e1, e2]
      clear e1 e2 hl
      go_enter Try.func32, Try.ntmps32
      go_wp2_with (first | (go_at_call 34; refine (l05Ok_any _ _ _ xs _ (by omega) HA.out).mono ?_; rintro e w' ⟨rfl, rfl⟩) | (first | (go_at_call 37; refine (within_any _ _ _ _).mono ?_; rintro e w' ⟨rfl, rfl⟩) | (go_at_call 42; refine (l00In_any _ _ _ _).mono ?_; rintro e w' ⟨rfl, rfl⟩) | go_in))
      go_ret2
      exact SlC.none_ (Below.refl _ _)
    case true =>
      obtain ⟨y1, y2⟩ := inB_t h1
      obtain ⟨D, rfl⟩ : ∃ D : Nat, y = D := ⟨y.toNat, by omega⟩
      obtain ⟨⟨_, h60'⟩, _⟩ := vl_t h0
      have h60 : n ≤ 60 := by omega
      have eD : ((D : Int)).toNat = D := by simp
      by_cases hr : n % D = 0
      case neg =>
        have e1 : thX xs D = [] := by simp only [thX, h0, h1, eD, hl, hr, if_true, if_false]
        have e2 : thK xs D = 8 := by simp only [thK, h0, h1, eD, hl, hr, if_true, if_false]
        rw [e1, e2]
        obtain ⟨r, hr1, hr2⟩ : ∃ r : Nat, (n : Int) % (D : Int) = (r : Int) ∧ 0 < r := ⟨n % D, by simp, by omega⟩
        have hr3 : ((r : Int) != 0) = true := by simp; omega
        have hr4 : ¬ (r : Int) = 0 := by omega
        clear e1 e2 hl
        go_enter Try.func32, Try.ntmps32
        go_wp2_with (first | (go_at_call 34; refine (l05Ok_any _ _ _ xs _ (by omega) HA.out).mono ?_; rintro e w' ⟨rfl, rfl⟩) | (first | (go_at_call 37; refine (within_any _ _ _ _).mono ?_; rintro e w' ⟨rfl, rfl⟩) | (go_at_call 42; refine (l00In_any _ _ _ _).mono ?_; rintro e w' ⟨rfl, rfl⟩) | go_in))
        go_ret2
        exact SlC.none_ (Below.refl _ _)
      case pos =>
        have e1 : thX xs D = thI xs D (n / D) := by simp only [thX, h0, h1, eD, hl, hr, if_true]
        have e2 : thK xs D = 0 := by simp only [thK, h0, h1, eD, hl, hr, if_true]
        rw [e1, e2]
        have hr1 : (n : Int) % (D : Int) = 0 := by
          have : ((n % D : Nat) : Int) = 0 := by rw [hr]; rfl
          simpa using this
        obtain ⟨q, hq⟩ : ∃ q, n = q * D := ⟨n / D, (Nat.div_mul_cancel (Nat.dvd_of_mod_eq_zero hr)).symm⟩
        have eq1 : n / D = q := by rw [hq]; exact Nat.mul_div_cancel _ (by omega)
        rw [eq1]
        have HQ := Lib.hid hq
        obtain ⟨i0, hi, hz0, hz1, hz2⟩ := info_parts info_int64
        clear e1 e2 hl hr hq eq1 eD
        go_enter Try.func32, Try.ntmps32
        go_wp2_with (first | (go_at_call 34; refine (l05Ok_any _ _ _ xs _ (by omega) HA.out).mono ?_; rintro e w' ⟨rfl, rfl⟩) | (first | (go_at_call 37; refine (within_any _ _ _ _).mono ?_; rintro e w' ⟨rfl, rfl⟩) | (go_at_call 42; refine (l00In_any _ _ _ _).mono ?_; rintro e w' ⟨rfl, rfl⟩) | go_in))
        clear hr1
        go_loopw [6, 7] (fun v i wr => ∃ k t : Nat, ThR t k D ∧ t ≤ n ∧ i = .int .i64 t ∧ k ≤ t ∧ wr.ownsRow w.heap.size 2 1 v k ((thI xs D k).map (Value.int .i64)) ∧ Below w.heap.size w wr) (fun _ i _ => n - (intOf i).toNat)
        case atStart => exact ⟨0, 0, by simp [ThR], Nat.zero_le _, rfl, Nat.le_refl _, World.ownsRow_lit w #[] 0 (Nat.le_refl _) (Nat.zero_le _) (by simp), (Below.refl _ _).alloc (Nat.le_refl _) _⟩
        case round =>
          obtain ⟨k, t, HT, ht, rfl, hkt, ho, hb⟩ := hrel
          have hz := hb.size
          have HO := Lib.hid ho
          have HB := Lib.hid hb
          clear ho hb
          by_cases hlt : t < n
          · obtain ⟨s1, s2⟩ := th_step HT HQ.out hlt
            have HT2 : ThR (t + D) (k + 1) D := s2
            clear s2
            obtain ⟨b1, o1, hAA, hc1⟩ := (HA.out.below HB.out).at_ hlt
            subst hAA
            obtain ⟨x, hx⟩ : ∃ x, x = xs.getD t 0 := ⟨_, rfl⟩
            rw [← hx] at hc1
            have hs : thI xs D (k + 1) = thI xs D k ++ [x] := by rw [thI_succ, ← (show t = k * D from HT), ← hx]
            have HS := Lib.hid hs
            clear hs hx
            go_wp2_with (at_builtin; refine wpList_append_own _ rfl _ _ 22 rfl w.heap.size 2 i0 (.int .i64 0) 1 8 Try.underlying22 hi hz0 hz1 hz2 rfl (by decide) _ _ _ rfl (HO.out.alloc _) ⟨wr.heap.size, 0, none⟩ 1 1 [.int .i64 x] rfl rfl (cell_one_new _ _ _) (one_int _ _) (by unfold maxLen; omega) (by omega) (by simp; omega) ?_; intro v' w1 hown' hgrow _)
            have hb2 := (HB.out.alloc hz (.cells #[.int .i64 x] 2)).grown hgrow (by simp; omega) (fun j hj => (HO.out.lt j hj).1)
            go_roundw
            case rel => exact ⟨k + 1, t + D, HT2, s1, by go_num, by omega, by rw [HS.out, List.map_append]; exact hown', hb2⟩
            case measure => simp [intOf]; omega
          · go_wp2
            go_ret2
            have e := th_end HT HQ.out (by omega) (show t = n by omega)
            subst e
            obtain ⟨A1, c1, h1, h2, h3⟩ := SlR.mk (thI_len xs D k) HO.out HB.out
            simp only [Ending.returned.injEq] at h1
            rw [h1]
            exact ⟨A1, c1, rfl, h2, h3⟩
set_option maxHeartbeats 2000000 in
theorem law_ThinLoop (w : World) (A : Option Addr) (n c : Nat) (xs : List Int) (hA : RI w A n xs) (y : Int) (_wy : (Lit.int .i64 y).wf = true) :
    Calls Try.prog 10 #[.slice A n c, .int .i64 y] w fun e w' => e = .returned (.bool true) ∧ Below w.heap.size w w' := by
  obtain rfl : n = xs.length := hA.1.symm
  by_cases hbig : 1048576 < xs.length
  · have hb2 : decide (1048576 < (xs.length : Int)) = true := by simp; omega
    clear hA
    go_enter Try.func10, Try.ntmps10
    go_wp2
    go_ret
    exact ⟨rfl, Below.refl _ _⟩
  have hm : xs.length ≤ 1048576 := by omega
  have hm2 : xs.length ≤ 1152921504606846976 := by omega
  have hr := thX_le xs y
  have hr2 : (thX xs y).length ≤ 1152921504606846976 := by omega
  have RA0 := Lib.hid hA
  have LA := Lib.hid hA.lt
  clear hA
  go_enter Try.func10, Try.ntmps10
  go_wp2_with fail
  refine (toInt64S_any _ _ _ xs _ hm (by with_reducible first | exact RA0.out | exact RA0.out.drewN _)).mono ?_
  rintro e w1 ⟨T0, cT0, rfl, own1, hb1⟩
  have M1 := Lib.hid (show Below w.heap.size w w1 from by
    repeat (first | exact Below.refl _ _ | assumption | refine bl_drewN ?_ _ | refine Below.drew ?_ | refine bl_al ?_ _ | (refine Below.setCell ?_ (by simp <;> omega) _) | refine bl_tr ?_ (by assumption)))
  have U1 := Lib.hid (M1.out)
  have RA1 := Lib.hid (RA0.out.below M1.out)
  have RT0 := Lib.hid (RI.of_own own1)
  clear own1 hb1
  go_wp2_with fail
  refine (lThinLoop_any _ _ _ xs _ _ hm RT0.out).mono ?_
  rintro e w2 ⟨W0, cW0, rfl, own2, hb2⟩
  have M2 := Lib.hid (show Below w1.heap.size w1 w2 from by
    repeat (first | exact Below.refl _ _ | assumption | refine bl_drewN ?_ _ | refine Below.drew ?_ | refine bl_al ?_ _ | (refine Below.setCell ?_ (by simp <;> omega) _) | refine bl_tr ?_ (by assumption)))
  have U2 := Lib.hid (bl_tr U1.out M2.out)
  have RA2 := Lib.hid (RA1.out.below M2.out)
  have RW2 := Lib.hid (RI.of_own own2)
  have LW := Lib.hid RW2.out.lt
  clear own2 hb2 RT0
  go_wp2_with fail
  refine (toInt64S_any _ _ _ xs _ hm (by with_reducible first | exact RA2.out | exact RA2.out.drewN _)).mono ?_
  rintro e w3 ⟨X0, cX0, rfl, own3, hb3⟩
  have M3 := Lib.hid (show Below w2.heap.size w2 w3 from by
    repeat (first | exact Below.refl _ _ | assumption | refine bl_drewN ?_ _ | refine Below.drew ?_ | refine bl_al ?_ _ | (refine Below.setCell ?_ (by simp <;> omega) _) | refine bl_tr ?_ (by assumption)))
  have U3 := Lib.hid (bl_tr U2.out M3.out)
  have RA3 := Lib.hid (RA2.out.below M3.out)
  have RW3 := Lib.hid (RW2.out.below M3.out)
  have OX3 := Lib.hid (show w3.ownsRow w2.heap.size 2 1 (.slice X0 xs.length cX0) xs.length (xs.map (Value.int .i64)) from own3)
  have RX3 := Lib.hid (RI.of_own own3)
  clear own3 hb3
  go_wp2_with fail
  refine (ThinLoop_any _ _ _ xs _ _ hm RX3.out).mono ?_
  rintro e w4 ⟨G0, cG0, rfl, own4, hb4⟩
  have M4 := Lib.hid (show Below w3.heap.size w3 w4 from by
    repeat (first | exact Below.refl _ _ | assumption | refine bl_drewN ?_ _ | refine Below.drew ?_ | refine bl_al ?_ _ | (refine Below.setCell ?_ (by simp <;> omega) _) | refine bl_tr ?_ (by assumption)))
  have U4 := Lib.hid (bl_tr U3.out M4.out)
  have RA4 := Lib.hid (RA3.out.below M4.out)
  have RW4 := Lib.hid (RW3.out.below M4.out)
  have OG4 := Lib.hid (show w4.ownsRow w3.heap.size 2 1 (.slice G0 (thX xs y).length cG0) (thX xs y).length ((thX xs y).map (Value.int .i64)) from own4)
  have RG4 := Lib.hid (RI.of_own own4)
  have OX4 := Lib.hid (own_below OX3.out M4.out)
  clear own4 hb4
  go_wp2_with fail
  refine (eqInt64S_same _ _ _ _ _ (thX xs y) _ hr2 (by with_reducible first | exact RG4.out | exact RG4.out.drewN _) (by with_reducible first | exact RW4.out | exact RW4.out.drewN _)).mono ?_
  rintro e w' ⟨rfl, k1, rfl⟩
  go_wp2_with fail
  refine (toInt64S_any _ _ _ xs _ hm (by with_reducible first | exact RA4.out | exact RA4.out.drewN _)).mono ?_
  rintro e w5 ⟨T1, cT1, rfl, own5, hb5⟩
  have M5 := Lib.hid (show Below w4.heap.size w4 w5 from by
    repeat (first | exact Below.refl _ _ | assumption | refine bl_drewN ?_ _ | refine Below.drew ?_ | refine bl_al ?_ _ | (refine Below.setCell ?_ (by simp <;> omega) _) | refine bl_tr ?_ (by assumption)))
  have U5 := Lib.hid (bl_tr U4.out M5.out)
  have RA5 := Lib.hid (RA4.out.below M5.out)
  have RW5 := Lib.hid (RW4.out.below M5.out)
  have OG5 := Lib.hid (own_below OG4.out M5.out)
  have OX5 := Lib.hid (own_below OX4.out M5.out)
  have RT1 := Lib.hid (RI.of_own own5)
  have RX5 := Lib.hid (RI.of_own OX5.out)
  clear own5 hb5
  go_wp2_with fail
  refine (eqInt64S_same _ _ _ _ _ (xs) _ hm2 (by with_reducible first | exact RX5.out | exact RX5.out.drewN _) (by with_reducible first | exact RT1.out | exact RT1.out.drewN _)).mono ?_
  rintro e w' ⟨rfl, k2, rfl⟩
  go_wp2_with fail
  refine (markInt64S_any _ _ _ _ _ 1 _ hm2 (by omega) (by omega) (by with_reducible first | exact OX5.out | exact own_drewN OX5.out _)).mono ?_
  rintro e w6 ⟨rfl, own6, hg6⟩
  have g6 : w5.grownBy w6 (Value.slice X0 xs.length cX0).ownBlock := ⟨hg6.os, hg6.tape, hg6.output, hg6.size, hg6.block⟩
  have LX := Lib.hid (show ∀ k, (Value.slice X0 xs.length cX0).ownBlock = some k → w2.heap.size ≤ k from fun k hk => (OX3.out.lt k hk).1)
  have U6 := Lib.hid (U5.out.grown g6 U5.out.size (fun k hk => Nat.le_trans U2.out.size (LX.out k hk)))
  have RW6 := Lib.hid (RW5.out.grown' LW.out g6 LX.out)
  have RA6 := Lib.hid (RA5.out.grown' (fun hn b off e => Nat.lt_of_lt_of_le (LA.out hn b off e) U2.out.size) g6 LX.out)
  have OG6 := Lib.hid (OG5.out.kept g6 (own_apart OG4.out OX3.out (Nat.le_refl _)))
  have RG6 := Lib.hid (RI.of_own OG6.out)
  clear own6 hg6 g6
  have p0 : (0 : Int) ≤ 1 + (xs.length : Int) := by omega
  have p3 : (1 : Int) + (xs.length : Int) ≤ 2000000 := by omega
  go_wp2_with fail
  refine (eqInt64S_same _ _ _ _ _ (thX xs y) _ hr2 (by with_reducible first | exact RG6.out | exact RG6.out.drewN _) (by with_reducible first | exact RW6.out | exact RW6.out.drewN _)).mono ?_
  rintro e w' ⟨rfl, k3, rfl⟩
  go_wp2_with fail
  refine (markInt64S_any _ _ _ _ _ 1 _ hr2 (by omega) (by omega) (by with_reducible first | exact OG6.out | exact own_drewN OG6.out _)).mono ?_
  rintro e w7 ⟨rfl, own7, hg7⟩
  have g7 : w6.grownBy w7 (Value.slice G0 (thX xs y).length cG0).ownBlock := ⟨hg7.os, hg7.tape, hg7.output, hg7.size, hg7.block⟩
  have LG := Lib.hid (show ∀ k, (Value.slice G0 (thX xs y).length cG0).ownBlock = some k → w3.heap.size ≤ k from fun k hk => (OG4.out.lt k hk).1)
  have U7 := Lib.hid (U6.out.grown g7 U6.out.size (fun k hk => Nat.le_trans U3.out.size (LG.out k hk)))
  have s3 := M3.out.size
  have RW7 := Lib.hid (RW6.out.grown' (fun hn b off e => Nat.lt_of_lt_of_le (LW.out hn b off e) s3) g7 LG.out)
  have RA7 := Lib.hid (RA6.out.grown' (fun hn b off e => Nat.lt_of_lt_of_le (LA.out hn b off e) U3.out.size) g7 LG.out)
  have RG7 := Lib.hid (RI.of_own own7)
  clear own7 hg7 g7 s3
  have p1 : (0 : Int) ≤ 1 + ((thX xs y).length : Int) := by omega
  have p2 : (1 : Int) + ((thX xs y).length : Int) ≤ 2000000 := by omega
  go_wp2_with fail
  refine (heldInt64S_same _ _ _ 1 _ hr2 (by omega) (by omega) RG7.out).mono ?_
  rintro e w' ⟨rfl, k4, rfl⟩
  go_wp2_with fail
  refine (toInt64S_any _ _ _ xs _ hm (by with_reducible first | exact RA7.out | exact RA7.out.drewN _)).mono ?_
  rintro e w8 ⟨T2, cT2, rfl, own8, hb8⟩
  have M8 := Lib.hid (show Below w7.heap.size w7 w8 from by
    repeat (first | exact Below.refl _ _ | assumption | refine bl_drewN ?_ _ | refine Below.drew ?_ | refine bl_al ?_ _ | (refine Below.setCell ?_ (by simp <;> omega) _) | refine bl_tr ?_ (by assumption)))
  have U8 := Lib.hid (bl_tr U7.out M8.out)
  have RW8 := Lib.hid (RW7.out.below M8.out)
  have RG8 := Lib.hid (RG7.out.below M8.out)
  have RT2 := Lib.hid (RI.of_own own8)
  clear own8 hb8
  go_wp2_with fail
  refine (ThinLoop_any _ _ _ xs _ _ hm RT2.out).mono ?_
  rintro e w9 ⟨H0, cH0, rfl, own9, hb9⟩
  have M9 := Lib.hid (show Below w8.heap.size w8 w9 from by
    repeat (first | exact Below.refl _ _ | assumption | refine bl_drewN ?_ _ | refine Below.drew ?_ | refine bl_al ?_ _ | (refine Below.setCell ?_ (by simp <;> omega) _) | refine bl_tr ?_ (by assumption)))
  have U9 := Lib.hid (bl_tr U8.out M9.out)
  have RW9 := Lib.hid (RW8.out.below M9.out)
  have RG9 := Lib.hid (RG8.out.below M9.out)
  have RH9 := Lib.hid (RI.of_own own9)
  clear own9 hb9
  go_wp2_with fail
  refine (eqInt64S_same _ _ _ _ _ (thX xs y) _ hr2 (by with_reducible first | exact RH9.out | exact RH9.out.drewN _) (by with_reducible first | exact RW9.out | exact RW9.out.drewN _)).mono ?_
  rintro e w' ⟨rfl, k5, rfl⟩
  go_wp2_with fail
  refine (heldInt64S_same _ _ _ 1 _ hr2 (by omega) (by omega) (by with_reducible first | exact RG9.out | exact RG9.out.drewN _)).mono ?_
  rintro e w' ⟨rfl, k6, rfl⟩
  go_wp2_with fail
  go_ret
  exact ⟨rfl, bl_drewN U9.out _⟩
end Go.Proofs.Yticdilgnjnnaiaa

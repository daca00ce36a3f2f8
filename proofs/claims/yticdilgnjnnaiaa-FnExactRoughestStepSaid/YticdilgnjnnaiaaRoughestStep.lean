/-
  PROVED HERE: the walk of RoughestStep: the program and the reference agree. CONDITIONS: the argument's cells lie in the world.
-/
import Derived.Test.YticdilgnjnnaiaaAl
import Derived.Test.YticdilgnjnnaiaaSt
import Derived.Test.YticdilgnjnnaiaaAp
namespace Go.Proofs.Yticdilgnjnnaiaa
open Go.RowKit

def rsD (zs : List Int) (k : Nat) : Int := abI (zs.getD k 0 - zs.getD ((k + zs.length - 1) % zs.length) 0)
def rsB (zs : List Int) : Nat → Int × Int
  | 0 => (0, -1)
  | k + 1 => if (rsB zs k).2 < rsD zs k then ((k : Int), rsD zs k) else rsB zs k
theorem rsB_t {zs : List Int} {k : Nat} (h : (rsB zs k).2 < rsD zs k) : rsB zs (k + 1) = ((k : Int), rsD zs k) := if_pos h
theorem rsB_f {zs : List Int} {k : Nat} (h : ¬ (rsB zs k).2 < rsD zs k) : rsB zs (k + 1) = rsB zs k := if_neg h
theorem prev_ (k n : Nat) (h : k < n) : ∃ m : Nat, m = (k + n - 1) % n ∧ ((k : Int) + (n : Int) - 1) % (n : Int) = (m : Int) ∧ m < n :=
  ⟨(k + n - 1) % n, rfl, by rw [show (k : Int) + (n : Int) - 1 = ((k + n - 1 : Nat) : Int) by omega]; simp, Nat.mod_lt _ (by omega)⟩
/-- Each number is a step. -/
def Stp (zs : List Int) : Prop := ∀ j, j < zs.length → -1000 ≤ zs.getD j 0 ∧ zs.getD j 0 ≤ 1000
theorem stI_stp {xs : List Int} (h : Pl xs) : Stp (stI xs xs.length) := fun j hj => by
  rw [stI_len] at hj
  have h1 := h j hj
  have h2 := h ((j + 1) % xs.length) (Nat.mod_lt _ (by omega))
  have e : (stI xs xs.length).getD j 0 = xs.getD ((j + 1) % xs.length) 0 - xs.getD j 0 := by
    rw [List.getD, stI, List.getElem?_map, List.getElem?_range hj]; rfl
  rw [e]; omega
def rsR (xs : List Int) : Value := if vl xs then .tuple #[.int .i64 (rsB (stI xs xs.length) xs.length).1, .int .i64 (rsB (stI xs xs.length) xs.length).2, .int .i64 0] else .tuple #[.int .i64 0, .int .i64 0, .int .i64 1]
set_option maxHeartbeats 2000000 in
theorem RoughestStep_any (A : Option Addr) (n c : Nat) (xs : List Int) (w : World) (hn : n ≤ 1048576) (hA : RI w A n xs) :
    Calls Try.prog 20 #[.slice A n c] w fun e w' => e = .returned (rsR xs) ∧ Below w.heap.size w w' := by
  have hl := hA.1
  have HA := Lib.hid hA
  clear hA
  cases h0 : vl xs
  case false =>
    have e1 : rsR xs = .tuple #[.int .i64 0, .int .i64 0, .int .i64 1] := by simp [rsR, h0]
    rw [e1]
    clear e1 hl
    go_enter Try.func20, Try.ntmps20
    go_wp2_with (first | (go_at_call 13; refine (ValidLoop_any _ _ _ xs _ (by omega) HA.out).mono ?_; rintro e w' ⟨rfl, rfl⟩))
    go_ret3
    exact ⟨rfl, Below.refl _ _⟩
  case true =>
    obtain ⟨⟨n1', n60'⟩, hp⟩ := vl_t h0
    have n1 : 1 ≤ n := by omega
    have n60 : n ≤ 60 := by omega
    have HP := Lib.hid (show Pl xs from hp)
    have e1 : rsR xs = .tuple #[.int .i64 (rsB (stI xs n) n).1, .int .i64 (rsB (stI xs n) n).2, .int .i64 0] := by simp only [rsR, h0, if_true, hl]
    rw [e1]
    have hstp := stI_stp HP.out
    rw [hl] at hstp
    obtain ⟨zs, hz⟩ : ∃ zs, zs = stI xs n := ⟨_, rfl⟩
    have hzl : zs.length = n := by rw [hz]; exact stI_len _ _
    have hst := stepsOf_any A n c xs w n60 HA.out HP.out
    rw [← hz] at hst hstp ⊢
    have HS := Lib.hid hstp
    have HL := Lib.hid hzl
    have HC := Lib.hid hst
    clear hz hst hzl hl e1 hp n1' n60' hstp
    go_enter Try.func20, Try.ntmps20
    go_wp2_with (first | (go_at_call 13; refine (ValidLoop_any _ _ _ xs _ (by omega) HA.out).mono ?_; rintro e w' ⟨rfl, rfl⟩))
    go_wp2_with (first | (go_at_call 39; refine HC.out.mono ?_; rintro e w1 ⟨A1, c1, rfl, ho, hb⟩))
    have ho2 := RI.of_own ho
    rw [HL.out] at ho2
    have HO := Lib.hid ho2
    have HB := Lib.hid hb
    have hll := HL.out
    rw [hll]
    clear ho ho2 hb
    go_loopw [6, 7, 8, 9, 10, 11, 19] (fun b m _ _ _ _ i wr => w1 = wr ∧ ∃ k : Nat, k ≤ n ∧ i = .int .i64 k ∧ b = .int .i64 (rsB zs k).1 ∧ m = .int .i64 (rsB zs k).2) (fun _ _ _ _ _ _ i _ => n - (intOf i).toNat)
    case atStart => exact ⟨rfl, 0, Nat.zero_le _, rfl, rfl, rfl⟩
    case round =>
      obtain ⟨rfl, k, hk, rfl, rfl, rfl⟩ := hrel
      by_cases hlt : k < n
      · obtain ⟨m, hme, hmi, hml⟩ := prev_ k n hlt
        obtain ⟨b1, o1, hAA, c1'⟩ := HO.out.at_ hlt
        subst hAA
        obtain ⟨b2, o2, hAA2, c2'⟩ := HO.out.at_ hml
        obtain ⟨rfl, rfl⟩ : b1 = b2 ∧ o1 = o2 := by injection hAA2 with e; injection e with e1 e2; exact ⟨e1, e2⟩
        clear hAA2
        obtain ⟨p1, p2⟩ := HS.out k (by rw [HL.out]; exact hlt)
        obtain ⟨p3, p4⟩ := HS.out m (by rw [HL.out]; exact hml)
        obtain ⟨x, hx⟩ : ∃ x, x = zs.getD k 0 := ⟨_, rfl⟩
        obtain ⟨y, hy⟩ : ∃ y, y = zs.getD m 0 := ⟨_, rfl⟩
        rw [← hx] at c1' p1 p2
        rw [← hy] at c2' p3 p4
        have hd : rsD zs k = abI (x - y) := by rw [rsD, HL.out, ← hme, ← hx, ← hy]
        obtain ⟨M, hM⟩ : ∃ M, M = (rsB zs k).2 := ⟨_, rfl⟩
        obtain ⟨N, hN⟩ : ∃ N, N = (rsB zs k).1 := ⟨_, rfl⟩
        by_cases hc : M < abI (x - y)
        · have h1 : (rsB zs (k + 1)).1 = k := by rw [rsB_t (by rw [hd, ← hM]; exact hc)]
          have h2 : (rsB zs (k + 1)).2 = abI (x - y) := by rw [rsB_t (by rw [hd, ← hM]; exact hc), hd]
          rw [← hM, ← hN]
          have H1 := Lib.hid h1
          have H2 := Lib.hid h2
          clear h1 h2 hM hN hd hx hy hme
          go_wp2_with (go_at_call 41; refine (apart_any _ _ _ (by omega) (by omega) (by omega) (by omega)).mono ?_; rintro e w' ⟨rfl, rfl⟩)
          go_roundw
          case rel => exact ⟨by first | trivial | rfl, k + 1, by omega, by go_num, by rw [H1.out], by rw [H2.out]⟩
          case measure => simp [intOf]; omega
        · have h1 : (rsB zs (k + 1)).1 = N := by rw [rsB_f (by rw [hd, ← hM]; exact hc), hN]
          have h2 : (rsB zs (k + 1)).2 = M := by rw [rsB_f (by rw [hd, ← hM]; exact hc), hM]
          rw [← hM, ← hN]
          have H1 := Lib.hid h1
          have H2 := Lib.hid h2
          clear h1 h2 hM hN hd hx hy hme
          go_wp2_with (go_at_call 41; refine (apart_any _ _ _ (by omega) (by omega) (by omega) (by omega)).mono ?_; rintro e w' ⟨rfl, rfl⟩)
          go_roundw
          case rel => exact ⟨by first | trivial | rfl, k + 1, by omega, by go_num, by rw [H1.out], by rw [H2.out]⟩
          case measure => simp [intOf]; omega
      · have e : k = n := by omega
        subst e
        go_wp2
        go_ret3
        exact ⟨rfl, HB.out⟩
set_option maxHeartbeats 2000000 in
theorem lRoughestStep_any (A : Option Addr) (n c : Nat) (xs : List Int) (w : World) (hn : n ≤ 1048576) (hA : RI w A n xs) :
    Calls Try.prog 19 #[.slice A n c] w fun e w' => e = .returned (rsR xs) ∧ Below w.heap.size w w' := by
  have hl := hA.1
  have HA := Lib.hid hA
  clear hA
  cases h0 : vl xs
  case false =>
    have e1 : rsR xs = .tuple #[.int .i64 0, .int .i64 0, .int .i64 1] := by simp [rsR, h0]
    rw [e1]
    clear e1 hl
    go_enter Try.func19, Try.ntmps19
    go_wp2_with (first | (go_at_call 34; refine (l05Ok_any _ _ _ xs _ (by omega) HA.out).mono ?_; rintro e w' ⟨rfl, rfl⟩))
    go_ret3
    exact ⟨rfl, Below.refl _ _⟩
  case true =>
    obtain ⟨⟨n1', n60'⟩, hp⟩ := vl_t h0
    have n1 : 1 ≤ n := by omega
    have n60 : n ≤ 60 := by omega
    have HP := Lib.hid (show Pl xs from hp)
    have e1 : rsR xs = .tuple #[.int .i64 (rsB (stI xs n) n).1, .int .i64 (rsB (stI xs n) n).2, .int .i64 0] := by simp only [rsR, h0, if_true, hl]
    rw [e1]
    have hstp := stI_stp HP.out
    rw [hl] at hstp
    obtain ⟨zs, hz⟩ : ∃ zs, zs = stI xs n := ⟨_, rfl⟩
    have hzl : zs.length = n := by rw [hz]; exact stI_len _ _
    have hst := l05Steps_any A n c xs w n60 HA.out HP.out
    rw [← hz] at hst hstp ⊢
    have HS := Lib.hid hstp
    have HL := Lib.hid hzl
    have HC := Lib.hid hst
    clear hz hst hzl hl e1 hp n1' n60' hstp
    go_enter Try.func19, Try.ntmps19
    go_wp2_with (first | (go_at_call 34; refine (l05Ok_any _ _ _ xs _ (by omega) HA.out).mono ?_; rintro e w' ⟨rfl, rfl⟩))
    go_wp2_with (first | (go_at_call 38; refine HC.out.mono ?_; rintro e w1 ⟨A1, c1, rfl, ho, hb⟩))
    have ho2 := RI.of_own ho
    rw [HL.out] at ho2
    have HO := Lib.hid ho2
    have HB := Lib.hid hb
    have hll := HL.out
    rw [hll]
    clear ho ho2 hb
    go_loopw [7, 8, 9, 10] (fun b m i _ wr => ∃ q k : Nat, wr = w1.drewN q ∧ k ≤ n ∧ i = .int .i64 k ∧ b = .int .i64 (rsB zs k).1 ∧ m = .int .i64 (rsB zs k).2) (fun _ _ i _ _ => n - (intOf i).toNat)
    case atStart => exact ⟨0, 0, rfl, Nat.zero_le _, rfl, rfl, rfl⟩
    case round =>
      obtain ⟨q, k, rfl, hk, rfl, rfl, rfl⟩ := hrel
      by_cases hlt : k < n
      · obtain ⟨m, hme, hmi, hml⟩ := prev_ k n hlt
        obtain ⟨b1, o1, hAA, c1'⟩ := HO.out.at_ hlt
        subst hAA
        obtain ⟨b2, o2, hAA2, c2'⟩ := HO.out.at_ hml
        obtain ⟨rfl, rfl⟩ : b1 = b2 ∧ o1 = o2 := by injection hAA2 with e; injection e with e1 e2; exact ⟨e1, e2⟩
        clear hAA2
        obtain ⟨p1, p2⟩ := HS.out k (by rw [HL.out]; exact hlt)
        obtain ⟨p3, p4⟩ := HS.out m (by rw [HL.out]; exact hml)
        obtain ⟨x, hx⟩ : ∃ x, x = zs.getD k 0 := ⟨_, rfl⟩
        obtain ⟨y, hy⟩ : ∃ y, y = zs.getD m 0 := ⟨_, rfl⟩
        rw [← hx] at c1' p1 p2
        rw [← hy] at c2' p3 p4
        have hd : rsD zs k = abI (x - y) := by rw [rsD, HL.out, ← hme, ← hx, ← hy]
        obtain ⟨M, hM⟩ : ∃ M, M = (rsB zs k).2 := ⟨_, rfl⟩
        obtain ⟨N, hN⟩ : ∃ N, N = (rsB zs k).1 := ⟨_, rfl⟩
        by_cases hc : M < abI (x - y)
        · have h1 : (rsB zs (k + 1)).1 = k := by rw [rsB_t (by rw [hd, ← hM]; exact hc)]
          have h2 : (rsB zs (k + 1)).2 = abI (x - y) := by rw [rsB_t (by rw [hd, ← hM]; exact hc), hd]
          rw [← hM, ← hN]
          have H1 := Lib.hid h1
          have H2 := Lib.hid h2
          clear h1 h2 hM hN hd hx hy hme
          go_wp2
          go_quiet ((go_at_call 40; first | exact quiet_add_left (size_any _ _ (by omega) (by omega)) | exact quiet_left (size_any _ _ (by omega) (by omega))))
          go_wp2
          go_roundw
          case rel => exact ⟨_, k + 1, rfl, by omega, by go_num, by rw [H1.out], by rw [H2.out]⟩
          case measure => simp [intOf]; omega
        · have h1 : (rsB zs (k + 1)).1 = N := by rw [rsB_f (by rw [hd, ← hM]; exact hc), hN]
          have h2 : (rsB zs (k + 1)).2 = M := by rw [rsB_f (by rw [hd, ← hM]; exact hc), hM]
          rw [← hM, ← hN]
          have H1 := Lib.hid h1
          have H2 := Lib.hid h2
          clear h1 h2 hM hN hd hx hy hme
          go_wp2
          go_quiet ((go_at_call 40; first | exact quiet_add_left (size_any _ _ (by omega) (by omega)) | exact quiet_left (size_any _ _ (by omega) (by omega))))
          go_wp2
          go_roundw
          case rel => exact ⟨_, k + 1, rfl, by omega, by go_num, by rw [H1.out], by rw [H2.out]⟩
          case measure => simp [intOf]; omega
      · have e : k = n := by omega
        subst e
        go_wp2
        go_ret3
        exact ⟨rfl, bl_drewN HB.out _⟩
def rsA (xs : List Int) : Int := if vl xs then (rsB (stI xs xs.length) xs.length).1 else 0
def rsM (xs : List Int) : Int := if vl xs then (rsB (stI xs xs.length) xs.length).2 else 0
def rsK (xs : List Int) : Int := if vl xs then 0 else 1
theorem rsR_eq (xs : List Int) : rsR xs = .tuple #[.int .i64 (rsA xs), .int .i64 (rsM xs), .int .i64 (rsK xs)] := by
  unfold rsR rsA rsM rsK; cases vl xs <;> rfl
theorem RoughestStep_v (A : Option Addr) (n c : Nat) (xs : List Int) (w : World) (hn : n ≤ 1048576) (hA : RI w A n xs) :
    Calls Try.prog 20 #[.slice A n c] w fun e w' => e = .returned (.tuple #[.int .i64 (rsA xs), .int .i64 (rsM xs), .int .i64 (rsK xs)]) ∧ Below w.heap.size w w' := by
  rw [← rsR_eq]; exact RoughestStep_any A n c xs w hn hA
theorem lRoughestStep_v (A : Option Addr) (n c : Nat) (xs : List Int) (w : World) (hn : n ≤ 1048576) (hA : RI w A n xs) :
    Calls Try.prog 19 #[.slice A n c] w fun e w' => e = .returned (.tuple #[.int .i64 (rsA xs), .int .i64 (rsM xs), .int .i64 (rsK xs)]) ∧ Below w.heap.size w w' := by
  rw [← rsR_eq]; exact lRoughestStep_any A n c xs w hn hA
set_option maxHeartbeats 2000000 in
theorem law_RoughestStep (w : World) (A : Option Addr) (n c : Nat) (xs : List Int) (hA : RI w A n xs) :
    Calls Try.prog 5 #[.slice A n c] w fun e w' => e = .returned (.bool true) ∧ Below w.heap.size w w' := by
  obtain rfl : n = xs.length := hA.1.symm
  by_cases hbig : 1048576 < xs.length
  · have hb2 : decide (1048576 < (xs.length : Int)) = true := by simp; omega
    clear hA
    go_enter Try.func5, Try.ntmps5
    go_wp2
    go_ret
    exact ⟨rfl, Below.refl _ _⟩
  have hm : xs.length ≤ 1048576 := by omega
  have hm2 : xs.length ≤ 1152921504606846976 := by omega
  have RA0 := Lib.hid hA
  have LA := Lib.hid hA.lt
  clear hA
  go_enter Try.func5, Try.ntmps5
  go_wp2_with fail
  refine (toInt64S_any _ _ _ xs _ hm (by with_reducible first | exact RA0.out | exact RA0.out.drewN _)).mono ?_
  rintro e w1 ⟨T0, cT0, rfl, own1, hb1⟩
  have M1 := Lib.hid (show Below w.heap.size w w1 from by
    repeat (first | exact Below.refl _ _ | assumption | refine bl_drewN ?_ _ | refine Below.drew ?_ | refine bl_al ?_ _ | (refine Below.setCell ?_ (by simp <;> omega) _) | refine bl_tr ?_ (by assumption)))
  have U1 := Lib.hid (M1.out)
  have RA1 := Lib.hid (RA0.out.below M1.out)
  have RT0 := Lib.hid (RI.of_own own1)
  clear own1 hb1
  go_wp2_with fail
  refine (lRoughestStep_v _ _ _ xs _ hm RT0.out).mono ?_
  rintro e w2 ⟨rfl, hb2⟩
  have M2 := Lib.hid (show Below w1.heap.size w1 w2 from by
    repeat (first | exact Below.refl _ _ | assumption | refine bl_drewN ?_ _ | refine Below.drew ?_ | refine bl_al ?_ _ | (refine Below.setCell ?_ (by simp <;> omega) _) | refine bl_tr ?_ (by assumption)))
  have U2 := Lib.hid (bl_tr U1.out M2.out)
  have RA2 := Lib.hid (RA1.out.below M2.out)
  clear hb2 RT0
  go_wp2_with fail
  refine (toInt64S_any _ _ _ xs _ hm (by with_reducible first | exact RA2.out | exact RA2.out.drewN _)).mono ?_
  rintro e w3 ⟨X0, cX0, rfl, own3, hb3⟩
  have M3 := Lib.hid (show Below w2.heap.size w2 w3 from by
    repeat (first | exact Below.refl _ _ | assumption | refine bl_drewN ?_ _ | refine Below.drew ?_ | refine bl_al ?_ _ | (refine Below.setCell ?_ (by simp <;> omega) _) | refine bl_tr ?_ (by assumption)))
  have U3 := Lib.hid (bl_tr U2.out M3.out)
  have RA3 := Lib.hid (RA2.out.below M3.out)
  have OX3 := Lib.hid (show w3.ownsRow w2.heap.size 2 1 (.slice X0 xs.length cX0) xs.length (xs.map (Value.int .i64)) from own3)
  have RX3 := Lib.hid (RI.of_own own3)
  clear own3 hb3
  go_wp2_with fail
  refine (RoughestStep_v _ _ _ xs _ hm RX3.out).mono ?_
  rintro e w4 ⟨rfl, hb4⟩
  have M4 := Lib.hid (show Below w3.heap.size w3 w4 from by
    repeat (first | exact Below.refl _ _ | assumption | refine bl_drewN ?_ _ | refine Below.drew ?_ | refine bl_al ?_ _ | (refine Below.setCell ?_ (by simp <;> omega) _) | refine bl_tr ?_ (by assumption)))
  have U4 := Lib.hid (bl_tr U3.out M4.out)
  have RA4 := Lib.hid (RA3.out.below M4.out)
  have OX4 := Lib.hid (own_below OX3.out M4.out)
  clear hb4
  go_wp2_with fail
  refine (toInt64S_any _ _ _ xs _ hm (by with_reducible first | exact RA4.out | exact RA4.out.drewN _)).mono ?_
  rintro e w5 ⟨T1, cT1, rfl, own5, hb5⟩
  have M5 := Lib.hid (show Below w4.heap.size w4 w5 from by
    repeat (first | exact Below.refl _ _ | assumption | refine bl_drewN ?_ _ | refine Below.drew ?_ | refine bl_al ?_ _ | (refine Below.setCell ?_ (by simp <;> omega) _) | refine bl_tr ?_ (by assumption)))
  have U5 := Lib.hid (bl_tr U4.out M5.out)
  have RA5 := Lib.hid (RA4.out.below M5.out)
  have OX5 := Lib.hid (own_below OX4.out M5.out)
  have RT1 := Lib.hid (RI.of_own own5)
  have RX5 := Lib.hid (RI.of_own OX5.out)
  clear own5 hb5
  go_wp2_with fail
  refine (eqInt64S_same _ _ _ _ _ (xs) _ hm2 (by with_reducible first | exact RX5.out | exact RX5.out.drewN _) (by with_reducible first | exact RT1.out | exact RT1.out.drewN _)).mono ?_
  rintro e w' ⟨rfl, k2, rfl⟩
  go_wp2_with fail
  go_ret
  exact ⟨rfl, bl_drewN U5.out _⟩
end Go.Proofs.Yticdilgnjnnaiaa

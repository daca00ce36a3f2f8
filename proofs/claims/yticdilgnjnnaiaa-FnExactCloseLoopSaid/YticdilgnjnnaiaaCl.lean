/-
  PROVED HERE: plain facts and contracts for CloseLoop. CONDITIONS: as each theorem names them.
-/
import Derived.Test.YticdilgnjnnaiaaClone
import Derived.Test.YticdilgnjnnaiaaMx
import Derived.Test.YticdilgnjnnaiaaRnd
namespace Go.Proofs.Yticdilgnjnnaiaa
open Go.RowKit

/-- The gap of a loop. -/
def clG (xs : List Int) : Int := xs.getD 0 0 - xs.getD (xs.length - 1) 0
def clKk (xs : List Int) (y : Int) (j : Nat) : Int := mxI 0 ((j : Int) - ((xs.length : Int) - y) + 1)
def clV (xs : List Int) (y : Int) (j : Nat) : Int := mnI 1000 (mxI 0 (xs.getD j 0 + rndV (clG xs * clKk xs y j) (y + 1)))
def clI (xs : List Int) (y : Int) (k : Nat) : List Int := (List.range k).map fun j => clV xs y j
theorem clI_len (xs : List Int) (y : Int) (k : Nat) : (clI xs y k).length = k := by simp [clI]
theorem clI_succ (xs : List Int) (y : Int) (k : Nat) : clI xs y (k + 1) = clI xs y k ++ [clV xs y k] := by simp [clI, List.range_succ]
theorem mul_bd (a b A B : Int) (h1 : -A ≤ a) (h2 : a ≤ A) (h3 : 0 ≤ b) (h4 : b ≤ B) (hA : 0 ≤ A) : -(A * B) ≤ a * b ∧ a * b ≤ A * B := by
  have e1 : a * b ≤ A * b := Int.mul_le_mul_of_nonneg_right h2 h3
  have e2 : -A * b ≤ a * b := Int.mul_le_mul_of_nonneg_right h1 h3
  have e3 : A * b ≤ A * B := Int.mul_le_mul_of_nonneg_left h4 hA
  have e4 : -A * b = -(A * b) := Int.neg_mul _ _
  omega
theorem rndV_bd (p q : Int) (h1 : -60000 ≤ p) (h2 : p ≤ 60000) (h3 : 2 ≤ q) : -60001 ≤ rndV p q ∧ rndV p q ≤ 60001 := by
  have a1 : -60001 ≤ (2 * p + q) / (2 * q) := (Int.le_ediv_iff_mul_le (by omega)).2 (by omega)
  have a2 : (2 * p + q) / (2 * q) < 60002 := (Int.ediv_lt_iff_lt_mul (by omega)).2 (by omega)
  unfold rndV; omega
theorem rndV_zero (q : Int) (h : 1 ≤ q) : rndV 0 q = 0 := by
  have a1 : 0 ≤ (2 * 0 + q) / (2 * q) := (Int.le_ediv_iff_mul_le (by omega)).2 (by omega)
  have a2 : (2 * 0 + q) / (2 * q) < 1 := (Int.ediv_lt_iff_lt_mul (by omega)).2 (by omega)
  unfold rndV; omega
/-- The loop behind t of the stores. -/
def clM (xs : List Int) (Y n t : Nat) : List Int := clI xs Y (n - Y + t) ++ xs.drop (n - Y + t)
theorem clV_low {xs : List Int} {Y j : Nat} (hp : Pl xs) (hj : j < xs.length - Y) (hY : 1 ≤ Y) : clV xs Y j = xs.getD j 0 := by
  have h := hp j (by omega)
  have e : clKk xs Y j = 0 := by unfold clKk mxI; split <;> omega
  rw [clV, e, Int.mul_zero, rndV_zero _ (by omega), Int.add_zero]
  unfold mnI mxI; split <;> split <;> omega
theorem clI_low {xs : List Int} {Y : Nat} (hp : Pl xs) (hY : 1 ≤ Y) : ∀ k, k ≤ xs.length - Y → clI xs Y k = xs.take k
  | 0, _ => by simp [clI]
  | k + 1, h => by
    rw [clI_succ, clI_low hp hY k (by omega), clV_low hp (by omega) hY, List.take_succ_eq_append_getElem (by omega)]
    simp [List.getD, show k < xs.length by omega]
theorem clM_zero {xs : List Int} {Y : Nat} (hp : Pl xs) (hY : 1 ≤ Y) : clM xs Y xs.length 0 = xs := by
  rw [clM, clI_low hp hY _ (by omega)]; simp
theorem clM_all {xs : List Int} {Y : Nat} (hY : Y ≤ xs.length) : clM xs Y xs.length Y = clI xs Y xs.length := by
  rw [clM, show xs.length - Y + Y = xs.length by omega]; simp
theorem clM_len {xs : List Int} {Y t : Nat} (h : xs.length - Y + t ≤ xs.length) : (clM xs Y xs.length t).length = xs.length := by
  rw [clM, List.length_append, clI_len, List.length_drop]; omega
theorem clM_get {xs : List Int} {Y t : Nat} : (clM xs Y xs.length t).getD (xs.length - Y + t) 0 = xs.getD (xs.length - Y + t) 0 := by
  rw [clM, List.getD, List.getElem?_append_right (by rw [clI_len]; exact Nat.le_refl _), clI_len, Nat.sub_self, List.getElem?_drop]; simp [List.getD]
theorem clM_succ {xs : List Int} {Y t : Nat} (h : xs.length - Y + t < xs.length) : (clM xs Y xs.length t).set (xs.length - Y + t) (clV xs Y (xs.length - Y + t)) = clM xs Y xs.length (t + 1) := by
  rw [clM, clM, List.set_append_right _ _ (by rw [clI_len]; exact Nat.le_refl _), clI_len, Nat.sub_self, ← Nat.add_assoc, clI_succ, List.append_assoc]
  congr 1
  rw [List.drop_eq_getElem_cons h, List.set_cons_zero]; rfl
set_option maxHeartbeats 4000000 in
theorem lClose_walk (A : Option Addr) (n c : Nat) (xs : List Int) (y : Int) (w : World) (hv : vl xs = true) (hy : inB y 1 n = true) (hA : RI w A n xs) :
    Calls Try.prog 21 #[.slice A n c, .int .i64 y] w (SlC w.heap.size (clI xs y n) 0 w) := by
  obtain ⟨i0, hi, hz0, hz1, hz2⟩ := info_parts info_int64
  have hl := hA.1
  obtain ⟨⟨n1', n60'⟩, hp⟩ := vl_t hv
  obtain ⟨y1, y2⟩ := inB_t hy
  have n1 : 1 ≤ n := by omega
  have n60 : n ≤ 60 := by omega
  obtain ⟨b, o, rfl, hb0, _⟩ := hA.2 (by omega)
  obtain ⟨m, hm1, hm2⟩ : ∃ m : Nat, m = n - 1 ∧ (n : Int) - 1 = (m : Int) := ⟨n - 1, rfl, by omega⟩
  obtain ⟨b', o', e, q1⟩ := hA.at_ (k := 0) (by omega)
  obtain ⟨rfl, rfl⟩ : b = b' ∧ o = o' := by injection e with e; injection e with e1 e2; exact ⟨e1, e2⟩
  clear e
  obtain ⟨b', o', e, q2⟩ := hA.at_ (k := m) (by omega)
  obtain ⟨rfl, rfl⟩ : b = b' ∧ o = o' := by injection e with e; injection e with e1 e2; exact ⟨e1, e2⟩
  clear e
  obtain ⟨p1, p1'⟩ := hp 0 (by omega)
  obtain ⟨p2, p2'⟩ := hp m (by omega)
  obtain ⟨x0, hx0⟩ : ∃ x, x = xs.getD 0 0 := ⟨_, rfl⟩
  obtain ⟨xm, hxm⟩ : ∃ x, x = xs.getD m 0 := ⟨_, rfl⟩
  have hg : clG xs = x0 - xm := by rw [clG, hl, ← hm1, ← hx0, ← hxm]
  rw [← hx0] at q1 p1 p1'
  rw [← hxm] at q2 p2 p2'
  rw [Nat.add_zero] at q1
  have HA := Lib.hid hA
  have HG := Lib.hid hg
  have HL := Lib.hid hl
  have HP := Lib.hid (show Pl xs from hp)
  clear hg hx0 hxm hp hm1 hl hA n1' n60'
  have s1 : (0 : Int) ≤ (m : Int) := Int.natCast_nonneg _
  have s2 : (m : Int) < (n : Int) := by omega
  have s3 : (0 : Int) < (n : Int) := by omega
  go_enter Try.func21, Try.ntmps21
  go_wp2_with (first | (go_at_call 34; refine (l05Ok_any _ _ _ xs _ (by omega) HA.out).mono ?_; rintro e w' ⟨rfl, rfl⟩; simp only [hv]) | (go_at_call 42; refine (l00In_v hy _).mono ?_; rintro e w' ⟨rfl, rfl⟩))
  go_quiet (fail)
  go_wp2
  go_loopw [8, 9, 10] (fun v i _ wr => ∃ k : Nat, k ≤ n ∧ i = .int .i64 k ∧ wr.ownsRow w.heap.size 2 1 v k ((clI xs y k).map (Value.int .i64)) ∧ Below w.heap.size w wr) (fun _ i _ _ => n - (intOf i).toNat)
  case atStart => exact ⟨0, Nat.zero_le _, rfl, World.ownsRow_lit w #[] 0 (Nat.le_refl _) (Nat.zero_le _) (by simp), bl_drewN ((Below.refl _ _).alloc (Nat.le_refl _) _) _⟩
  case round =>
    obtain ⟨k, hk, rfl, ho, hb⟩ := hrel
    have hz := hb.size
    have HO := Lib.hid ho
    have HB := Lib.hid hb
    clear ho hb q1 q2
    by_cases hlt : k < n
    · obtain ⟨b', o', e, q1⟩ := (HA.out.below HB.out).at_ hlt
      obtain ⟨rfl, rfl⟩ : b = b' ∧ o = o' := by injection e with e; injection e with e1 e2; exact ⟨e1, e2⟩
      clear e
      obtain ⟨p3, p3'⟩ := HP.out k (by rw [HL.out]; exact hlt)
      obtain ⟨x, hx⟩ : ∃ x, x = xs.getD k 0 := ⟨_, rfl⟩
      rw [← hx] at q1 p3 p3'
      obtain ⟨kk, hkk⟩ : ∃ kk, mxI 0 ((k : Int) - ((n : Int) - y) + 1) = kk := ⟨_, rfl⟩
      have hk1 : 0 ≤ kk ∧ kk ≤ 60 := by rw [← hkk]; unfold mxI; split <;> omega
      obtain ⟨k1, k1'⟩ := hk1
      obtain ⟨k2, k2'⟩ := mul_bd (x0 - xm) kk 1000 60 (by omega) (by omega) k1 k1' (by omega)
      obtain ⟨r, hr⟩ : ∃ r, rndV ((x0 - xm) * kk) (y + 1) = r := ⟨_, rfl⟩
      have hr1 := rndV_bd ((x0 - xm) * kk) (y + 1) (by omega) (by omega) (by omega)
      rw [hr] at hr1
      obtain ⟨k3, k3'⟩ := hr1
      obtain ⟨u, hu⟩ : ∃ u, mxI 0 (x + r) = u := ⟨_, rfl⟩
      obtain ⟨v, hv2⟩ : ∃ v, mnI 1000 u = v := ⟨_, rfl⟩
      have hs : clI xs y (k + 1) = clI xs y k ++ [v] := by rw [clI_succ, clV, HG.out, clKk, HL.out, hkk, hr, ← hx, hu, hv2]
      have HS := Lib.hid hs
      clear hs hx
      have t1 : (0 : Int) ≤ (k : Int) := Int.natCast_nonneg _
      have t2 : (k : Int) < (n : Int) := by omega
      have t3 : IntKind.i64.wrap ((x0 - xm) * kk) = (x0 - xm) * kk := w64 (by omega) (by omega)
      have t4 : IntKind.i64.wrap (x + r) = x + r := w64 (by omega) (by omega)
      have t5 : IntKind.i64.wrap (y + 1) = y + 1 := w64 (by omega) (by omega)
      have hne : u8.ownBlock ≠ some b := fun e => by have := (HO.out.lt _ e).1; omega
      go_wp2_with (first | (go_at_call 43; refine (l00Max_any _ _ _).mono ?_; rintro e w' ⟨rfl, rfl⟩))
      go_region_held3 (fun w' => w'.cell? ⟨b, o + k, none⟩ = some (.int .i64 x))
        (first | go_keep | (rw [hgrow.cell_far _ (by simp; omega) (Ne.symm hne)]; assumption))
        (first | (go_at_call 45; refine (l00Round_any _ _ _ (by omega) (by omega) (by omega) (by omega)).mono ?_; rintro e w' ⟨rfl, rfl⟩) | (go_at_call 43; refine (l00Max_any _ _ _).mono ?_; rintro e w' ⟨rfl, rfl⟩) | (go_at_call 44; refine (l00Min_any _ _ _).mono ?_; rintro e w' ⟨rfl, rfl⟩) | ((refine step_append_lies _ (by rfl) _ _ _ (by rfl) w.heap.size 2 i0 (.int .i64 0) 1 8 Try.underlying22 hi hz0 hz1 hz2 rfl (by decide) u8 k ((clI xs y k).map (Value.int .i64)) (by rfl) ((HO.out.alloc _).drew) ⟨wr.heap.size, 0, none⟩ 1 1 [.int .i64 v] (by rfl) (by rfl) (fun j u h => cell_one_new wr _ _ j u h) (one_int _ _) (by omega) (by unfold maxLen; omega) (by omega) (by simp; omega) (wr.heap.size + 1) (by simp) ?_; intro gg cap w1 hown' hgrow hat hgl)))
      go_wp2
      have hb2 := (HB.out.alloc hz (.cells #[.int .i64 v] 2)).drew.grown hgrow (by simp; omega) (fun j hj => (HO.out.lt j hj).1)
      go_roundw
      case rel => exact ⟨k + 1, by omega, by go_num, by rw [HS.out, List.map_append]; exact hown', hb2⟩
      case measure => simp [intOf]; omega
    · go_wp2
      go_ret2
      have e : k = n := by omega
      subst e
      obtain ⟨A1, c1, h1, h2, h3⟩ := SlR.mk (clI_len xs y k) HO.out HB.out
      simp only [Ending.returned.injEq] at h1
      rw [h1]
      exact ⟨A1, c1, rfl, h2, h3⟩
set_option maxHeartbeats 4000000 in
theorem Close_walk (A : Option Addr) (n c : Nat) (xs : List Int) (y : Int) (w : World) (hv : vl xs = true) (hy : inB y 1 n = true) (hA : RI w A n xs) :
    Calls Try.prog 22 #[.slice A n c, .int .i64 y] w (SlC w.heap.size (clI xs y n) 0 w) := by
  obtain ⟨i0, hi, hz0, hz1, hz2⟩ := info_parts info_int64
  have hl := hA.1
  obtain ⟨⟨n1', n60'⟩, hp⟩ := vl_t hv
  obtain ⟨y1, y2⟩ := inB_t hy
  have n1 : 1 ≤ n := by omega
  have n60 : n ≤ 60 := by omega
  obtain ⟨b, o, rfl, hb0, _⟩ := hA.2 (by omega)
  obtain ⟨m, hm1, hm2⟩ : ∃ m : Nat, m = n - 1 ∧ (n : Int) - 1 = (m : Int) := ⟨n - 1, rfl, by omega⟩
  obtain ⟨b', o', e, q1⟩ := hA.at_ (k := 0) (by omega)
  obtain ⟨rfl, rfl⟩ : b = b' ∧ o = o' := by injection e with e; injection e with e1 e2; exact ⟨e1, e2⟩
  clear e
  obtain ⟨b', o', e, q2⟩ := hA.at_ (k := m) (by omega)
  obtain ⟨rfl, rfl⟩ : b = b' ∧ o = o' := by injection e with e; injection e with e1 e2; exact ⟨e1, e2⟩
  clear e
  obtain ⟨p1, p1'⟩ := hp 0 (by omega)
  obtain ⟨p2, p2'⟩ := hp m (by omega)
  obtain ⟨x0, hx0⟩ : ∃ x, x = xs.getD 0 0 := ⟨_, rfl⟩
  obtain ⟨xm, hxm⟩ : ∃ x, x = xs.getD m 0 := ⟨_, rfl⟩
  have hg : clG xs = x0 - xm := by rw [clG, hl, ← hm1, ← hx0, ← hxm]
  rw [← hx0] at q1 p1 p1'
  rw [← hxm] at q2 p2 p2'
  rw [Nat.add_zero] at q1
  have HA := Lib.hid hA
  have HG := Lib.hid hg
  have HL := Lib.hid hl
  have HP := Lib.hid (show Pl xs from hp)
  clear hg hx0 hxm hp hm1 hl hA n1' n60'
  have s1 : (0 : Int) ≤ (m : Int) := Int.natCast_nonneg _
  have s2 : (m : Int) < (n : Int) := by omega
  have s3 : (0 : Int) < (n : Int) := by omega
  have s4 : 0 < n := n1
  have s5 : m < n := by omega
  have s6 : ¬ n = 0 := by omega
  have s7 : IntKind.i64.wrap (m : Int) = (m : Int) := w64 (by omega) (by omega)
  have s8 : IntKind.i64.wrap (x0 - xm) = x0 - xm := w64 (by omega) (by omega)
  go_enter Try.func22, Try.ntmps22
  go_wp2_with (first | (go_at_call 13; refine (ValidLoop_any _ _ _ xs _ (by omega) HA.out).mono ?_; rintro e w' ⟨rfl, rfl⟩; simp only [hv]) | (go_at_call 37; refine (within_v hy _).mono ?_; rintro e w' ⟨rfl, rfl⟩))
  go_region_held3 (fun w' => w'.cell? ⟨b, o, none⟩ = some (.int .i64 x0) ∧ w'.cell? ⟨b, o + m, none⟩ = some (.int .i64 xm))
    (((try dsimp only); (refine ⟨?_, ?_⟩ <;> (first | (((with_reducible (repeat (first | assumption | refine keepD ?_ | refine keepN ?_ _ | refine keepA ?_)))); done) | (refine bcell_of hb1 ?_; with_reducible (repeat (first | assumption | refine keepD ?_ | refine keepN ?_ _ | refine keepA ?_)); done)))))
    (first | (go_at_call 46; refine (Clone_any b o n c xs _ (by omega) (RI.drewN HA.out _)).mono ?_; rintro e w1 ⟨A1, c1, rfl, ho1, hb1⟩))
  go_wp2
  obtain ⟨Y, rfl⟩ : ∃ Y : Nat, y = Y := ⟨y.toNat, by omega⟩
  have HOX := Lib.hid ho1
  have HBX := Lib.hid (show Below w.heap.size w w1 from bl_tr (bl_drewN (Below.refl _ _) 1) hb1)
  have hl := HL.out
  have hl2 := hl
  subst hl2
  obtain ⟨g, cap, hA1, _, hglt⟩ := HOX.out.form (by omega)
  obtain ⟨rfl, rfl⟩ : A1 = some ⟨g, 0, none⟩ ∧ c1 = cap := by injection hA1; exact ⟨by assumption, by assumption⟩
  clear hA1
  have hown0 : w1.ownsRow w.heap.size 2 1 (.slice (some ⟨g, 0, none⟩) xs.length c1) xs.length ((clM xs Y xs.length 0).map (Value.int .i64)) := by
    rw [clM_zero HP.out (by omega)]; exact HOX.out
  have HO0 := Lib.hid hown0
  clear ho1 hb1 hown0 hl
  have hg2 : w.heap.size ≤ g := (HO0.out.lt g rfl).1
  go_loopw [9, 10] (fun j _ wr => ∃ t : Nat, t ≤ Y ∧ j = .int .i64 ((t : Int) + 1) ∧ wr.ownsRow w.heap.size 2 1 (.slice (some ⟨g, 0, none⟩) xs.length c1) xs.length ((clM xs Y xs.length t).map (Value.int .i64)) ∧ Below w.heap.size w wr) (fun j _ _ => Y + 1 - (intOf j).toNat)
  case atStart => exact ⟨0, Nat.zero_le _, by go_num, HO0.out, HBX.out⟩
  case round =>
    obtain ⟨t, ht, rfl, ho, hb⟩ := hrel
    have HO := Lib.hid ho
    have HB := Lib.hid hb
    clear ho hb
    by_cases hlt : t < Y
    · obtain ⟨p, hp⟩ : ∃ p : Nat, p = xs.length - Y + t := ⟨_, rfl⟩
      have hpl : p < xs.length := by omega
      have hpi : (xs.length : Int) - (Y : Int) + ((t : Int) + 1) - 1 = (p : Int) := by omega
      obtain ⟨p3, p3'⟩ := HP.out p hpl
      have hst := HO.out.stored p (.int .i64 (clV xs Y p))
      have hcell := HO.out.cellAt p (by omega)
      have hgt : ((clM xs Y xs.length t).map (Value.int .i64))[p]? = some (.int .i64 (xs.getD p 0)) := by
        have h1 := clM_get (xs := xs) (Y := Y) (t := t)
        have h2 := clM_len (xs := xs) (Y := Y) (t := t) (by omega)
        rw [← hp] at h1
        rw [List.getElem?_map, List.getElem?_eq_getElem (by omega), ← h1]
        simp [List.getD, show p < (clM xs Y xs.length t).length by omega]
      rw [hgt] at hcell
      have hst2 : (((clM xs Y xs.length t).map (Value.int .i64)).set p (.int .i64 (clV xs Y p))) = (clM xs Y xs.length (t + 1)).map (Value.int .i64) := by
        rw [← clM_succ (by omega), ← hp, List.map_set]
      rw [hst2] at hst
      have hf := HO.out.frozenAt p
      obtain ⟨x, hx⟩ : ∃ x, x = xs.getD p 0 := ⟨_, rfl⟩
      have hkk : clKk xs Y p = (t : Int) + 1 := by unfold clKk mxI; split <;> omega
      obtain ⟨k2, k2'⟩ := mul_bd (x0 - xm) ((t : Int) + 1) 1000 60 (by omega) (by omega) (by omega) (by omega) (by omega)
      have hcm : ((t : Int) + 1) * (x0 - xm) = (x0 - xm) * ((t : Int) + 1) := Int.mul_comm _ _
      have hr1 := rndV_bd ((x0 - xm) * ((t : Int) + 1)) ((Y : Int) + 1) (by omega) (by omega) (by omega)
      obtain ⟨r, hr⟩ : ∃ r, rndV ((x0 - xm) * ((t : Int) + 1)) ((Y : Int) + 1) = r := ⟨_, rfl⟩
      rw [hr] at hr1
      obtain ⟨k3, k3'⟩ := hr1
      have hv : clV xs Y p = (if 1000 < if x + r < 0 then 0 else x + r then 1000 else if x + r < 0 then 0 else x + r) := by rw [clV, HG.out, hkk, hr, ← hx]; unfold mnI mxI; repeat' split <;> omega
      rw [hv] at hst
      rw [← hx] at hcell p3 p3'
      have HST := Lib.hid hst
      clear hst hst2 hgt hv hx hkk hp
      have t3 : IntKind.i64.wrap ((x0 - xm) * ((t : Int) + 1)) = (x0 - xm) * ((t : Int) + 1) := w64 (by omega) (by omega)
      have t4 : IntKind.i64.wrap (x + r) = x + r := w64 (by omega) (by omega)
      have t6 : 0 + p = p := Nat.zero_add _
      have t7 : IntKind.i64.wrap ((Y : Int) + 1) = (Y : Int) + 1 := w64 (by omega) (by omega)
      have t8 : (p : Int) < (xs.length : Int) := by omega
      go_wp2
      go_region_with ((go_at_call 47; refine (rounded_any _ _ _ (by omega) (by omega) (by omega) (by omega)).mono ?_; rintro e w' ⟨rfl, rfl⟩))
      all_goals
        go_wp2
        go_roundw
        case rel => exact ⟨t + 1, by omega, by go_num, HST.out.1, (HB.out.setCell (p := ⟨g, p, none⟩) hg2 _).drew⟩
        case measure => simp [intOf]; omega
    · have e : t = Y := by omega
      subst e
      go_wp2
      go_ret2
      have ho := HO.out
      rw [clM_all (by omega)] at ho
      obtain ⟨A2, c2, h1, h2, h3⟩ := SlR.mk (clI_len xs t xs.length) ho HB.out
      simp only [Ending.returned.injEq] at h1
      rw [h1]
      exact ⟨A2, c2, rfl, h2, h3⟩
end Go.Proofs.Yticdilgnjnnaiaa

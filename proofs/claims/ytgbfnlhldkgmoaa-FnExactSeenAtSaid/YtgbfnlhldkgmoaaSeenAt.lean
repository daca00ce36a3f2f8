/-
  PROVED HERE: the walks of SeenAt: the program and the reference agree. CONDITIONS: none beyond that each number is an int64.
-/
import Derived.Test.YtgbfnlhldkgmoaaFracD
import Derived.Test.YtgbfnlhldkgmoaaNear
namespace Go.Proofs.Ytgbfnlhldkgmoaa
open Go.RowKit

def kS (x y z : Int) : Int := if inB x 1 48 then (if inB y 1 48 then (if inB z 0 1000000 then 0 else 2) else 2) else 2
def vS (x y z : Int) : Int := if kS x y z = 0 then nearV x y z % x else 0
def nS (x y z : Int) : Int := if kS x y z = 0 then lowN (nearV x y z * y - z * x) y else 0
def dS (x y z : Int) : Int := if kS x y z = 0 then lowD (nearV x y z * y - z * x) y else 0
theorem s_no {x y z : Int} (h : kS x y z = 2) : vS x y z = 0 ∧ nS x y z = 0 ∧ dS x y z = 0 := by simp [vS, nS, dS, h]
theorem s_ok {x y z : Int} (h : kS x y z = 0) : vS x y z = nearV x y z % x ∧ nS x y z = lowN (nearV x y z * y - z * x) y ∧ dS x y z = lowD (nearV x y z * y - z * x) y := by simp [vS, nS, dS, h]
set_option maxHeartbeats 2000000 in
theorem SeenAt_any (x y z : Int) (w : World) :
    Calls Try.prog 40 #[.int .i64 x, .int .i64 y, .int .i64 z] w fun e w' => e = .returned (.tuple #[.int .i64 (vS x y z), .agg #[.int .i64 (nS x y z), .int .i64 (dS x y z)], .int .i64 (kS x y z)]) ∧ Below w.heap.size w w' := by
  cases h0 : inB x 1 48
  rotate_left
  cases h1 : inB y 1 48
  rotate_left
  cases h2 : inB z 0 1000000
  rotate_left
  · obtain ⟨_, _⟩ := inB_t h0
    obtain ⟨_, _⟩ := inB_t h1
    obtain ⟨_, _⟩ := inB_t h2
    have hk : kS x y z = 0 := by simp [kS, h0, h1, h2]
    obtain ⟨e1, e2, e3⟩ := s_ok hk
    rw [e1, e2, e3, hk]
    clear e1 e2 e3 hk
    obtain ⟨n1, n2, n3, n4⟩ := near_bd x y z (by omega) (by omega) (by omega) (by omega) (by omega) (by omega)
    obtain ⟨a1, a2, _⟩ := fp_bd x z (by omega) (by omega) (by omega) (by omega)
    obtain ⟨f1, f2, f3⟩ := c_t (vf_low (nearV x y z * y - z * x) y (by omega) (by omega) (by omega) (by omega))
    have n5 : 0 ≤ nearV x y z * y := Int.mul_nonneg n1 (by omega)
    have n6 : nearV x y z * y ≤ 48000100 := by omega
    have w1 : IntKind.i64.wrap (nearV x y z * y) = nearV x y z * y := IntWalk.i64_in _ ⟨by omega, by omega⟩
    have F1 := Lib.hid f1
    have F2 := Lib.hid f2
    have F3 := Lib.hid f3
    have s1 : 0 ≤ nearV x y z % x := Int.emod_nonneg _ (by omega)
    have s2 : IntKind.i64.wrap ((nearV x y z).tmod x) = nearV x y z % x := by rw [Int.tmod_eq_emod_of_nonneg n1]; have := Int.emod_lt_of_pos (nearV x y z) (show 0 < x by omega); exact IntWalk.i64_in _ ⟨by omega, by omega⟩
    clear f1 f2 f3 w1
    go_enter Try.func40, Try.ntmps40
    go_wp2_with (first | (go_at_call 61; refine (nearest_any _ _ _ _ (by omega) (by omega) (by omega) (by omega) (by omega) (by omega)).mono ?_; rintro e w' ⟨rfl, rfl⟩) | (go_at_call 59; refine (l03Near_any _ _ _ _ (by omega) (by omega) (by omega) (by omega) (by omega) (by omega)).mono ?_; rintro e w' ⟨rfl, rfl⟩) | (go_at_call 47; refine (checked_any _ _ _).mono ?_; rintro e w' ⟨rfl, o1, o2, o3, k1, rfl⟩; rw [F1.out, F2.out, F3.out]) | (first | (go_at_call 42; refine (ValidFraction_any _ _ _).mono ?_; rintro e w' ⟨rfl, o1, k1, rfl⟩) | (go_at_call 49; refine (l02Ok_any _ _ _).mono ?_; rintro e w' ⟨rfl, o1, k1, rfl⟩) | (go_at_call 48; refine (lowest_any _ _ _ (by omega) (by omega) (by omega) (by omega)).mono ?_; rintro e w' ⟨rfl, o1, k1, rfl⟩) | (go_at_call 47; refine (checked_any _ _ _).mono ?_; rintro e w' ⟨rfl, o1, o2, o3, k1, rfl⟩) | (go_at_call 45; refine (l02Full_any _ _ _ (by omega) (by omega) (by omega) (by omega)).mono ?_; rintro e w' ⟨rfl, o1, o2, o3, o4, k1, rfl⟩) | (go_at_call 58; refine (l02Make_any _ _ _ (by omega) (by omega) (by omega) (by omega)).mono ?_; rintro e w' ⟨rfl, o1, k1, rfl⟩) | (go_at_call 46; refine (within_any _ _ _ _).mono ?_; rintro e w' ⟨rfl, rfl⟩) | (go_at_call 44; refine (l00In_any _ _ _ _).mono ?_; rintro e w' ⟨rfl, rfl⟩) | go_in))
    go_region
    all_goals
      go_wp2
      refine bodyPost_ret (v := .tuple #[.int .i64 (nearV x y z % x), .agg #[.int .i64 (lowN (nearV x y z * y - z * x) y), .int .i64 (lowD (nearV x y z * y - z * x) y)], .int .i64 0]) (by simp [results, Try.results40, go_sem]) rfl ⟨rfl, ?_⟩
      repeat (first | exact Below.refl _ _ | assumption | refine bl_drewN ?_ _ | refine Below.drew ?_ | refine bl_al ?_ _ | (refine Below.setCell ?_ (by simp <;> omega) _) | refine bl_tr ?_ (by assumption))
  all_goals
    have hk : kS x y z = 2 := by simp [kS, *]
    obtain ⟨e1, e2, e3⟩ := s_no hk
    rw [e1, e2, e3, hk]
    clear e1 e2 e3 hk
    go_enter Try.func40, Try.ntmps40
    go_wp2_with (first | (go_at_call 46; refine (within_any _ _ _ _).mono ?_; rintro e w' ⟨rfl, rfl⟩) | (go_at_call 44; refine (l00In_any _ _ _ _).mono ?_; rintro e w' ⟨rfl, rfl⟩) | go_in)
    refine bodyPost_ret (v := .tuple #[.int .i64 0, .agg #[.int .i64 0, .int .i64 0], .int .i64 2]) (by simp [results, Try.results40, go_sem]) rfl ⟨rfl, ?_⟩
    repeat (first | exact Below.refl _ _ | assumption | refine bl_drewN ?_ _ | refine Below.drew ?_ | refine bl_al ?_ _ | (refine Below.setCell ?_ (by simp <;> omega) _) | refine bl_tr ?_ (by assumption))
set_option maxHeartbeats 2000000 in
theorem lSeenAt_any (x y z : Int) (w : World) :
    Calls Try.prog 39 #[.int .i64 x, .int .i64 y, .int .i64 z] w fun e w' => e = .returned (.tuple #[.int .i64 (vS x y z), .agg #[.int .i64 (nS x y z), .int .i64 (dS x y z)], .int .i64 (kS x y z)]) ∧ Below w.heap.size w w' := by
  cases h0 : inB x 1 48
  rotate_left
  cases h1 : inB y 1 48
  rotate_left
  cases h2 : inB z 0 1000000
  rotate_left
  · obtain ⟨_, _⟩ := inB_t h0
    obtain ⟨_, _⟩ := inB_t h1
    obtain ⟨_, _⟩ := inB_t h2
    have hk : kS x y z = 0 := by simp [kS, h0, h1, h2]
    obtain ⟨e1, e2, e3⟩ := s_ok hk
    rw [e1, e2, e3, hk]
    clear e1 e2 e3 hk
    obtain ⟨n1, n2, n3, n4⟩ := near_bd x y z (by omega) (by omega) (by omega) (by omega) (by omega) (by omega)
    obtain ⟨a1, a2, _⟩ := fp_bd x z (by omega) (by omega) (by omega) (by omega)
    obtain ⟨f1, f2, f3⟩ := c_t (vf_low (nearV x y z * y - z * x) y (by omega) (by omega) (by omega) (by omega))
    have n5 : 0 ≤ nearV x y z * y := Int.mul_nonneg n1 (by omega)
    have n6 : nearV x y z * y ≤ 48000100 := by omega
    have w1 : IntKind.i64.wrap (nearV x y z * y) = nearV x y z * y := IntWalk.i64_in _ ⟨by omega, by omega⟩
    have F1 := Lib.hid f1
    have F2 := Lib.hid f2
    have F3 := Lib.hid f3
    have s1 : 0 ≤ nearV x y z % x := Int.emod_nonneg _ (by omega)
    have s2 : IntKind.i64.wrap ((nearV x y z).tmod x) = nearV x y z % x := by rw [Int.tmod_eq_emod_of_nonneg n1]; have := Int.emod_lt_of_pos (nearV x y z) (show 0 < x by omega); exact IntWalk.i64_in _ ⟨by omega, by omega⟩
    clear f1 f2 f3 w1
    go_enter Try.func39, Try.ntmps39
    go_wp2_with (first | (go_at_call 61; refine (nearest_any _ _ _ _ (by omega) (by omega) (by omega) (by omega) (by omega) (by omega)).mono ?_; rintro e w' ⟨rfl, rfl⟩) | (go_at_call 59; refine (l03Near_any _ _ _ _ (by omega) (by omega) (by omega) (by omega) (by omega) (by omega)).mono ?_; rintro e w' ⟨rfl, rfl⟩) | (go_at_call 47; refine (checked_any _ _ _).mono ?_; rintro e w' ⟨rfl, o1, o2, o3, k1, rfl⟩; rw [F1.out, F2.out, F3.out]) | (first | (go_at_call 42; refine (ValidFraction_any _ _ _).mono ?_; rintro e w' ⟨rfl, o1, k1, rfl⟩) | (go_at_call 49; refine (l02Ok_any _ _ _).mono ?_; rintro e w' ⟨rfl, o1, k1, rfl⟩) | (go_at_call 48; refine (lowest_any _ _ _ (by omega) (by omega) (by omega) (by omega)).mono ?_; rintro e w' ⟨rfl, o1, k1, rfl⟩) | (go_at_call 47; refine (checked_any _ _ _).mono ?_; rintro e w' ⟨rfl, o1, o2, o3, k1, rfl⟩) | (go_at_call 45; refine (l02Full_any _ _ _ (by omega) (by omega) (by omega) (by omega)).mono ?_; rintro e w' ⟨rfl, o1, o2, o3, o4, k1, rfl⟩) | (go_at_call 58; refine (l02Make_any _ _ _ (by omega) (by omega) (by omega) (by omega)).mono ?_; rintro e w' ⟨rfl, o1, k1, rfl⟩) | (go_at_call 46; refine (within_any _ _ _ _).mono ?_; rintro e w' ⟨rfl, rfl⟩) | (go_at_call 44; refine (l00In_any _ _ _ _).mono ?_; rintro e w' ⟨rfl, rfl⟩) | go_in))
    go_region_held3 (fun w' => w'.cell? ⟨w.heap.size + 1 + 1, 0, none⟩ = some (.int .i64 (lowN (nearV x y z * y - z * x) y)) ∧ w'.cell? ⟨w.heap.size + 1 + 1, 1, none⟩ = some (.int .i64 (lowD (nearV x y z * y - z * x) y))) (((try dsimp only); (refine ⟨?_, ?_⟩ <;> (first | ((with_reducible (repeat (first | assumption | refine keepD ?_ | refine keepN ?_ _ | refine keepA ?_))); done) | (simp [go_sem]; done))))) (first | (go_at_call 60; refine (l03Seen_any _ _ _ _ (by omega) (by omega) (by omega) (by omega) (by omega) (by omega)).mono ?_; rintro e w' ⟨rfl, rfl⟩))
    all_goals
      go_wp2
      refine bodyPost_ret (v := .tuple #[.int .i64 (nearV x y z % x), .agg #[.int .i64 (lowN (nearV x y z * y - z * x) y), .int .i64 (lowD (nearV x y z * y - z * x) y)], .int .i64 0]) (by simp [results, Try.results39, go_sem]) rfl ⟨rfl, ?_⟩
      repeat (first | exact Below.refl _ _ | assumption | refine bl_drewN ?_ _ | refine Below.drew ?_ | refine bl_al ?_ _ | (refine Below.setCell ?_ (by simp <;> omega) _) | refine bl_tr ?_ (by assumption))
  all_goals
    have hk : kS x y z = 2 := by simp [kS, *]
    obtain ⟨e1, e2, e3⟩ := s_no hk
    rw [e1, e2, e3, hk]
    clear e1 e2 e3 hk
    go_enter Try.func39, Try.ntmps39
    go_wp2_with (first | (go_at_call 46; refine (within_any _ _ _ _).mono ?_; rintro e w' ⟨rfl, rfl⟩) | (go_at_call 44; refine (l00In_any _ _ _ _).mono ?_; rintro e w' ⟨rfl, rfl⟩) | go_in)
    refine bodyPost_ret (v := .tuple #[.int .i64 0, .agg #[.int .i64 0, .int .i64 0], .int .i64 2]) (by simp [results, Try.results39, go_sem]) rfl ⟨rfl, ?_⟩
    repeat (first | exact Below.refl _ _ | assumption | refine bl_drewN ?_ _ | refine Below.drew ?_ | refine bl_al ?_ _ | (refine Below.setCell ?_ (by simp <;> omega) _) | refine bl_tr ?_ (by assumption))
set_option maxHeartbeats 1000000 in
theorem law_SeenAt (x : Int) (_wx : (Lit.int .i64 x).wf = true) (y : Int) (_wy : (Lit.int .i64 y).wf = true) (z : Int) (_wz : (Lit.int .i64 z).wf = true) (w : World) :
    Calls Try.prog 14 #[.int .i64 x, .int .i64 y, .int .i64 z] w fun e w' => e = .returned (.bool true) ∧ Below w.heap.size w w' := by
  go_enter Try.func14, Try.ntmps14
  go_wp2_with (first | (go_at_call 39; refine (lSeenAt_any _ _ _ _).mono ?_; rintro e w1 ⟨rfl, hb1⟩) | (go_at_call 40; refine (SeenAt_any _ _ _ _).mono ?_; rintro e w2 ⟨rfl, hb2⟩; have d0 : w2.cell? ⟨w1.heap.size, 0, none⟩ = some (.int .i64 (nS x y z)) := bcell_of hb2 (by simp [go_sem]); have d1 : w2.cell? ⟨w1.heap.size, 1, none⟩ = some (.int .i64 (dS x y z)) := bcell_of hb2 (by simp [go_sem]); have l2 : w1.heap.size < w2.heap.size := World.block_lt_of_cell? w2 _ d0) | (go_at_call 20; refine (eqFraction_any _ _ _).mono ?_; rintro e w' ⟨rfl, o1, o2, k1, rfl⟩))
  go_ret
  refine ⟨rfl, ?_⟩
  repeat (first | exact Below.refl _ _ | assumption | refine bl_drewN ?_ _ | refine Below.drew ?_ | refine bl_al ?_ _ | (refine Below.setCell ?_ (by simp <;> omega) _) | refine bl_tr ?_ (by assumption))
end Go.Proofs.Ytgbfnlhldkgmoaa

/-
  PROVED HERE: contracts of a disc's drift, in the program and in the reference. CONDITIONS: 1 to 48 pictures and slits.
-/
import Derived.Test.YtdmiieijflochaaFracA
namespace Go.Proofs.Ytdmiieijflochaa
open Go.RowKit

/-- The drift's upper number. -/
def drf (p s : Int) : Int := if s < 2 * (p % s) then p % s - s else p % s
theorem drift_eq (p s : Int) (h2 : 1 ≤ s) : p - (2 * p + s - 1) / (2 * s) * s = drf p s := by
  have e := Int.emod_add_mul_ediv p s
  have r0 := Int.emod_nonneg p (show s ≠ 0 by omega)
  have r1 := Int.emod_lt_of_pos p (show 0 < s by omega)
  unfold drf
  generalize hq : p / s = q at *
  generalize hr : p % s = r at *
  split
  · have : (2 * p + s - 1) / (2 * s) = q + 1 := by
      have e2 : 2 * p + s - 1 = (2 * r + s - 1 - 2 * s) + (2 * s) * (q + 1) := by
        rw [← e]; rw [Int.mul_add, Int.mul_add, Int.mul_assoc]; omega
      rw [e2, Int.add_mul_ediv_left _ _ (by omega), Int.ediv_eq_zero_of_lt (by omega) (by omega)]; omega
    rw [this, Int.add_mul, Int.mul_comm q s]; omega
  · have : (2 * p + s - 1) / (2 * s) = q := by
      have e2 : 2 * p + s - 1 = (2 * r + s - 1) + (2 * s) * q := by
        rw [← e]; rw [Int.mul_add, Int.mul_assoc]; omega
      rw [e2, Int.add_mul_ediv_left _ _ (by omega), Int.ediv_eq_zero_of_lt (by omega) (by omega)]; omega
    rw [this, Int.mul_comm q s]; omega
theorem drf_bd (p s : Int) (h : 1 ≤ s) : -s ≤ drf p s ∧ drf p s ≤ s := by
  have r0 := Int.emod_nonneg p (show s ≠ 0 by omega)
  have r1 := Int.emod_lt_of_pos p (show 0 < s by omega)
  unfold drf
  split <;> omega
theorem gcd_div (n d : Int) (h : 1 ≤ d) : Int.gcd (n.tdiv (Int.gcd n d)) (d / (Int.gcd n d)) = 1 := by
  have hg : 0 < Int.gcd n d := by
    have : Int.gcd n d ≠ 0 := by rw [Ne, Int.gcd_eq_zero_iff]; omega
    omega
  have hn : ((Int.gcd n d : Nat) : Int) ∣ n := Int.gcd_dvd_left ..
  rw [Int.tdiv_eq_ediv_of_dvd hn]
  exact Int.gcd_ediv_gcd_ediv_gcd hg
/-- What is put in lowest terms is valid where it is not too great. -/
theorem vf_low (n d : Int) (h1 : -1000000 ≤ n) (h2 : n ≤ 1000000) (h3 : 1 ≤ d) (h4 : d ≤ 1000000) : vf (lowN n d) (lowD n d) = true := by
  obtain ⟨a1, a2⟩ := tdiv_bd n (G n d) _ h1 h2
  obtain ⟨b1, b2⟩ := lowD_bd n d h3
  have hg : G (lowN n d) (lowD n d) = 1 := by
    have := gcd_div n d h3
    unfold G lowN lowD
    unfold G
    rw [this]; rfl
  simp only [vf, Bool.and_eq_true, beq_iff_eq]
  exact ⟨⟨inB_mk b1 (by omega), inB_mk a1 a2⟩, hg⟩
theorem driftOf_any (p s : Int) (w : World) (h1 : 1 ≤ p) (h2 : p ≤ 48) (h3 : 1 ≤ s) (h4 : s ≤ 48) :
    Calls Try.prog 67 #[.int .i64 p, .int .i64 s] w fun e w' => e = .returned (.agg #[.int .i64 (lowN (drf p s) s), .int .i64 (lowD (drf p s) s)]) ∧ ∃ (c1 c2 : Array Value) (k : Nat), w' = ((w.alloc (.cells c1 46)).alloc (.cells c2 46)).drewN k := by
  obtain ⟨d1, d2⟩ := drf_bd p s h3
  have e := drift_eq p s h3
  have m1 : -48 ≤ (2 * p + s - 1) / (2 * s) * s := by omega
  have m2 : (2 * p + s - 1) / (2 * s) * s ≤ 96 := by omega
  rw [← e]
  rw [← e] at d1 d2
  clear e
  go_enter Try.func67, Try.ntmps67
  go_wp2_with (go_at_call 81; refine (lowest_any _ _ _ (by omega) (by omega) (by omega) (by omega)).mono ?_; rintro e w' ⟨rfl, o1, k1, rfl⟩)
  refine bodyPost_ret (v := .agg #[.int .i64 (lowN (p - (2 * p + s - 1) / (2 * s) * s) s), .int .i64 (lowD (p - (2 * p + s - 1) / (2 * s) * s) s)]) (by simp [results, Try.results67, go_sem]) rfl ⟨rfl, _, _, _, rfl⟩
theorem l03Drift_any (p s : Int) (w : World) (h1 : 1 ≤ p) (h2 : p ≤ 48) (h3 : 1 ≤ s) (h4 : s ≤ 48) :
    Calls Try.prog 65 #[.int .i64 p, .int .i64 s] w fun e w' => e = .returned (.agg #[.int .i64 (lowN (drf p s) s), .int .i64 (lowD (drf p s) s)]) ∧ ∃ (c1 c2 : Array Value) (k : Nat), w' = ((w.alloc (.cells c1 46)).alloc (.cells c2 46)).drewN k := by
  have r0 := Int.emod_nonneg p (show s ≠ 0 by omega)
  have r1 := Int.emod_lt_of_pos p (show 0 < s by omega)
  by_cases h : s < 2 * (p % s)
  · have e : drf p s = p % s - s := if_pos h
    rw [e]
    clear e
    go_enter Try.func65, Try.ntmps65
    go_wp2_with (go_at_call 79; refine (l02Make_any _ _ _ (by omega) (by omega) (by omega) (by omega)).mono ?_; rintro e w' ⟨rfl, o1, k1, rfl⟩)
    refine bodyPost_ret (v := .agg #[.int .i64 (lowN (p % s - s) s), .int .i64 (lowD (p % s - s) s)]) (by simp [results, Try.results65, go_sem]) rfl ⟨rfl, _, _, _, rfl⟩
  · have e : drf p s = p % s := if_neg h
    rw [e]
    clear e
    go_enter Try.func65, Try.ntmps65
    go_wp2_with (go_at_call 79; refine (l02Make_any _ _ _ (by omega) (by omega) (by omega) (by omega)).mono ?_; rintro e w' ⟨rfl, o1, k1, rfl⟩)
    refine bodyPost_ret (v := .agg #[.int .i64 (lowN (p % s) s), .int .i64 (lowD (p % s) s)]) (by simp [results, Try.results65, go_sem]) rfl ⟨rfl, _, _, _, rfl⟩
end Go.Proofs.Ytdmiieijflochaa

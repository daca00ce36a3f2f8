/-
  PROVED HERE: contracts of the picture that is nearest at a flash, in the program and in the reference. CONDITIONS: 1 to 48 pictures and slits, a flash from 0 to a million.
-/
import Derived.Test.YtdmiieijflochaaBase
namespace Go.Proofs.Ytdmiieijflochaa
open Go.RowKit

/-- The number of pictures that is nearest to what has passed at a flash. -/
def nearV (p s f : Int) : Int := (2 * f * p + s) / (2 * s)
theorem fp_bd (p f : Int) (h1 : 1 ≤ p) (h2 : p ≤ 48) (h3 : 0 ≤ f) (h4 : f ≤ 1000000) : 0 ≤ f * p ∧ f * p ≤ 48000000 ∧ 2 * f * p = 2 * (f * p) := by
  refine ⟨Int.mul_nonneg h3 (by omega), ?_, Int.mul_assoc ..⟩
  have e1 : f * p ≤ 1000000 * p := Int.mul_le_mul_of_nonneg_right h4 (by omega)
  omega
theorem near_bd (p s f : Int) (h1 : 1 ≤ p) (h2 : p ≤ 48) (h3 : 0 ≤ f) (h4 : f ≤ 1000000) (h5 : 1 ≤ s) (h6 : s ≤ 48) :
    0 ≤ nearV p s f ∧ nearV p s f ≤ 48000048 ∧ -s ≤ nearV p s f * s - f * p ∧ nearV p s f * s - f * p ≤ s := by
  obtain ⟨a1, a2, a3⟩ := fp_bd p f h1 h2 h3 h4
  unfold nearV
  rw [a3]
  generalize f * p = X at *
  have e := Int.emod_add_mul_ediv (2 * X + s) (2 * s)
  have r0 := Int.emod_nonneg (2 * X + s) (show 2 * s ≠ 0 by omega)
  have r1 := Int.emod_lt_of_pos (2 * X + s) (show 0 < 2 * s by omega)
  have q0 : 0 ≤ (2 * X + s) / (2 * s) := Int.ediv_nonneg (by omega) (by omega)
  generalize (2 * X + s) / (2 * s) = q at *
  generalize (2 * X + s) % (2 * s) = r at *
  have e2 : 2 * s * q = 2 * (q * s) := by rw [Int.mul_assoc, Int.mul_comm s q]
  have q1 : q ≤ q * s := by
    have := Int.mul_le_mul_of_nonneg_left h5 q0
    omega
  rw [e2] at e
  refine ⟨q0, by omega, by omega, by omega⟩
theorem nearest_any (p s f : Int) (w : World) (h1 : 1 ≤ p) (h2 : p ≤ 48) (h5 : 1 ≤ s) (h6 : s ≤ 48) (h3 : 0 ≤ f) (h4 : f ≤ 1000000) :
    Calls Try.prog 77 #[.int .i64 p, .int .i64 s, .int .i64 f] w fun e w' => e = .returned (.int .i64 (nearV p s f)) ∧ w = w' := by
  obtain ⟨a1, a2, a3⟩ := fp_bd p f h1 h2 h3 h4
  have a4 : 0 ≤ 2 * f * p := by omega
  have a5 : 2 * f * p ≤ 96000000 := by omega
  clear a3
  go_enter Try.func77, Try.ntmps77
  go_wp2
  go_ret
  exact ⟨rfl, rfl⟩
theorem l03Near_any (p s f : Int) (w : World) (h1 : 1 ≤ p) (h2 : p ≤ 48) (h5 : 1 ≤ s) (h6 : s ≤ 48) (h3 : 0 ≤ f) (h4 : f ≤ 1000000) :
    Calls Try.prog 85 #[.int .i64 p, .int .i64 s, .int .i64 f] w fun e w' => e = .returned (.int .i64 (nearV p s f)) ∧ w = w' := by
  obtain ⟨a1, a2, a3⟩ := fp_bd p f h1 h2 h3 h4
  have b0 : 0 ≤ (2 * (f * p) + s) % (2 * s) := Int.emod_nonneg _ (by omega)
  have e1 : nearV p s f = (2 * (f * p) + s) / (2 * s) := by unfold nearV; rw [a3]
  rw [e1]
  clear e1 a3
  go_enter Try.func85, Try.ntmps85
  go_wp2
  go_ret
  exact ⟨rfl, rfl⟩
theorem l03Seen_any (p s f : Int) (w : World) (h1 : 1 ≤ p) (h2 : p ≤ 48) (h5 : 1 ≤ s) (h6 : s ≤ 48) (h3 : 0 ≤ f) (h4 : f ≤ 1000000) :
    Calls Try.prog 76 #[.int .i64 p, .int .i64 s, .int .i64 f] w fun e w' => e = .returned (.int .i64 (nearV p s f % p)) ∧ w = w' := by
  obtain ⟨a1, a2, _, _⟩ := near_bd p s f h1 h2 h3 h4 h5 h6
  go_enter Try.func76, Try.ntmps76
  go_wp2_with (go_at_call 85; refine (l03Near_any _ _ _ _ h1 h2 h5 h6 h3 h4).mono ?_; rintro e w' ⟨rfl, rfl⟩)
  go_ret
  exact ⟨rfl, rfl⟩
end Go.Proofs.Ytdmiieijflochaa

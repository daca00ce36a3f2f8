/-
  PROVED HERE: contracts of the nearest whole number of a quotient, in the program and in the reference. CONDITIONS: as each theorem names them.
-/
import Derived.Test.YtdmiieijflochaaBase
namespace Go.Proofs.Ytdmiieijflochaa
open Go.RowKit

/-- The whole number nearest to num / den, a half upwards. -/
def rndV (num den : Int) : Int := (2 * num + den) / (2 * den)
theorem floor_pos (X D : Int) (h : 0 ≤ X) : X.tdiv D = X / D := Int.tdiv_eq_ediv_of_nonneg h
theorem floor_lt (X D : Int) (hD : 0 < D) (h : X.tmod D < 0) : X.tdiv D - 1 = X / D := by
  have e1 := Int.tmod_add_mul_tdiv X D
  have e2 := Int.emod_add_mul_ediv X D
  have r0 := Int.emod_nonneg X (show D ≠ 0 by omega)
  have r1 := Int.emod_lt_of_pos X hD
  have t1 : -D < X.tmod D := by
    have := tm_lt X (show D ≠ 0 by omega)
    omega
  have e3 : X / D = X.tdiv D - 1 := by
    have hx : D * (X / D) + X % D = D * (X.tdiv D) + X.tmod D := by omega
    have hy : D * (X.tdiv D - X / D) = X % D - X.tmod D := by rw [Int.mul_sub]; omega
    have hz : 0 < X.tdiv D - X / D := by
      apply Int.pos_of_mul_pos_right (a := D) _ hD |> fun f => f
      omega
    have hw : X.tdiv D - X / D < 2 := by
      apply Int.lt_of_mul_lt_mul_left (a := D) _ (by omega)
      omega
    omega
  omega
theorem floor_eq (X D : Int) (h : ¬ X.tmod D < 0) : X.tdiv D = X / D := by
  by_cases hx : 0 ≤ X
  · exact floor_pos X D hx
  · have : X.tmod D ≤ 0 := by
      have e : X.tmod D = -((-X).tmod D) := by rw [Int.neg_tmod]; omega
      have := Int.tmod_nonneg (a := -X) D (by omega)
      omega
    have h0 : X.tmod D = 0 := by omega
    have hd : D ∣ X := Int.dvd_of_tmod_eq_zero h0
    exact Int.tdiv_eq_ediv_of_dvd hd
theorem rtdiv_bd (n g : Int) (B : Int) (h1 : -B ≤ n) (h2 : n ≤ B) : -B ≤ n.tdiv g ∧ n.tdiv g ≤ B := by
  have := Int.natAbs_tdiv_le_natAbs n g
  omega
theorem rounded_any (n d : Int) (w : World) (h1 : -1000000000000 ≤ n) (h2 : n ≤ 1000000000000) (h3 : 1 ≤ d) (h4 : d ≤ 1000000000) :
    Calls Try.prog 75 #[.int .i64 n, .int .i64 d] w fun e w' => e = .returned (.int .i64 (rndV n d)) ∧ w = w' := by
  obtain ⟨_, _⟩ := rtdiv_bd (2 * n + d) (2 * d) 3000000000000 (by omega) (by omega)
  by_cases hx : (2 * n + d).tmod (2 * d) < 0
  · go_enter Try.func75, Try.ntmps75
    go_wp2
    go_ret
    exact ⟨ret_int (floor_lt _ _ (by omega) hx), rfl⟩
  · go_enter Try.func75, Try.ntmps75
    go_wp2
    go_ret
    exact ⟨ret_int (floor_eq _ _ (by omega)), rfl⟩
theorem l00Round_any (n d : Int) (w : World) (h1 : -1000000000000 ≤ n) (h2 : n ≤ 1000000000000) (h3 : 1 ≤ d) (h4 : d ≤ 1000000000) :
    Calls Try.prog 74 #[.int .i64 n, .int .i64 d] w fun e w' => e = .returned (.int .i64 (rndV n d)) ∧ w = w' := by
  obtain ⟨_, _⟩ := rtdiv_bd (2 * n + d) (2 * d) 3000000000000 (by omega) (by omega)
  by_cases hx : (2 * n + d).tmod (2 * d) < 0
  · go_enter Try.func74, Try.ntmps74
    go_wp2
    go_ret
    exact ⟨ret_int (floor_lt _ _ (by omega) hx), rfl⟩
  · go_enter Try.func74, Try.ntmps74
    go_wp2
    go_ret
    exact ⟨ret_int (floor_eq _ _ (by omega)), rfl⟩
end Go.Proofs.Ytdmiieijflochaa

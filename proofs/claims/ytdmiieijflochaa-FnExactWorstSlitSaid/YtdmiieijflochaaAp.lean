/-
  PROVED HERE: contracts of how far two numbers are apart, in the program and in the reference. CONDITIONS: as each theorem names them.
-/
import Derived.Test.YtdmiieijflochaaBase
namespace Go.Proofs.Ytdmiieijflochaa
open Go.RowKit

def abI (n : Int) : Int := if n < 0 then -n else n
theorem abI_neg {n : Int} (h : n < 0) : abI n = -n := if_pos h
theorem abI_pos {n : Int} (h : 0 ≤ n) : abI n = n := if_neg (by omega)
theorem abI_bd (n : Int) (B : Int) (h1 : -B ≤ n) (h2 : n ≤ B) : 0 ≤ abI n ∧ abI n ≤ B := by unfold abI; split <;> omega
theorem size_any (n : Int) (w : World) (h1 : -10000000000000 ≤ n) (h2 : n ≤ 10000000000000) :
    Calls Try.prog 55 #[.int .i64 n] w fun e w' => e = .returned (.int .i64 (abI n)) ∧ w = w' := by
  by_cases h : n < 0
  · go_enter Try.func55, Try.ntmps55
    go_wp2
    go_ret
    exact ⟨ret_int (abI_neg h).symm, rfl⟩
  · go_enter Try.func55, Try.ntmps55
    go_wp2
    go_ret
    exact ⟨ret_int (abI_pos (by omega)).symm, rfl⟩
theorem apart_any (a b : Int) (w : World) (h1 : -1000000000000 ≤ a) (h2 : a ≤ 1000000000000) (h3 : -1000000000000 ≤ b) (h4 : b ≤ 1000000000000) :
    Calls Try.prog 57 #[.int .i64 a, .int .i64 b] w fun e w' => e = .returned (.int .i64 (abI (a - b))) ∧ w = w' := by
  by_cases h : a - b < 0
  · have e : abI (a - b) = b - a := by rw [abI_neg h]; omega
    rw [e]
    clear e
    go_enter Try.func57, Try.ntmps57
    go_wp2
    go_ret
    exact ⟨ret_int (by omega), rfl⟩
  · have e : abI (a - b) = a - b := abI_pos (by omega)
    rw [e]
    clear e
    go_enter Try.func57, Try.ntmps57
    go_wp2
    go_ret
    exact ⟨ret_int (by omega), rfl⟩
end Go.Proofs.Ytdmiieijflochaa

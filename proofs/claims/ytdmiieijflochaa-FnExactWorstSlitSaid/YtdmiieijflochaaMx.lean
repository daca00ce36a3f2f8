/-
  PROVED HERE: contracts of the reference's greater and lesser one of two numbers. CONDITIONS: as each theorem names them.
-/
import Derived.Test.YtdmiieijflochaaBase
namespace Go.Proofs.Ytdmiieijflochaa
open Go.RowKit

def mxI (a b : Int) : Int := if b < a then a else b
def mnI (a b : Int) : Int := if a < b then a else b
theorem mxI_t {a b : Int} (h : b < a) : mxI a b = a := if_pos h
theorem mxI_f {a b : Int} (h : ¬ b < a) : mxI a b = b := if_neg h
theorem mnI_t {a b : Int} (h : a < b) : mnI a b = a := if_pos h
theorem mnI_f {a b : Int} (h : ¬ a < b) : mnI a b = b := if_neg h
theorem l00Max_any (a b : Int) (w : World) :
    Calls Try.prog 51 #[.int .i64 a, .int .i64 b] w fun e w' => e = .returned (.int .i64 (mxI a b)) ∧ w = w' := by
  by_cases h : b < a
  · rw [mxI_t h]
    go_enter Try.func51, Try.ntmps51
    go_wp2
    go_ret
    exact ⟨rfl, rfl⟩
  · rw [mxI_f h]
    go_enter Try.func51, Try.ntmps51
    go_wp2
    go_ret
    exact ⟨rfl, rfl⟩
theorem l00Min_any (a b : Int) (w : World) :
    Calls Try.prog 56 #[.int .i64 a, .int .i64 b] w fun e w' => e = .returned (.int .i64 (mnI a b)) ∧ w = w' := by
  by_cases h : a < b
  · rw [mnI_t h]
    go_enter Try.func56, Try.ntmps56
    go_wp2
    go_ret
    exact ⟨rfl, rfl⟩
  · rw [mnI_f h]
    go_enter Try.func56, Try.ntmps56
    go_wp2
    go_ret
    exact ⟨rfl, rfl⟩
end Go.Proofs.Ytdmiieijflochaa

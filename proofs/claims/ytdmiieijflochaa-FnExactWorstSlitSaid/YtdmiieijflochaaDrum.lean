/-
  PROVED HERE: the walks of laws over drums: the program and the reference agree. CONDITIONS: none beyond that each number is an int64.
-/
import Derived.Test.YtdmiieijflochaaBase
namespace Go.Proofs.Ytdmiieijflochaa
open Go.RowKit

/-- Is it a drum? -/
def vd (r h s : Int) : Bool := inB r 100 10000 && inB h 20 1000 && inB s 1 48
theorem vd_t {r h s : Int} (g : vd r h s = true) : (100 ≤ r ∧ r ≤ 10000) ∧ (20 ≤ h ∧ h ≤ 1000) ∧ (1 ≤ s ∧ s ≤ 48) := by
  simp only [vd, Bool.and_eq_true] at g
  exact ⟨inB_t g.1.1, inB_t g.1.2, inB_t g.2⟩
theorem ValidDrum_any (r h s : Int) (w : World) :
    Calls Try.prog 46 #[.agg #[.int .i64 r, .int .i64 h, .int .i64 s]] w fun e w' => e = .returned (.bool (vd r h s)) ∧ ∃ c : Array Value, w' = w.alloc (.cells c 26) := by
  unfold vd
  cases h1 : inB r 100 10000 <;> cases h2 : inB h 20 1000
  all_goals
    go_enter Try.func46, Try.ntmps46
    go_wp2_with (first | (go_at_call 47; refine (within_any _ _ _ _).mono ?_; rintro e w' ⟨rfl, rfl⟩) | (go_at_call 45; refine (l00In_any _ _ _ _).mono ?_; rintro e w' ⟨rfl, rfl⟩) | go_in)
    go_ret
    exact ⟨rfl, _, rfl⟩
theorem l07Ok_any (b : Nat) (r h s : Int) (w : World) (c0 : w.cell? ⟨b, 0, none⟩ = some (.int .i64 r)) (c1 : w.cell? ⟨b, 1, none⟩ = some (.int .i64 h)) (c2 : w.cell? ⟨b, 2, none⟩ = some (.int .i64 s)) :
    Calls Try.prog 52 #[.pointer (some ⟨b, 0, none⟩)] w fun e w' => e = .returned (.bool (vd r h s)) ∧ w = w' := by
  unfold vd
  cases h1 : inB r 100 10000 <;> cases h2 : inB h 20 1000
  all_goals
    go_enter Try.func52, Try.ntmps52
    go_wp2_with (first | (go_at_call 47; refine (within_any _ _ _ _).mono ?_; rintro e w' ⟨rfl, rfl⟩) | (go_at_call 45; refine (l00In_any _ _ _ _).mono ?_; rintro e w' ⟨rfl, rfl⟩) | go_in)
    go_ret
    exact ⟨rfl, rfl⟩
end Go.Proofs.Ytdmiieijflochaa

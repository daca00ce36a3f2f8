/-
  PROVED HERE: the walks of laws over drums: the program and the reference agree. CONDITIONS: none beyond that each number is an int64.
-/
import Derived.Test.YtcfdokoellcjiaaBase
namespace Go.Proofs.Ytcfdokoellcjiaa
open Go.RowKit

/-- Is it a drum? -/
def vd (r h s : Int) : Bool := inB r 100 10000 && inB h 20 1000 && inB s 1 48
theorem vd_t {r h s : Int} (g : vd r h s = true) : (100 ≤ r ∧ r ≤ 10000) ∧ (20 ≤ h ∧ h ≤ 1000) ∧ (1 ≤ s ∧ s ≤ 48) := by
  simp only [vd, Bool.and_eq_true] at g
  exact ⟨inB_t g.1.1, inB_t g.1.2, inB_t g.2⟩
theorem ValidDrum_any (r h s : Int) (w : World) :
    Calls Try.prog 16 #[.agg #[.int .i64 r, .int .i64 h, .int .i64 s]] w fun e w' => e = .returned (.bool (vd r h s)) ∧ ∃ c : Array Value, w' = w.alloc (.cells c 26) := by
  unfold vd
  cases h1 : inB r 100 10000 <;> cases h2 : inB h 20 1000
  all_goals
    go_enter Try.func16, Try.ntmps16
    go_wp2_with (first | (go_at_call 37; refine (within_any _ _ _ _).mono ?_; rintro e w' ⟨rfl, rfl⟩) | (go_at_call 44; refine (l00In_any _ _ _ _).mono ?_; rintro e w' ⟨rfl, rfl⟩) | (go_ret3; simp only []; go_at_K) | go_quiet (fail) | go_in)
    go_ret
    exact ⟨rfl, _, rfl⟩
theorem l07Ok_any (b : Nat) (r h s : Int) (w : World) (c0 : w.cell? ⟨b, 0, none⟩ = some (.int .i64 r)) (c1 : w.cell? ⟨b, 1, none⟩ = some (.int .i64 h)) (c2 : w.cell? ⟨b, 2, none⟩ = some (.int .i64 s)) :
    Calls Try.prog 36 #[.pointer (some ⟨b, 0, none⟩)] w fun e w' => e = .returned (.bool (vd r h s)) ∧ w = w' := by
  unfold vd
  cases h1 : inB r 100 10000 <;> cases h2 : inB h 20 1000
  all_goals
    go_enter Try.func36, Try.ntmps36
    go_wp2_with (first | (go_at_call 37; refine (within_any _ _ _ _).mono ?_; rintro e w' ⟨rfl, rfl⟩) | (go_at_call 44; refine (l00In_any _ _ _ _).mono ?_; rintro e w' ⟨rfl, rfl⟩) | (go_ret3; simp only []; go_at_K) | go_quiet (fail) | go_in)
    go_ret
    exact ⟨rfl, rfl⟩
theorem law_ValidDrum (a0 : Int) (_w0 : (Lit.int .i64 a0).wf = true) (a1 : Int) (_w1 : (Lit.int .i64 a1).wf = true) (a2 : Int) (_w2 : (Lit.int .i64 a2).wf = true) (w : World) :
    Calls Try.prog 4 #[.agg #[.int .i64 a0, .int .i64 a1, .int .i64 a2]] w fun e w' => e = .returned (.bool true) ∧ Below w.heap.size w w' := by
  go_enter Try.func4, Try.ntmps4
  go_wp2_with (first | (go_at_call 15; refine (toDrum_any _ _ _ _).mono ?_; rintro e w' ⟨rfl, o1, o2, o3, rfl⟩) | (go_at_call 16; refine (ValidDrum_any _ _ _ _).mono ?_; rintro e w' ⟨rfl, o1, rfl⟩) | (go_at_call 36; refine (l07Ok_any _ a0 a1 a2 _ (by simp [go_sem]) (by simp [go_sem]) (by simp [go_sem])).mono ?_; rintro e w' ⟨rfl, rfl⟩) | (go_at_call 37; refine (within_any _ _ _ _).mono ?_; rintro e w' ⟨rfl, rfl⟩) | (go_at_call 44; refine (l00In_any _ _ _ _).mono ?_; rintro e w' ⟨rfl, rfl⟩) | (go_ret3; simp only []; go_at_K) | go_quiet (fail) | go_in)
  all_goals
    go_ret
    refine ⟨rfl, ?_⟩
    repeat (first | exact Below.refl _ _ | refine bl_drewN ?_ _ | (refine Below.alloc ?_ (by simp <;> omega) _) | (refine Below.setCell ?_ (by simp <;> omega) _))
theorem law_StripFor (a0 : Int) (_w0 : (Lit.int .i64 a0).wf = true) (a1 : Int) (_w1 : (Lit.int .i64 a1).wf = true) (a2 : Int) (_w2 : (Lit.int .i64 a2).wf = true) (a3 : Int) (_w3 : (Lit.int .i64 a3).wf = true) (w : World) :
    Calls Try.prog 13 #[.agg #[.int .i64 a0, .int .i64 a1, .int .i64 a2], .int .i64 a3] w fun e w' => e = .returned (.bool true) ∧ Below w.heap.size w w' := by
  cases hv : vd a0 a1 a2
  rotate_left
  · obtain ⟨⟨_, _⟩, ⟨_, _⟩, _, _⟩ := vd_t hv
    cases hg : inB a3 0 100
    rotate_left
    · obtain ⟨_, _⟩ := inB_t hg
      go_enter Try.func13, Try.ntmps13
      go_wp2_with (first | (go_at_call 15; refine (toDrum_any _ _ _ _).mono ?_; rintro e w' ⟨rfl, o1, o2, o3, rfl⟩) | (go_at_call 16; refine (ValidDrum_any _ _ _ _).mono ?_; rintro e w' ⟨rfl, o1, rfl⟩) | (go_at_call 36; refine (l07Ok_any _ a0 a1 a2 _ (by simp [go_sem]) (by simp [go_sem]) (by simp [go_sem])).mono ?_; rintro e w' ⟨rfl, rfl⟩) | (go_at_call 37; refine (within_any _ _ _ _).mono ?_; rintro e w' ⟨rfl, rfl⟩) | (go_at_call 44; refine (l00In_any _ _ _ _).mono ?_; rintro e w' ⟨rfl, rfl⟩) | (go_ret3; simp only []; go_at_K) | go_quiet (fail) | go_in)
      all_goals
        go_ret
        refine ⟨rfl, ?_⟩
        repeat (first | exact Below.refl _ _ | refine bl_drewN ?_ _ | (refine Below.alloc ?_ (by simp <;> omega) _) | (refine Below.setCell ?_ (by simp <;> omega) _))
    · go_enter Try.func13, Try.ntmps13
      go_wp2_with (first | (go_at_call 15; refine (toDrum_any _ _ _ _).mono ?_; rintro e w' ⟨rfl, o1, o2, o3, rfl⟩) | (go_at_call 16; refine (ValidDrum_any _ _ _ _).mono ?_; rintro e w' ⟨rfl, o1, rfl⟩) | (go_at_call 36; refine (l07Ok_any _ a0 a1 a2 _ (by simp [go_sem]) (by simp [go_sem]) (by simp [go_sem])).mono ?_; rintro e w' ⟨rfl, rfl⟩) | (go_at_call 37; refine (within_any _ _ _ _).mono ?_; rintro e w' ⟨rfl, rfl⟩) | (go_at_call 44; refine (l00In_any _ _ _ _).mono ?_; rintro e w' ⟨rfl, rfl⟩) | (go_ret3; simp only []; go_at_K) | go_quiet (fail) | go_in)
      all_goals
        go_ret
        refine ⟨rfl, ?_⟩
        repeat (first | exact Below.refl _ _ | refine bl_drewN ?_ _ | (refine Below.alloc ?_ (by simp <;> omega) _) | (refine Below.setCell ?_ (by simp <;> omega) _))
  · go_enter Try.func13, Try.ntmps13
    go_wp2_with (first | (go_at_call 15; refine (toDrum_any _ _ _ _).mono ?_; rintro e w' ⟨rfl, o1, o2, o3, rfl⟩) | (go_at_call 16; refine (ValidDrum_any _ _ _ _).mono ?_; rintro e w' ⟨rfl, o1, rfl⟩) | (go_at_call 36; refine (l07Ok_any _ a0 a1 a2 _ (by simp [go_sem]) (by simp [go_sem]) (by simp [go_sem])).mono ?_; rintro e w' ⟨rfl, rfl⟩) | (go_at_call 37; refine (within_any _ _ _ _).mono ?_; rintro e w' ⟨rfl, rfl⟩) | (go_at_call 44; refine (l00In_any _ _ _ _).mono ?_; rintro e w' ⟨rfl, rfl⟩) | (go_ret3; simp only []; go_at_K) | go_quiet (fail) | go_in)
    all_goals
      go_ret
      refine ⟨rfl, ?_⟩
      repeat (first | exact Below.refl _ _ | refine bl_drewN ?_ _ | (refine Below.alloc ?_ (by simp <;> omega) _) | (refine Below.setCell ?_ (by simp <;> omega) _))
end Go.Proofs.Ytcfdokoellcjiaa

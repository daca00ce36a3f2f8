/-
  PROVED HERE: contracts of the functions on fractions that others call: validity, lowest terms, checking. CONDITIONS: as each theorem names them.
-/
import Derived.Test.YtilifijfmdielaaDoorBase
import Derived.Deep.RegionHeld3
namespace Go.Proofs.YtilifijfmdielaaDoor
open Go.RowKit

/-- Is it a valid fraction? -/
def vf (n d : Int) : Bool := inB d 1 1000000 && inB n (-1000000) 1000000 && (G n d == 1)
theorem vf_t {n d : Int} (h : vf n d = true) : (1 ≤ d ∧ d ≤ 1000000) ∧ (-1000000 ≤ n ∧ n ≤ 1000000) := by
  simp only [vf, Bool.and_eq_true] at h
  exact ⟨inB_t h.1.1, inB_t h.1.2⟩
theorem ValidFraction_any (n d : Int) (w : World) :
    Calls Tryd.prog 30 #[.agg #[.int .i64 n, .int .i64 d]] w fun e w' => e = .returned (.bool (vf n d)) ∧ ∃ (c : Array Value) (k : Nat), w' = (w.alloc (.cells c 30)).drewN k := by
  unfold vf
  cases h1 : inB d 1 1000000 <;> cases h2 : inB n (-1000000) 1000000
  case true.true =>
    obtain ⟨_, _⟩ := inB_t h1
    obtain ⟨_, _⟩ := inB_t h2
    go_enter Tryd.func30, Tryd.ntmps30
    go_wp2_with (first | (go_at_call 45; refine (within_any _ _ _ _).mono ?_; rintro e w' ⟨rfl, rfl⟩) | (go_at_call 42; refine (l00In_any _ _ _ _).mono ?_; rintro e w' ⟨rfl, rfl⟩) | (go_at_call 46; refine (gcd_any _ _ _ (by omega) (by omega) (by omega) (by omega)).mono ?_; rintro e w' ⟨rfl, ng, rfl⟩) | (go_at_call 43; refine (lgcd_any _ _ _ (by omega) (by omega) (by omega) (by omega)).mono ?_; rintro e w' ⟨rfl, rfl⟩) | go_in)
    go_ret
    exact ⟨rfl, _, _, rfl⟩
  all_goals
    go_enter Tryd.func30, Tryd.ntmps30
    go_wp2_with (first | (go_at_call 45; refine (within_any _ _ _ _).mono ?_; rintro e w' ⟨rfl, rfl⟩) | (go_at_call 42; refine (l00In_any _ _ _ _).mono ?_; rintro e w' ⟨rfl, rfl⟩) | go_in)
    go_ret
    exact ⟨rfl, _, 0, rfl⟩
def szI (n : Int) : Int := if n < 0 then -n else n
theorem szI_G (a b : Int) : G (szI a) b = G a b := G_abs a b
theorem szI_neg {n : Int} (h : n < 0) : szI n = -n := if_pos h
theorem szI_pos {n : Int} (h : 0 ≤ n) : szI n = n := if_neg (by omega)
theorem l00Size_any (n : Int) (w : World) (h1 : -10000000000000 ≤ n) (h2 : n ≤ 10000000000000) :
    Calls Tryd.prog 44 #[.int .i64 n] w fun e w' => e = .returned (.int .i64 (szI n)) ∧ w = w' := by
  by_cases h : n < 0
  · go_enter Tryd.func44, Tryd.ntmps44
    go_wp2
    go_ret
    exact ⟨ret_int (szI_neg h).symm, rfl⟩
  · go_enter Tryd.func44, Tryd.ntmps44
    go_wp2
    go_ret
    exact ⟨ret_int (szI_pos (by omega)).symm, rfl⟩
theorem szI_bd (n : Int) (B : Int) (h1 : -B ≤ n) (h2 : n ≤ B) : 0 ≤ szI n ∧ szI n ≤ B := by unfold szI; split <;> omega
theorem l02Ok_any (n d : Int) (w : World) :
    Calls Tryd.prog 28 #[.agg #[.int .i64 n, .int .i64 d]] w fun e w' => e = .returned (.bool (vf n d)) ∧ ∃ (c : Array Value) (k : Nat), w' = (w.alloc (.cells c 30)).drewN k := by
  unfold vf
  cases h1 : inB d 1 1000000 <;> cases h2 : inB n (-1000000) 1000000
  case true.true =>
    obtain ⟨_, _⟩ := inB_t h1
    obtain ⟨_, _⟩ := inB_t h2
    obtain ⟨_, _⟩ := szI_bd n 1000000 (by omega) (by omega)
    rw [← szI_G]
    go_enter Tryd.func28, Tryd.ntmps28
    go_wp2
    go_quiet ((first | (go_at_call 42; first | (with_reducible exact quiet_left (l00In_v h1 _)) | (with_reducible exact quiet_left (l00In_v h2 _))) | (go_at_call 44; exact quiet_left (l00Size_any _ _ (by omega) (by omega))) | (go_at_call 43; exact quiet_left (lgcd_any _ _ _ (by omega) (by omega) (by omega) (by omega)))))
    go_wp2
    go_ret
    exact ⟨rfl, _, _, rfl⟩
  all_goals
    go_enter Tryd.func28, Tryd.ntmps28
    go_wp2
    go_quiet ((go_at_call 42; first | (with_reducible exact quiet_left (l00In_v h1 _)) | (with_reducible exact quiet_left (l00In_v h2 _))))
    go_wp2
    go_ret
    exact ⟨rfl, _, _, rfl⟩
/-- A fraction in lowest terms (the second number above 0). -/
def lowN (n d : Int) : Int := n.tdiv (G n d)
def lowD (n d : Int) : Int := d / G n d
theorem tdiv_bd (n g : Int) (B : Int) (h1 : -B ≤ n) (h2 : n ≤ B) : -B ≤ n.tdiv g ∧ n.tdiv g ≤ B := by
  have := Int.natAbs_tdiv_le_natAbs n g
  omega
theorem lowD_bd (n d : Int) (h : 1 ≤ d) : 1 ≤ lowD n d ∧ lowD n d ≤ d := by
  have g1 := G_pos n d (by omega)
  have g2 := G_le n d (by omega)
  unfold lowD
  refine ⟨?_, Int.ediv_le_self _ (by omega)⟩
  have := Int.le_ediv_of_mul_le (c := G n d) (a := 1) (b := d) (by omega) (by omega)
  omega
/-- A fraction and a code, as the checks leave them. -/
def cN (n d : Int) : Int := if vf n d then n else 0
def cD (n d : Int) : Int := if vf n d then d else 0
def cC (n d : Int) : Int := if vf n d then 0 else 5
theorem c_t {n d : Int} (h : vf n d = true) : cN n d = n ∧ cD n d = d ∧ cC n d = 0 := by simp [cN, cD, cC, h]
theorem c_f {n d : Int} (h : vf n d = false) : cN n d = 0 ∧ cD n d = 0 ∧ cC n d = 5 := by simp [cN, cD, cC, h]
theorem eqFraction_any (n d : Int) (w : World) :
    Calls Tryd.prog 17 #[.agg #[.int .i64 n, .int .i64 d], .agg #[.int .i64 n, .int .i64 d]] w fun e w' => e = .returned (.bool true) ∧ ∃ (c1 c2 : Array Value) (k : Nat), w' = ((w.alloc (.cells c1 30)).alloc (.cells c2 30)).drewN k := by
  go_enter Tryd.func17, Tryd.ntmps17
  go_wp2_with (go_quiet (fail))
  go_ret
  exact ⟨rfl, _, _, 0, rfl⟩
end Go.Proofs.YtilifijfmdielaaDoor

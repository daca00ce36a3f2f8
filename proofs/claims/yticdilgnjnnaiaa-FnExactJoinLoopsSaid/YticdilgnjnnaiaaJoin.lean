/-
  PROVED HERE: the walk of JoinLoops (the plain law): the program and the reference agree. CONDITIONS: the arguments' cells lie in the world.
-/
import Derived.Test.YticdilgnjnnaiaaSt
import Derived.Test.YticdilgnjnnaiaaRowsQ
namespace Go.Proofs.Yticdilgnjnnaiaa
open Go.RowKit

/-- The common length of two loops. -/
def clV (a b : Int) : Int := a.tdiv (G a b) * b
theorem cl_bd {a b : Int} (a1 : 1 ≤ a) (a2 : a ≤ 60) (b1 : 1 ≤ b) (b2 : b ≤ 60) : 1 ≤ G a b ∧ 0 ≤ a.tdiv (G a b) ∧ a.tdiv (G a b) ≤ 60 ∧ 0 ≤ clV a b ∧ clV a b ≤ 3600 := by
  have g := G_pos a b (by omega)
  have q0 : 0 ≤ a.tdiv (G a b) := Int.tdiv_nonneg (by omega) (by omega)
  have q1 : a.tdiv (G a b) ≤ 60 := by
    rw [Int.tdiv_eq_ediv_of_nonneg (by omega)]
    exact Int.le_trans (Int.ediv_le_self _ (by omega)) a2
  refine ⟨g, q0, q1, Int.mul_nonneg q0 (by omega), ?_⟩
  unfold clV
  calc a.tdiv (G a b) * b ≤ 60 * b := Int.mul_le_mul_of_nonneg_right q1 (by omega)
    _ ≤ 3600 := by omega
/-- The first k pairs. -/
def jlI (xs ys : List Int) (k : Nat) : List (List Int) := (List.range k).map fun (j : Nat) => [xs.getD (j % xs.length) 0, ys.getD (j % ys.length) 0]
theorem jlI_len (xs ys : List Int) (k : Nat) : (jlI xs ys k).length = k := by simp [jlI]
theorem jlI_take (xs ys : List Int) {j k : Nat} (h : j ≤ k) : (jlI xs ys k).take j = jlI xs ys j := by
  unfold jlI
  rw [← List.map_take, List.take_range, Nat.min_eq_left h]
theorem jlI_rd (xs ys : List Int) {j k : Nat} (h : j < k) : Qrd (jlI xs ys k) j = [xs.getD (j % xs.length) 0, ys.getD (j % ys.length) 0] := by simp [Qrd, jlI, List.getD, h]
theorem jlI_bulk (xs ys : List Int) (k : Nat) : Qbulk (jlI xs ys k) = k + k * 2 := by
  unfold Qbulk
  rw [jlI_len]
  congr 1
  unfold jlI
  induction k with
  | zero => simp
  | succ k ih => rw [List.range_succ, List.map_append, List.map_append, List.sum_append, ih, List.map_singleton, List.map_singleton, List.sum_singleton, Nat.succ_mul]; rfl
def jlN (xs ys : List Int) : Int := clV xs.length ys.length
def jlX (xs ys : List Int) : List (List Int) := if vl xs && vl ys && decide (jlN xs ys ≤ 360) then jlI xs ys (jlN xs ys).toNat else []
def jlK (xs ys : List Int) : Int := if vl xs && vl ys then (if decide (jlN xs ys ≤ 360) then 0 else 5) else 1
theorem jlX_le (xs ys : List Int) : Qbulk (jlX xs ys) ≤ 1080 := by
  unfold jlX
  split
  · rename_i h
    simp only [Bool.and_eq_true, decide_eq_true_eq] at h
    rw [jlI_bulk]
    omega
  · simp [Qbulk]
theorem mod_at (k n : Nat) (h : 0 < n) : ∃ m : Nat, m = k % n ∧ (k : Int) % (n : Int) = (m : Int) ∧ (k : Int).tmod (n : Int) = (m : Int) ∧ m < n := ⟨k % n, rfl, by simp, by rw [Int.tmod_eq_emod_of_nonneg (by omega)]; simp, Nat.mod_lt _ h⟩
theorem jl_snoc {xs ys : List Int} {x y : Int} {k M : Nat} (As : Nat → Option Addr) (Cs : Nat → Nat) (A : Option Addr) (c : Nat) (hk : k < M) (hx : Qrd (jlI xs ys M) k = [x, y]) :
    Qrc (Qupd As k A) (Qupd Cs k c) ((jlI xs ys M).take (k + 1)) = Qrc As Cs ((jlI xs ys M).take k) ++ [.slice A 2 c] := by
  have hl : ((jlI xs ys M).take k).length = k := by rw [List.length_take, jlI_len]; omega
  have h := Qrc_snoc As Cs ((jlI xs ys M).take k) [x, y] A c
  rw [hl] at h
  rw [Qtake_rd (by rw [jlI_len]; exact hk), hx, h]
  rfl
theorem row_one (A : Option Addr) (n c : Nat) : ∀ u ∈ [Value.slice A n c], u.oneCell' = true := by
  intro u hu
  rw [List.mem_singleton] at hu
  subst hu; rfl
theorem own_form {w : World} {B e s n : Nat} {v : Value} {xs : List Value} (h : w.ownsRow B e s v n xs) : ∃ A c, v = .slice A n c := by
  rcases h.2 with ⟨e1, e2⟩ | ⟨g, cap, cur, e1, _⟩
  · exact ⟨none, 0, by rw [e1, e2]⟩
  · exact ⟨_, _, e1⟩
section
variable {P : Program} {ops : Array Oper} {Q : Exit → Act → World → Prop} {md : Region.Mode} {S : World → Prop}
/-- An operation is taken first, its slot named. -/
theorem take_v (i : Nat) (d : Option Tmp) {oi : Oper} (v : Value) {fuel : Nat} {listed : Array Bool} {a : Act} {w : World} (hi : ops[i]? = some oi) (hd : (ops[i]?.map (·.dst)) = some d)
    (hs : Region.noSelect ops = true) (hf : Region.free md ops listed i = true) (hr : (Region.ready md ops listed).contains i = true)
    (hQ : ∀ c a w, Q (.panic c) (a.put d v) w → Q (.panic c) a w) (hy : YieldsIf P ops S oi v a) (hS : S w)
    (h : wpAnyH P md ops Q S fuel (listed.setIfInBounds i true) (a.put d v) w) : wpAnyH P md ops Q S (fuel + 1) listed a w := by
  rw [hi] at hd
  injection hd with hd
  subst hd
  exact wpAnyH_take hi hs hf hr hQ hy hS h
end
theorem commonLength_any (a b : Int) (w : World) (a1 : 1 ≤ a) (a2 : a ≤ 60) (b1 : 1 ≤ b) (b2 : b ≤ 60) :
    Calls Try.prog 49 #[.int .i64 a, .int .i64 b] w fun e w' => e = .returned (.int .i64 (clV a b)) ∧ ∃ n, w' = w.drewN n := by
  obtain ⟨g1, q0, q1, c0, c1⟩ := cl_bd a1 a2 b1 b2
  have s1 : IntKind.i64.wrap (a.tdiv (G a b)) = a.tdiv (G a b) := w64 (by omega) (by omega)
  have s2 : IntKind.i64.wrap (a.tdiv (G a b) * b) = clV a b := w64 (by unfold clV at c0; omega) (by unfold clV at c1; omega)
  have s3 : (G a b == 0) = false := by simp; omega
  have s4 : ¬ G a b = 0 := by omega
  go_enter Try.func49, Try.ntmps49
  go_wp2_with (go_at_call 55; refine (gcd_any _ _ _ (by omega) (by omega) (by omega) (by omega)).mono ?_; rintro e w' ⟨rfl, n, rfl⟩)
  go_ret
  exact ⟨rfl, _, rfl⟩
theorem l05Common_any (a b : Int) (w : World) (a1 : 1 ≤ a) (a2 : a ≤ 60) (b1 : 1 ≤ b) (b2 : b ≤ 60) :
    Calls Try.prog 48 #[.int .i64 a, .int .i64 b] w fun e w' => e = .returned (.int .i64 (clV a b)) ∧ ∃ n, w' = w.drewN n := by
  obtain ⟨g1, q0, q1, c0, c1⟩ := cl_bd a1 a2 b1 b2
  have s1 : IntKind.i64.wrap (a.tdiv (G a b)) = a.tdiv (G a b) := w64 (by omega) (by omega)
  have s2 : IntKind.i64.wrap (a.tdiv (G a b) * b) = clV a b := w64 (by unfold clV at c0; omega) (by unfold clV at c1; omega)
  have s3 : (G a b == 0) = false := by simp; omega
  have s4 : ¬ G a b = 0 := by omega
  go_enter Try.func48, Try.ntmps48
  go_wp2_with (go_at_call 54; refine (lgcd_any _ _ _ (by omega) (by omega) (by omega) (by omega)).mono ?_; rintro e w' ⟨rfl, rfl⟩)
  go_ret
  exact ⟨rfl, 0, rfl⟩
end Go.Proofs.Yticdilgnjnnaiaa

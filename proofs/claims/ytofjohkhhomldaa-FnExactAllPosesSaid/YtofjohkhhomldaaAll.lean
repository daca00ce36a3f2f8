/-
  PROVED HERE: the walk of AllPoses (the plain law): the program and the reference agree. CONDITIONS: the arguments' cells lie in the world.
-/
import Derived.Test.YtofjohkhhomldaaAt
import Derived.Test.YtofjohkhhomldaaStretch
import Derived.Test.YtofjohkhhomldaaRowsP
namespace Go.Proofs.Ytofjohkhhomldaa
open Go.RowKit

/-- The poses at the first k steps. -/
def apI (ks : List Key) (y : Int) (k : Nat) : List (List Pnt) := (List.range k).map fun (j : Nat) => atX ks ((kd ks 0).1 + (j : Int) * y)
theorem apI_len (ks : List Key) (y : Int) (k : Nat) : (apI ks y k).length = k := by simp [apI]
theorem apI_take (ks : List Key) (y : Int) {j k : Nat} (h : j ≤ k) : (apI ks y k).take j = apI ks y j := by
  unfold apI
  rw [← List.map_take, List.take_range, Nat.min_eq_left h]
theorem apI_rd (ks : List Key) (y : Int) {j k : Nat} (h : j < k) : Prd (apI ks y k) j = atX ks ((kd ks 0).1 + (j : Int) * y) := by simp [Prd, apI, List.getD, h]
theorem apI_bulk (ks : List Key) (y : Int) (k : Nat) : Pbulk (apI ks y k) = k + k * (kd ks 0).2.length := by
  unfold Pbulk
  rw [apI_len]
  congr 1
  unfold apI
  induction k with
  | zero => simp
  | succ k ih => rw [List.range_succ, List.map_append, List.map_append, List.sum_append, ih, List.map_singleton, List.map_singleton, List.sum_singleton, atX_len, Nat.succ_mul]
/-- How many steps there are behind the first one. -/
def apD (ks : List Key) (y : Int) : Int := ((kd ks (ks.length - 1)).1 - (kd ks 0).1) / y
def apX (ks : List Key) (y : Int) : List (List Pnt) := if vk ks && inB y 1 10000 && decide (apD ks y < 100) then apI ks y ((apD ks y).toNat + 1) else []
def apK (ks : List Key) (y : Int) : Int := if vk ks then (if inB y 1 10000 then (if decide (apD ks y < 100) then 0 else 5) else 2) else 1
theorem apX_le (ks : List Key) (y : Int) : Pbulk (apX ks y) ≤ 1000 := by
  unfold apX
  split
  · rename_i h
    simp only [Bool.and_eq_true, decide_eq_true_eq] at h
    have hv := vk_t h.1.1
    have h8 := (kd8 hv (j := 0) (by have := hv.lo; omega)).2.1
    rw [apI_bulk]
    have : ((apD ks y).toNat + 1) * (kd ks 0).2.length ≤ 100 * 8 := Nat.mul_le_mul (by omega) h8
    omega
  · simp [Pbulk]
/-- The ticks. -/
theorem ap_tick {x y : Int} {k : Nat} (hx : 0 ≤ x) (hy : 1 ≤ y) : (k : Int) * y ≤ x ↔ k < (x / y).toNat + 1 := by
  have h0 : 0 ≤ x / y := Int.ediv_nonneg hx (by omega)
  rw [← Int.le_ediv_iff_mul_le (by omega)]
  omega
end Go.Proofs.Ytofjohkhhomldaa

/-
  PROVED HERE: the walk of NeedlessKeys (contracts): the program and the reference agree. CONDITIONS: the arguments' cells lie in the world.
-/
import Derived.Test.YtofjohkhhomldaaAtP
namespace Go.Proofs.Ytofjohkhhomldaa
open Go.RowKit

/-- Is key pose k + 1 the one between its neighbours? -/
def ndl (ks : List Key) (k : Nat) : Bool := spB (kd ks (k + 1)).2 (btI (kd ks k).2 (kd ks (k + 2)).2 ((kd ks (k + 1)).1 - (kd ks k).1) ((kd ks (k + 2)).1 - (kd ks k).1) (kd ks k).2.length)
def ndX (ks : List Key) (k : Nat) : List Int := ((List.range k).filter (ndl ks)).map fun (j : Nat) => (j : Int) + 1
theorem KR.self {w : World} {hi n : Nat} {A : Option Addr} {ks : List Key} (h : KR w hi A n ks) : KR w w.heap.size A n ks :=
  ⟨h.1, fun hn => by
    obtain ⟨b, off, e, hl, hc⟩ := h.2 hn
    refine ⟨b, off, e, World.block_lt_of_cell? w _ (hc 0 hn).1, fun j hj => ?_⟩
    obtain ⟨c1, Aj, cj, c2, hp⟩ := hc j hj
    exact ⟨c1, Aj, cj, c2, AP.mk hp.pi⟩⟩
theorem ndX_t {ks : List Key} {k : Nat} (h : ndl ks k = true) : ndX ks (k + 1) = ndX ks k ++ [(k : Int) + 1] := by simp [ndX, List.range_succ, List.filter_append, h]
theorem ndX_f {ks : List Key} {k : Nat} (h : ndl ks k = false) : ndX ks (k + 1) = ndX ks k := by simp [ndX, List.range_succ, List.filter_append, h]
theorem ndX_le (ks : List Key) (k : Nat) : (ndX ks k).length ≤ k := by
  unfold ndX
  rw [List.length_map]
  have := List.length_filter_le (ndl ks) (List.range k)
  simpa using this
def nkX (ks : List Key) : List Int := if vk ks then ndX ks (ks.length - 2) else []
def nkK (ks : List Key) : Int := if vk ks then 0 else 1
theorem nkX_le (ks : List Key) : (nkX ks).length ≤ 1048576 := by
  unfold nkX
  split
  · rename_i h
    have := (vk_t h).hi
    have := ndX_le ks (ks.length - 2)
    omega
  · simp
end Go.Proofs.Ytofjohkhhomldaa

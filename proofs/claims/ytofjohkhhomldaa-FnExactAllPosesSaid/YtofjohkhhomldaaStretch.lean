/-
  PROVED HERE: the plain law of key poses that are farther apart. CONDITIONS: as each theorem names them.
-/
import Derived.Test.YtofjohkhhomldaaNeedless
namespace Go.Proofs.Ytofjohkhhomldaa
open Go.RowKit

theorem own_form {w : World} {B e s n : Nat} {v : Value} {xs : List Value} (h : w.ownsRow B e s v n xs) : ∃ A c, v = .slice A n c := by
  rcases h.2 with ⟨e1, e2⟩ | ⟨g, cap, cur, e1, _⟩
  · exact ⟨none, 0, by rw [e1, e2]⟩
  · exact ⟨_, _, e1⟩
/-- Key poses that are farther apart. -/
def stX (ks : List Key) (y : Int) : List Key := ks.map fun p => ((kd ks 0).1 + (p.1 - (kd ks 0).1) * y, p.2)
theorem stX_len (ks : List Key) (y : Int) : (stX ks y).length = ks.length := by simp [stX]
theorem stX_kd (ks : List Key) (y : Int) {j : Nat} (h : j < ks.length) : kd (stX ks y) j = ((kd ks 0).1 + ((kd ks j).1 - (kd ks 0).1) * y, (kd ks j).2) := by
  simp [stX, kd, List.getD, h]
theorem stX_bulk (ks : List Key) (y : Int) : kbulk (stX ks y) = kbulk ks := by
  simp [kbulk, stX, List.map_map, Function.comp_def]
def skX (ks : List Key) (y : Int) : List Key := if vk ks && inB y 1 100 && vk (stX ks y) then stX ks y else []
def skK (ks : List Key) (y : Int) : Int := if vk ks then (if inB y 1 100 then (if vk (stX ks y) then 0 else 5) else 2) else 1
theorem skX_le (ks : List Key) (y : Int) : kbulk (skX ks y) ≤ kbulk ks := by
  unfold skX
  split
  · rw [stX_bulk]; exact Nat.le_refl _
  · simp [kbulk]
/-- The tick of a key pose that is farther from the first one stays a small number. -/
theorem st_bd {ks : List Key} (hv : Vk ks) {k : Nat} (hk : k < ks.length) {y : Int} (h1 : 1 ≤ y) (h2 : y ≤ 100) : (0 ≤ (kd ks k).1 - (kd ks 0).1 ∧ (kd ks k).1 - (kd ks 0).1 ≤ 10000) ∧ 0 ≤ ((kd ks k).1 - (kd ks 0).1) * y ∧ ((kd ks k).1 - (kd ks 0).1) * y ≤ 10000 * 100 := by
  have t0 := hv.tick 0 (by omega)
  have tk := hv.tick k hk
  have hn : (kd ks 0).1 ≤ (kd ks k).1 := by
    by_cases e : k = 0
    · subst e; exact Int.le_refl _
    · have := hv.lt (show 0 < k by omega) hk; omega
  exact ⟨⟨by omega, by omega⟩, mulb _ _ _ _ (by omega) (by omega) (by omega) h2⟩
theorem Inn.ok {w : World} {lo n c : Nat} {A : Option Addr} {As : Nat → Option Addr} {Cs : Nat → Nat} {ks : List Key} (hl : ks.length = n) (ho : w.ownsRow lo 74 2 (.slice A n c) n (kfl As Cs ks)) (hi : Inn w lo As Cs ks n) : OK w lo w.heap.size A n c ks :=
  ⟨As, Cs, hl, ho, fun k hk => (ho.lt k hk).2, hi.inn, hi.far⟩
end Go.Proofs.Ytofjohkhhomldaa

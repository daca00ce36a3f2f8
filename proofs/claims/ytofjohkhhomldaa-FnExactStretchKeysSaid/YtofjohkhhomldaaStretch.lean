/-
  PROVED HERE: the plain law of key poses that are farther apart. CONDITIONS: as each theorem names them.
-/
import Derived.Test.YtofjohkhhomldaaNeedless
namespace Go.Proofs.Ytofjohkhhomldaa
open Go.RowKit

theorem own_form {w : World} {B e s n : Nat} {v : Value} {xs : List Value} (h : w.ownsRow B e s v n xs) : ∃ A c, v = .slice A n c := by
  rcases h.2 with ⟨e1, e2⟩ | ⟨g, cap, cur, e1, _⟩
  · exact ⟨none, 0, by rw [e1, e2]⟩
  · exact ⟨_, _, e1⟩
/-- Key poses that are farther apart. -/
def stX (ks : List Key) (y : Int) : List Key := ks.map fun p => ((kd ks 0).1 + (p.1 - (kd ks 0).1) * y, p.2)
theorem stX_len (ks : List Key) (y : Int) : (stX ks y).length = ks.length := by simp [stX]
theorem stX_kd (ks : List Key) (y : Int) {j : Nat} (h : j < ks.length) : kd (stX ks y) j = ((kd ks 0).1 + ((kd ks j).1 - (kd ks 0).1) * y, (kd ks j).2) := by
  simp [stX, kd, List.getD, h]
theorem stX_bulk (ks : List Key) (y : Int) : kbulk (stX ks y) = kbulk ks := by
  simp [kbulk, stX, List.map_map, Function.comp_def]
def skX (ks : List Key) (y : Int) : List Key := if vk ks && inB y 1 100 && vk (stX ks y) then stX ks y else []
def skK (ks : List Key) (y : Int) : Int := if vk ks then (if inB y 1 100 then (if vk (stX ks y) then 0 else 5) else 2) else 1
theorem skX_le (ks : List Key) (y : Int) : kbulk (skX ks y) ≤ kbulk ks := by
  unfold skX
  split
  · rw [stX_bulk]; exact Nat.le_refl _
  · simp [kbulk]
/-- The tick of a key pose that is farther from the first one stays a small number. -/
theorem st_bd {ks : List Key} (hv : Vk ks) {k : Nat} (hk : k < ks.length) {y : Int} (h1 : 1 ≤ y) (h2 : y ≤ 100) : (0 ≤ (kd ks k).1 - (kd ks 0).1 ∧ (kd ks k).1 - (kd ks 0).1 ≤ 10000) ∧ 0 ≤ ((kd ks k).1 - (kd ks 0).1) * y ∧ ((kd ks k).1 - (kd ks 0).1) * y ≤ 10000 * 100 := by
  have t0 := hv.tick 0 (by omega)
  have tk := hv.tick k hk
  have hn : (kd ks 0).1 ≤ (kd ks k).1 := by
    by_cases e : k = 0
    · subst e; exact Int.le_refl _
    · have := hv.lt (show 0 < k by omega) hk; omega
  exact ⟨⟨by omega, by omega⟩, mulb _ _ _ _ (by omega) (by omega) (by omega) h2⟩
theorem Inn.ok {w : World} {lo n c : Nat} {A : Option Addr} {As : Nat → Option Addr} {Cs : Nat → Nat} {ks : List Key} (hl : ks.length = n) (ho : w.ownsRow lo 74 2 (.slice A n c) n (kfl As Cs ks)) (hi : Inn w lo As Cs ks n) : OK w lo w.heap.size A n c ks :=
  ⟨As, Cs, hl, ho, fun k hk => (ho.lt k hk).2, hi.inn, hi.far⟩
theorem OK.wide {w : World} {lo hi hi' n c : Nat} {A : Option Addr} {ks : List Key} (h : OK w lo hi A n c ks) (hh : hi ≤ hi') : OK w lo hi' A n c ks := by
  obtain ⟨As, Cs, h⟩ := h
  exact ⟨As, Cs, h.len, h.row, fun k hk => Nat.lt_of_lt_of_le (h.top k hk) hh, fun j hj => (h.inn j hj).wide hh, h.far⟩
theorem cell_two_new0 (w : World) (a b : Value) (t : TypeId) : ∀ j u, [a, b][j]? = some u → (w.alloc (.cells #[a, b] t)).cell? ((⟨w.heap.size, 0, none⟩ : Addr).add j) = some u := fun j u h => cell_two_new w a b t 0 j u h
theorem key_one (x : Int) (A : Option Addr) (n c : Nat) : ∀ u ∈ [Value.int .i64 x, Value.slice A n c], u.oneCell' = true := by
  intro u hu
  simp only [List.mem_cons, List.mem_nil_iff, or_false] at hu
  rcases hu with rfl | rfl <;> rfl
theorem st_snoc {ks : List Key} {y t : Int} {ps : List Pnt} {k : Nat} (As : Nat → Option Addr) (Cs : Nat → Nat) (A : Option Addr) (c : Nat) (hk : k < ks.length) (hx : kd (stX ks y) k = (t, ps)) :
    kfl (upd As k A) (upd Cs k c) ((stX ks y).take (k + 1)) = kfl As Cs ((stX ks y).take k) ++ [.int .i64 t, .slice A ps.length c] := by
  have hl : ((stX ks y).take k).length = k := by rw [List.length_take, stX_len]; omega
  have h := kfl_snoc As Cs ((stX ks y).take k) (t, ps) A c
  rw [hl] at h
  rw [take_kd (by rw [stX_len]; exact hk), hx, h]
end Go.Proofs.Ytofjohkhhomldaa

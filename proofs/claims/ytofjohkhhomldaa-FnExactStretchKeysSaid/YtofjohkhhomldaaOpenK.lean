/-
  PROVED HERE: an argument that is a slice of key poses reads as a list of key poses. CONDITIONS: as the theorem names them.
-/
import Derived.Test.YtofjohkhhomldaaOpenP
import Derived.Test.YtofjohkhhomldaaKeys
namespace Go.Proofs.Ytofjohkhhomldaa
open Go.ChangeShapes Go.WideShapes Go.Deep Go.RowKit

section
variable {H : Type} {enc : TypeId × Value → H} {P : Program} {w : World} {base : Nat} {spare : Nat → Bool} {held : Bool}
theorem open_keys {t e e2 : TypeId} {f0 f1 p0 p1 : Field} {fuel : Nat} {A : Option Addr} {l c : Nat} {x : DataW H × List MemPlace} (ht : P.underlying t = some (.slice e)) (he : P.underlying e = some (.struct #[f0, f1]))
    (hone : oneCellFields P #[f0, f1] = true) (hC : P.cellsOf e = 2) (hi0 : P.underlying f0.type = some (.int .i64)) (hi1 : P.underlying f1.type = some (.slice e2))
    (he2 : P.underlying e2 = some (.struct #[p0, p1])) (hone2 : oneCellFields P #[p0, p1] = true) (hC2 : P.cellsOf e2 = 2) (hp0 : P.underlying p0.type = some (.int .i64)) (hp1 : P.underlying p1.type = some (.int .i64))
    (h : DataW.trod enc P w base spare held fuel t (Value.slice A l c).cells.toList = some x) :
    ∃ ks, KI w A l ks ∧ KBd l ks := by
  rcases open_slice ht h with ⟨h0, _⟩ | ⟨a, len, cap, m, n, D, Pl, hcs, hb, hl, hm, hmm, hx, hi⟩
  · simp [Value.cells] at h0
    obtain ⟨rfl, rfl, rfl⟩ := h0
    exact ⟨[], ⟨rfl, fun h => absurd h (by omega)⟩, Nat.zero_le _, fun j hj => absurd hj (by simp)⟩
  · simp [Value.cells] at hcs
    obtain ⟨rfl, rfl, rfl⟩ := hcs
    have hlm : l ≤ m := by rw [hmm]; split <;> omega
    have key : ∀ i, i < l → ∃ k : Key, w.cell? (a.add (i * 2)) = some (.int .i64 k.1) ∧ (∃ Aj cj, w.cell? (a.add (i * 2 + 1)) = some (.slice Aj k.2.length cj) ∧ AP w w.heap.size Aj k.2.length k.2) ∧ k.2.length ≤ maxLen := by
      intro i hil
      obtain ⟨cs', hc, ht'⟩ := hi i (by omega)
      rw [hC] at hc
      obtain ⟨ys, n', hn', hy, hlen, hyl, hf⟩ := DataW.trod_struct he ht'
      obtain ⟨_, hcl, hat⟩ := World.cells?_some hc
      obtain ⟨o0, k0⟩ := hone_of hone 0 f0 rfl
      obtain ⟨o1, k1⟩ := hone_of hone 1 f1 rfl
      have h0 := hf 0 f0 rfl
      have h1 := hf 1 f1 rfl
      rw [o0, k0] at h0
      rw [o1, k1] at h1
      match cs', hcl, hat, h0, h1 with
      | [u, v], _, hat, h0, h1 =>
        have a0 := hat 0 (by omega)
        have a1 := hat 1 (by omega)
        rw [Go.Deep.add_add] at a0 a1
        obtain ⟨z0, hz0⟩ : ∃ z, ys[0]? = some z := ⟨_, List.getElem?_eq_getElem (by rw [hyl]; simp)⟩
        obtain ⟨z1, hz1⟩ : ∃ z, ys[1]? = some z := ⟨_, List.getElem?_eq_getElem (by rw [hyl]; simp)⟩
        have g0 : DataW.trod enc P w base spare held n' f0.type [u] = some z0 := h0.trans hz0
        have g1 : DataW.trod enc P w base spare held n' f1.type [v] = some z1 := h1.trans hz1
        obtain ⟨x, e0, _⟩ := DataW.trod_int hi0 g0
        simp only [List.cons.injEq, and_true] at e0
        subst e0
        obtain ⟨Aj, lj, cj, rfl⟩ : ∃ Aj lj cj, v = .slice Aj lj cj := by
          rcases open_slice hi1 g1 with ⟨h0, _⟩ | ⟨a', len', cap', m', n'', D', Pl', hcs, _⟩
          · simp only [List.cons.injEq, and_true] at h0; exact ⟨_, _, _, h0⟩
          · simp only [List.cons.injEq, and_true] at hcs; exact ⟨_, _, _, hcs⟩
        obtain ⟨ps, hps, hpl⟩ := open_pts hi1 he2 hone2 hC2 hp0 hp1 g1
        obtain rfl := hps.1
        exact ⟨(x, ps), by simpa using a0, ⟨Aj, cj, by simpa using a1, AP.mk hps⟩, hpl⟩
    obtain ⟨f, hf⟩ := choose_lt (α := Key) (p := fun i k => w.cell? (a.add (i * 2)) = some (.int .i64 k.1) ∧ (∃ Aj cj, w.cell? (a.add (i * 2 + 1)) = some (.slice Aj k.2.length cj) ∧ AP w w.heap.size Aj k.2.length k.2) ∧ k.2.length ≤ maxLen) key
    have ex : ∀ j, j < l → kd ((List.range l).map f) j = f j := fun j hj => by simp [kd, List.getD, hj]
    refine ⟨(List.range l).map f, ⟨by simp, fun hp => ?_⟩, by omega, fun j hj => ?_⟩
    · obtain ⟨b, off, spot⟩ := a
      have hx0 := (hf 0 hp).1
      have hspot : spot = none := by simpa [Addr.add] using World.cell?_spot hx0
      subst hspot
      refine ⟨b, off, rfl, ?_, fun j hj => ?_⟩
      · have := World.block_lt_of_cell? w _ hx0
        simpa [Addr.add] using this
      · obtain ⟨hx, ⟨Aj, cj, hy, hp⟩, _⟩ := hf j hj
        rw [ex j hj]
        rw [Go.WideShapes.add_plain] at hx hy
        exact ⟨hx, Aj, cj, by rw [Nat.add_assoc]; exact hy, hp⟩
    · have hj' : j < l := by simpa using hj
      rw [ex j hj']
      exact (hf j hj').2.2
end
end Go.Proofs.Ytofjohkhhomldaa

/-
  PROVED HERE: what the walks of the laws over slices use: a slice's numbers across marks in another slice. CONDITIONS: as each theorem names them.
-/
import Derived.Test.YticdilgnjnnaiaaLoop
namespace Go.Proofs.Yticdilgnjnnaiaa
open Go.RowKit

theorem RI.lt {w : World} {A : Option Addr} {n : Nat} {xs : List Int} (h : RI w A n xs) : 0 < n → ∀ b off, A = some ⟨b, off, none⟩ → b < w.heap.size := fun hn b off e => by
  obtain ⟨b1, o1, e1, hb, _⟩ := h.2 hn
  rw [e] at e1; injection e1 with e1; injection e1 with e1; omega
theorem RI.grown' {w w' : World} {A : Option Addr} {n : Nat} {xs : List Int} {row : Option Nat} {B : Nat} (h : RI w A n xs) (hB : 0 < n → ∀ b off, A = some ⟨b, off, none⟩ → b < B) (hg : w.grownBy w' row) (hr : ∀ k, row = some k → B ≤ k) : RI w' A n xs :=
  ⟨h.1, fun hn => by
    obtain ⟨b, off, e, hl, hc⟩ := h.2 hn
    refine ⟨b, off, e, Nat.lt_of_lt_of_le hl hg.size, fun j hj => ?_⟩
    have hne : some b ≠ row := fun e1 => by have := hr b e1.symm; have := hB hn b off e; omega
    exact (World.cell?_of_block (a := ⟨b, off + j, none⟩) (hg.block b hl hne)).trans (hc j hj)⟩
theorem own_apart {w w' : World} {B B' e e' s s' n m : Nat} {v u : Value} {xs ys : List Value} (h : w.ownsRow B e s v n xs) (hu : w'.ownsRow B' e' s' u m ys) (hs : w'.heap.size ≤ B) : v.ownBlock = none ∨ v.ownBlock ≠ u.ownBlock := by
  cases hv : v.ownBlock with
  | none => exact .inl rfl
  | some b => exact .inr fun e => by have := (h.lt b hv).1; have := (hu.lt b e.symm).2; omega
end Go.Proofs.Yticdilgnjnnaiaa

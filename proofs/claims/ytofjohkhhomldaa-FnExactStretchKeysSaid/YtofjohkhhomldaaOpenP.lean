/-
  PROVED HERE: an argument that is a slice of points reads as a list of points. CONDITIONS: as the theorem names them.
-/
import Derived.Test.YtofjohkhhomldaaPt
import Derived.Deep.Slices
import Derived.Deep.Fields
import Derived.ChangeSame
import Derived.OpenShut
namespace Go.Proofs.Ytofjohkhhomldaa
open Go.ChangeShapes Go.WideShapes Go.Deep Go.RowKit

def vI : Option Value → Int
  | some (.int _ x) => x
  | _ => 0
section
variable {H : Type} {enc : TypeId × Value → H} {P : Program} {w : World} {base : Nat} {spare : Nat → Bool} {held : Bool}
theorem open_pts {t e : TypeId} {f0 f1 : Field} {fuel : Nat} {A : Option Addr} {l c : Nat} {x : DataW H × List MemPlace} (ht : P.underlying t = some (.slice e)) (he : P.underlying e = some (.struct #[f0, f1]))
    (hone : oneCellFields P #[f0, f1] = true) (hC : P.cellsOf e = 2) (hi0 : P.underlying f0.type = some (.int .i64)) (hi1 : P.underlying f1.type = some (.int .i64)) (h : DataW.trod enc P w base spare held fuel t (Value.slice A l c).cells.toList = some x) :
    ∃ ps, PI w A l ps ∧ l ≤ maxLen := by
  rcases open_slice ht h with ⟨h0, _⟩ | ⟨a, len, cap, m, n, D, Pl, hcs, hb, hl, hm, hmm, hx, hi⟩
  · simp [Value.cells] at h0
    obtain ⟨rfl, rfl, rfl⟩ := h0
    exact ⟨[], ⟨rfl, fun h => absurd h (by omega)⟩, Nat.zero_le _⟩
  · simp [Value.cells] at hcs
    obtain ⟨rfl, rfl, rfl⟩ := hcs
    have hlm : l ≤ m := by rw [hmm]; split <;> omega
    have key : ∀ i, i < l → ∃ x y : Int, w.cell? (a.add (i * 2)) = some (.int .i64 x) ∧ w.cell? (a.add (i * 2 + 1)) = some (.int .i64 y) := by
      intro i hil
      obtain ⟨cs', hc, ht'⟩ := hi i (by omega)
      rw [hC] at hc
      obtain ⟨ys, n', hn', hy, hlen, hyl, hf⟩ := DataW.trod_struct he ht'
      obtain ⟨_, hcl, hat⟩ := World.cells?_some hc
      obtain ⟨o0, k0⟩ := hone_of hone 0 f0 rfl
      obtain ⟨o1, k1⟩ := hone_of hone 1 f1 rfl
      have h0 := hf 0 f0 rfl
      have h1 := hf 1 f1 rfl
      rw [o0, k0] at h0
      rw [o1, k1] at h1
      match cs', hcl, hat, h0, h1 with
      | [u, v], _, hat, h0, h1 =>
        have a0 := hat 0 (by omega)
        have a1 := hat 1 (by omega)
        rw [Go.Deep.add_add] at a0 a1
        obtain ⟨z0, hz0⟩ : ∃ z, ys[0]? = some z := ⟨_, List.getElem?_eq_getElem (by rw [hyl]; simp)⟩
        obtain ⟨z1, hz1⟩ : ∃ z, ys[1]? = some z := ⟨_, List.getElem?_eq_getElem (by rw [hyl]; simp)⟩
        have g0 : DataW.trod enc P w base spare held n' f0.type [u] = some z0 := h0.trans hz0
        have g1 : DataW.trod enc P w base spare held n' f1.type [v] = some z1 := h1.trans hz1
        obtain ⟨x, e0, _⟩ := DataW.trod_int hi0 g0
        obtain ⟨y, e1, _⟩ := DataW.trod_int hi1 g1
        simp only [List.cons.injEq, and_true] at e0 e1
        subst e0 e1
        exact ⟨x, y, by simpa using a0, by simpa using a1⟩
    refine ⟨(List.range l).map fun i => (vI (w.cell? (a.add (i * 2))), vI (w.cell? (a.add (i * 2 + 1)))), ⟨by simp, fun hp => ?_⟩, by omega⟩
    obtain ⟨b, off, spot⟩ := a
    obtain ⟨x0, y0, hx0, _⟩ := key 0 hp
    have hspot : spot = none := by simpa [Addr.add] using World.cell?_spot hx0
    subst hspot
    refine ⟨b, off, rfl, ?_, fun j hj => ?_⟩
    · have := World.block_lt_of_cell? w _ hx0
      simpa [Addr.add] using this
    · obtain ⟨x, y, hx, hy⟩ := key j hj
      have ex : ((List.range l).map fun i => (vI (w.cell? ((⟨b, off, none⟩ : Addr).add (i * 2))), vI (w.cell? ((⟨b, off, none⟩ : Addr).add (i * 2 + 1))))).getD j (0, 0) = (x, y) := by
        simp [List.getD, hj, hx, hy, vI]
      rw [ex]
      rw [Go.WideShapes.add_plain] at hx hy
      exact ⟨hx, by rw [Nat.add_assoc]; exact hy⟩
end
end Go.Proofs.Ytofjohkhhomldaa

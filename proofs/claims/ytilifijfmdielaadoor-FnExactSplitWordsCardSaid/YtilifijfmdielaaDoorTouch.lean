/-
  PROVED HERE: what the walks of the laws use: a world that differs from another one in a range of blocks alone; slices of ints and of points whose blocks lie in a range. CONDITIONS: as each theorem names them.
-/
import Derived.Test.YtilifijfmdielaaDoorSl
namespace Go.Proofs.YtilifijfmdielaaDoor
open Go.RowKit

/-- Only blocks from lo on and below hi have turned. -/
structure Touch (lo hi : Nat) (w w' : World) : Prop where
  os : w'.os = w.os
  tape : w'.tape = w.tape
  output : w'.output = w.output
  size : w.heap.size ≤ w'.heap.size
  block : ∀ i, i < w.heap.size → (i < lo ∨ hi ≤ i) → w'.heap[i]? = w.heap[i]?
theorem Touch.of_grown {lo hi : Nat} {w w' : World} {row : Option Nat} (h : w.grownBy w' row) (hr : ∀ k, row = some k → lo ≤ k ∧ k < hi) : Touch lo hi w w' :=
  ⟨h.os, h.tape, h.output, h.size, fun i hi' ho => h.block i hi' fun e => by have := hr i e.symm; omega⟩
theorem Touch.below {lo hi B : Nat} {a w w' : World} (h : Touch lo hi w w') (hb : Below B a w) (hB : B ≤ lo) (hw : B ≤ w.heap.size) : Below B a w' :=
  ⟨h.os.trans hb.os, h.tape.trans hb.tape, h.output.trans hb.output, Nat.le_trans hb.size h.size, fun i hi' => (h.block i (Nat.lt_of_lt_of_le hi' hw) (.inl (Nat.lt_of_lt_of_le hi' hB))).trans (hb.block i hi')⟩
theorem Touch.drewN {lo hi : Nat} {w w' : World} {k : Nat} (h : Touch lo hi (w.drewN k) w') : Touch lo hi w w' := ⟨h.os, h.tape, h.output, h.size, h.block⟩
theorem Touch.refl (lo hi : Nat) (w : World) : Touch lo hi w w := ⟨rfl, rfl, rfl, Nat.le_refl _, fun _ _ _ => rfl⟩
theorem Touch.trans {lo hi : Nat} {a b c : World} (h : Touch lo hi a b) (k : Touch lo hi b c) : Touch lo hi a c :=
  ⟨k.os.trans h.os, k.tape.trans h.tape, k.output.trans h.output, Nat.le_trans h.size k.size, fun i hi' ho => (k.block i (Nat.lt_of_lt_of_le hi' h.size) ho).trans (h.block i hi' ho)⟩
theorem Touch.wide {lo hi lo' hi' : Nat} {w w' : World} (h : Touch lo hi w w') (h1 : lo' ≤ lo) (h2 : hi ≤ hi') : Touch lo' hi' w w' :=
  ⟨h.os, h.tape, h.output, h.size, fun i hi'' ho => h.block i hi'' (by omega)⟩
theorem own_touch {w w' : World} {lo hi B1 B2 e size n : Nat} {v : Value} {xs : List Value} (h : w.ownsRow lo e size v n xs) (hh : ∀ k, v.ownBlock = some k → k < hi) (t : Touch B1 B2 w w') (ho : hi ≤ B1 ∨ B2 ≤ lo) : w'.ownsRow lo e size v n xs := by
  refine ⟨h.1, ?_⟩
  rcases h.2 with hn | ⟨g, cap, cur, rfl, hb, hgg, rest⟩
  · exact .inl hn
  · refine .inr ⟨g, cap, cur, rfl, hb, ?_, rest⟩
    have := hh g rfl
    rw [t.block g (Array.getElem?_eq_some_iff.1 hgg).1 (by omega)]
    exact hgg
/-- A slice of ints whose block lies in a range, the call's own. -/
def OI (w : World) (lo hi : Nat) (A : Option Addr) (n c : Nat) (xs : List Int) : Prop := w.ownsRow lo 2 1 (.slice A n c) n (xs.map (Value.int .i64)) ∧ ∀ k, (Value.slice A n c).ownBlock = some k → k < hi
section
variable {w w' : World} {lo hi B1 B2 n c : Nat} {A : Option Addr}
theorem OI.mk {xs : List Int} (h : w.ownsRow lo 2 1 (.slice A n c) n (xs.map (Value.int .i64))) : OI w lo w.heap.size A n c xs := ⟨h, fun k hk => (h.lt k hk).2⟩
theorem OI.below {xs : List Int} (h : OI w lo hi A n c xs) (hb : Below w.heap.size w w') : OI w' lo hi A n c xs := ⟨own_below h.1 hb, h.2⟩
theorem OI.drewN {xs : List Int} (h : OI w lo hi A n c xs) (k : Nat) : OI (w.drewN k) lo hi A n c xs := h
theorem OI.touch {xs : List Int} (h : OI w lo hi A n c xs) (t : Touch B1 B2 w w') (ho : hi ≤ B1 ∨ B2 ≤ lo) : OI w' lo hi A n c xs := ⟨own_touch h.1 h.2 t ho, h.2⟩
theorem OI.own {xs : List Int} (h : OI w lo hi A n c xs) : w.ownsRow lo 2 1 (.slice A n c) n (xs.map (Value.int .i64)) := h.1
theorem OI.ri {xs : List Int} (h : OI w lo hi A n c xs) : RI w A n xs := RI.of_own h.1
/-- A slice of ints that came in. -/
def AI (w : World) (hi : Nat) (A : Option Addr) (n : Nat) (xs : List Int) : Prop := RI w A n xs ∧ (0 < n → ∀ b off, A = some ⟨b, off, none⟩ → b < hi)
theorem AI.mk {xs : List Int} (h : RI w A n xs) : AI w w.heap.size A n xs := ⟨h, fun hn b off e => by
  obtain ⟨b1, o1, e1, hb, _⟩ := h.2 hn
  rw [e] at e1; injection e1 with e1; injection e1 with e1; omega⟩
theorem AI.ri {xs : List Int} (h : AI w hi A n xs) : RI w A n xs := h.1
theorem AI.below {xs : List Int} (h : AI w hi A n xs) (hb : Below w.heap.size w w') : AI w' hi A n xs := ⟨h.1.below hb, h.2⟩
theorem AI.drewN {xs : List Int} (h : AI w hi A n xs) (k : Nat) : AI (w.drewN k) hi A n xs := h
theorem AI.touch {xs : List Int} (h : AI w hi A n xs) (t : Touch B1 B2 w w') (ho : hi ≤ B1) : AI w' hi A n xs :=
  ⟨⟨h.1.1, fun hn => by
    obtain ⟨b, off, e, hl, hc⟩ := h.1.2 hn
    have := h.2 hn b off e
    exact ⟨b, off, e, Nat.lt_of_lt_of_le hl t.size, fun j hj => (World.cell?_of_block (a := ⟨b, off + j, none⟩) (t.block b hl (by omega))).trans (hc j hj)⟩⟩, h.2⟩
end
end Go.Proofs.YtilifijfmdielaaDoor

/-
  PROVED HERE: contracts of the laws' own helpers over slices of int64: equality, marks, looking the marks up again; what a slice reads as. CONDITIONS: as each theorem names them.
-/
import Derived.Test.YtilifijfmdielaaDoorBase
import Derived.Deep.RegionHeld3
import Derived.Deep.DeepCutAuto
import Derived.Deep.AppendLies
import Derived.Deep.Onto
namespace Go.Proofs.YtilifijfmdielaaDoor
open Go.RowKit

theorem info_int64 : (Tryd.prog.info? 2).map (fun i => (i.zero, i.size, i.bytes)) = some (some (.int .i64 0), 1, 8) := by kernel_rfl

/-- The slice with this address and length reads as the numbers xs. -/
def RI (w : World) (A : Option Addr) (n : Nat) (xs : List Int) : Prop :=
  xs.length = n ∧ (0 < n → ∃ b off, A = some ⟨b, off, none⟩ ∧ b < w.heap.size ∧ ∀ j, j < n → w.cell? ⟨b, off + j, none⟩ = some (.int .i64 (xs.getD j 0)))
theorem RI.at_ {w : World} {A : Option Addr} {n : Nat} {xs : List Int} (h : RI w A n xs) {k : Nat} (hk : k < n) : ∃ b off, A = some ⟨b, off, none⟩ ∧ w.cell? ⟨b, off + k, none⟩ = some (.int .i64 (xs.getD k 0)) := by
  obtain ⟨b, off, e, _, hc⟩ := h.2 (by omega)
  exact ⟨b, off, e, hc k hk⟩
theorem RI.keep {w w' : World} {A : Option Addr} {n : Nat} {xs : List Int} (h : RI w A n xs) (hs : w.heap.size ≤ w'.heap.size) (hk : ∀ b off, A = some ⟨b, off, none⟩ → ∀ j, w'.cell? ⟨b, off + j, none⟩ = w.cell? ⟨b, off + j, none⟩) : RI w' A n xs :=
  ⟨h.1, fun hn => by
    obtain ⟨b, off, e, hb, hc⟩ := h.2 hn
    exact ⟨b, off, e, by omega, fun j hj => (hk b off e j).trans (hc j hj)⟩⟩
theorem RI.below {w w' : World} {A : Option Addr} {n : Nat} {xs : List Int} (h : RI w A n xs) (hb : Below w.heap.size w w') : RI w' A n xs :=
  ⟨h.1, fun hn => by
    obtain ⟨b, off, e, hl, hc⟩ := h.2 hn
    exact ⟨b, off, e, Nat.lt_of_lt_of_le hl hb.size, fun j hj => (hb.cell (p := ⟨b, off + j, none⟩) hl).trans (hc j hj)⟩⟩
theorem RI.drewN {w : World} {A : Option Addr} {n : Nat} {xs : List Int} (h : RI w A n xs) (k : Nat) : RI (w.drewN k) A n xs := h
theorem RI.alloc {w : World} {A : Option Addr} {n : Nat} {xs : List Int} (h : RI w A n xs) (o : Obj) : RI (w.alloc o) A n xs := h.below ((Below.refl _ _).alloc (Nat.le_refl _) o)
/-- .. over a write into another row. -/
theorem RI.grown {w w' : World} {A : Option Addr} {n : Nat} {xs : List Int} {row : Option Nat} {B : Nat} (h : RI w A n xs) (hB : ∀ b off, A = some ⟨b, off, none⟩ → b < B) (hg : w.grownBy w' row) (hr : ∀ k, row = some k → B ≤ k) : RI w' A n xs :=
  ⟨h.1, fun hn => by
    obtain ⟨b, off, e, hl, hc⟩ := h.2 hn
    refine ⟨b, off, e, Nat.lt_of_lt_of_le hl hg.size, fun j hj => ?_⟩
    have hne : some b ≠ row := fun e1 => by have := hr b e1.symm; have := hB b off e; omega
    exact (World.cell?_of_block (a := ⟨b, off + j, none⟩) (hg.block b hl hne)).trans (hc j hj)⟩
theorem RI.of_own {w : World} {base e : Nat} {A : Option Addr} {n c : Nat} {xs : List Int} (h : w.ownsRow base e 1 (.slice A n c) n (xs.map (Value.int .i64))) : RI w A n xs := by
  refine ⟨by simpa using h.1, fun hn => ?_⟩
  obtain ⟨g, cap, hv, _, hlt⟩ := h.form hn
  have hA : A = some ⟨g, 0, none⟩ := by injection hv
  subst hA
  refine ⟨g, 0, rfl, hlt, fun j hj => ?_⟩
  have hl : xs.length = n := by simpa using h.1
  have := h.cells (g := g) rfl j (.int .i64 (xs.getD j 0)) (by simp [List.getD, show j < xs.length by omega])
  simpa [Addr.add_lit] using this
theorem own_lt {w : World} {base e : Nat} {A : Option Addr} {n c : Nat} {xs : List Value} (h : w.ownsRow base e 1 (.slice A n c) n xs) : ∀ b off, A = some ⟨b, off, none⟩ → base ≤ b ∧ b < w.heap.size :=
  fun b off hA => h.lt b (by subst hA; rfl)
theorem own_below {w w' : World} {base e : Nat} {size : Nat} {v : Value} {n : Nat} {xs : List Value} (h : w.ownsRow base e size v n xs) (hb : Below w.heap.size w w') : w'.ownsRow base e size v n xs :=
  h.kept (row := none) ⟨hb.os, hb.tape, hb.output, hb.size, fun k hk _ => hb.block k hk⟩ (by cases hv : v.ownBlock <;> simp)
theorem one_int (k : IntKind) (x : Int) : ∀ u ∈ [Value.int k x], u.oneCell' = true := by
  intro u hu
  simp only [List.mem_singleton] at hu
  subst hu; rfl
theorem own_drewN {w : World} {base e : Nat} {size : Nat} {v : Value} {n : Nat} {xs : List Value} (h : w.ownsRow base e size v n xs) (k : Nat) : (w.drewN k).ownsRow base e size v n xs := h

theorem grown_trans {a b c : World} {row : Option Nat} (h : a.grownBy b row) (k : b.grownBy c row) : a.grownBy c row :=
  ⟨k.os.trans h.os, k.tape.trans h.tape, k.output.trans h.output, Nat.le_trans h.size k.size, fun i hi hne => (k.block i (Nat.lt_of_lt_of_le hi h.size) hne).trans (h.block i hi hne)⟩
/-- A slice of its own that reads as xs is handed back. -/
def SlR (B : Nat) (xs : List Int) (w : World) (e : Ending) (w' : World) : Prop :=
  ∃ A c, e = .returned (.slice A xs.length c) ∧ w'.ownsRow B 2 1 (.slice A xs.length c) xs.length (xs.map (Value.int .i64)) ∧ Below B w w'
theorem SlR.mk {B n : Nat} {xs : List Int} {w w' : World} {v : Value} (hn : xs.length = n) (ho : w'.ownsRow B 2 1 v n (xs.map (Value.int .i64))) (hb : Below B w w') : SlR B xs w (.returned v) w' := by
  subst hn
  rcases ho.2 with ⟨rfl, h0⟩ | ⟨g, cap, cur, rfl, _⟩
  · rw [h0] at ho
    have : xs = [] := List.eq_nil_of_length_eq_zero h0
    subst this
    exact ⟨none, 0, rfl, ho, hb⟩
  · exact ⟨_, _, rfl, ho, hb⟩
/-- A slice of its own that reads as xs is handed back, with a code. -/
def SlC (B : Nat) (xs : List Int) (code : Int) (w : World) (e : Ending) (w' : World) : Prop :=
  ∃ A c, e = .returned (.tuple #[.slice A xs.length c, .int .i64 code]) ∧ w'.ownsRow B 2 1 (.slice A xs.length c) xs.length (xs.map (Value.int .i64)) ∧ Below B w w'
theorem SlC.none_ {B : Nat} {code : Int} {w w' : World} (hb : Below B w w') : SlC B [] code w (.returned (.tuple #[.slice none 0 0, .int .i64 code])) w' := ⟨none, 0, rfl, World.ownsRow_nil _ _ _ _, hb⟩
/-- The marks. -/
def mkI (k : Int) (n : Nat) : List Int := (List.range n).map fun (j : Nat) => k + (j : Int)
theorem mkI_len (k : Int) (n : Nat) : (mkI k n).length = n := by simp [mkI]
theorem mkI_getD (k : Int) (n j : Nat) (h : j < n) : (mkI k n).getD j 0 = k + j := by simp [mkI, List.getD, h]
def mkTo (xs : List Value) (k : Int) : Nat → List Value
  | 0 => xs
  | i + 1 => (mkTo xs k i).set i (.int .i64 (k + (i : Int)))
theorem mkTo_len (xs : List Value) (k : Int) (i : Nat) : (mkTo xs k i).length = xs.length := by
  induction i with
  | zero => rfl
  | succ i ih => simp [mkTo, ih]
theorem mkTo_get (xs : List Value) (k : Int) (i : Nat) : ∀ j, j < xs.length → (mkTo xs k i)[j]? = if j < i then some (.int .i64 (k + (j : Int))) else xs[j]? := by
  induction i with
  | zero => intro j _; simp [mkTo]
  | succ i ih =>
    intro j hj
    simp only [mkTo, List.getElem?_set, mkTo_len, ih j hj]
    by_cases e : i = j
    · subst e; simp [hj]
    · rw [if_neg e]
      by_cases h : j < i
      · rw [if_pos h, if_pos (by omega)]
      · rw [if_neg h, if_neg (by omega)]
theorem mkTo_all (xs : List Value) (k : Int) (n : Nat) (h : xs.length = n) : mkTo xs k n = (mkI k n).map (Value.int .i64) := by
  apply List.ext_getElem?
  intro j
  by_cases hj : j < n
  · rw [mkTo_get xs k n j (by omega), if_pos hj]
    simp [mkI, hj]
  · rw [List.getElem?_eq_none (by rw [mkTo_len]; omega), List.getElem?_eq_none (by simp [mkI]; omega)]
end Go.Proofs.YtilifijfmdielaaDoor

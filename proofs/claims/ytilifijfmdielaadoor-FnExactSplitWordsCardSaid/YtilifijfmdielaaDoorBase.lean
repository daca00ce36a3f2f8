/-
  PROVED HERE: plain facts that the walks of this seat use (no program is looked into): the greatest common divisor as a plain function, range tests, worlds that only grow. CONDITIONS: as each theorem names them.
-/
import Derived.Test.YtilifijfmdielaaDoorRows
import Derived.WalkKit
import Derived.WalkSpells
import Derived.Outline
import Derived.Deep.QuietTactic
import Derived.BigQuiet
import Derived.RegionTactic
import Derived.Lib.Hide
namespace Go.Proofs.YtilifijfmdielaaDoor
open Go.RowKit

theorem ret_int {k : IntKind} {a b : Int} (h : a = b) : Ending.returned (.int k a) = .returned (.int k b) := by rw [h]
theorem ret_bool {a b : Bool} (h : a = b) : Ending.returned (.bool a) = .returned (.bool b) := by rw [h]

theorem ret_int2 {k : IntKind} {a b : Int} {v : Value} (h : a = b) : Ending.returned (.tuple #[.int k a, v]) = .returned (.tuple #[.int k b, v]) := by rw [h]
theorem ret_int3 {k : IntKind} {a b c d : Int} {v : Value} (h : a = b) (h' : c = d) : Ending.returned (.tuple #[.int k a, .int k c, v]) = .returned (.tuple #[.int k b, .int k d, v]) := by rw [h, h']
theorem not_iff_mk {p q : Prop} (h : p ↔ q) : ¬ p ↔ ¬ q := ⟨fun a b => a (h.2 b), fun a b => a (h.1 b)⟩

/-- The greatest common divisor, as a number. -/
def G (a b : Int) : Int := Int.gcd a b
theorem G_step (a b : Int) : G b (a.tmod b) = G a b := by
  unfold G; congr 1
  rw [Int.gcd_comm a b]
  conv => rhs; rw [← Int.tmod_add_mul_tdiv a b]
  simp
theorem G_zero (a : Int) : G a 0 = if -a ≤ a then a else -a := by unfold G; simp; split <;> omega
theorem G_nonneg (a b : Int) : 0 ≤ G a b := by unfold G; omega
theorem G_pos (a b : Int) (h : b ≠ 0) : 1 ≤ G a b := by
  unfold G
  have : Int.gcd a b ≠ 0 := by rw [Ne, Int.gcd_eq_zero_iff]; omega
  omega
theorem G_le (a b : Int) (h : 0 < b) : G a b ≤ b := by
  have h1 : (Int.gcd a b : Int) ∣ b := Int.gcd_dvd_right ..
  exact Int.le_of_dvd h h1
theorem G_neg (a b : Int) : G (-a) b = G a b := by unfold G; simp
theorem G_abs (a b : Int) : G (if a < 0 then -a else a) b = G a b := by split <;> simp [G_neg]
theorem tm_lt (x : Int) {y : Int} (h : y ≠ 0) : (x.tmod y).natAbs < y.natAbs := by
  rw [Int.natAbs_tmod]; exact Nat.mod_lt _ (by omega)

/-- After a call that only made memory of its own: every old cell and every old mark reads as before. -/
theorem bcell {W w1 : World} (hb : Below W.heap.size W w1) : (∀ b o, b < W.heap.size → w1.cell? ⟨b, o, none⟩ = W.cell? ⟨b, o, none⟩) ∧ (∀ b o, b < W.heap.size → w1.frozen? ⟨b, o, none⟩ = W.frozen? ⟨b, o, none⟩) :=
  ⟨fun b o h => hb.cell (p := ⟨b, o, none⟩) h, fun b o h => hb.frozen (p := ⟨b, o, none⟩) h⟩
theorem bl_drewN {B : Nat} {a w : World} (h : Below B a w) (n : Nat) : Below B a (w.drewN n) := ⟨h.os, h.tape, h.output, h.size, h.block⟩

theorem bcell_of {W w1 : World} (hb : Below W.heap.size W w1) {b o : Nat} {v : Value} (h : W.cell? ⟨b, o, none⟩ = some v) : w1.cell? ⟨b, o, none⟩ = some v :=
  (hb.cell (p := ⟨b, o, none⟩) (World.block_lt_of_cell? W _ h)).trans h
theorem keepA {w : World} {o : Obj} {a : Addr} {v : Value} (h : w.cell? a = some v) : (w.alloc o).cell? a = some v := by
  have hb := World.block_lt_of_cell? w a h
  rw [World.cell?_alloc_lt _ _ _ hb]; exact h
theorem keepD {w : World} {a : Addr} {v : Value} (h : w.cell? a = some v) : w.drew.cell? a = some v := h
theorem keepN {w : World} {a : Addr} {v : Value} (h : w.cell? a = some v) (n : Nat) : (w.drewN n).cell? a = some v := h
theorem bl_al {a w : World} (h : Below a.heap.size a w) (o : Obj) : Below a.heap.size a (w.alloc o) := h.alloc h.size o
theorem bl_tr {a w w1 : World} (h : Below a.heap.size a w) (h1 : Below w.heap.size w w1) : Below a.heap.size a w1 := h.trans (h1.mono h.size)
/-- Draws stand outermost. -/
theorem alloc_drewN (w : World) (k : Nat) (o : Obj) : (w.drewN k).alloc o = (w.alloc o).drewN k := rfl
theorem setCell_drewN (w : World) (k : Nat) (a : Addr) (v : Value) : (w.drewN k).setCell a v = (w.setCell a v).drewN k := rfl
attribute [go_sem] alloc_drewN setCell_drewN
/-- A store into a block that was just made, behind draws. -/
theorem setCell_new (w : World) (c : Array Value) (t : TypeId) (k j : Nat) (u : Value) : ((w.alloc (.cells c t)).drewN k).setCell ⟨w.heap.size, j, none⟩ u = (w.alloc (.cells (c.setIfInBounds j u) t)).drewN k := by
  rw [← World.setCell_alloc_at _ _ _ _ _ rfl]; rfl
theorem setCell_new0 (w : World) (c : Array Value) (t : TypeId) (j : Nat) (u : Value) : (w.alloc (.cells c t)).setCell ⟨w.heap.size, j, none⟩ u = w.alloc (.cells (c.setIfInBounds j u) t) := World.setCell_alloc_at _ _ _ _ _ rfl
/-- A quiet callee met inside a region that draws. -/
theorem quiet_left {P : Program} {f : FuncId} {args : Array Value} {w : World} {n : Nat} {v : Value}
    (h : Calls P f args (w.drewN n) fun e w' => e = .returned v ∧ w.drewN n = w') : Calls P f args (w.drewN n) fun e w'' => e = .returned v ∧ ∃ m, w'' = w.drewN m :=
  h.mono fun _ _ ⟨he, hm⟩ => ⟨he, n, hm.symm⟩

theorem quiet_add_left {P : Program} {f : FuncId} {args : Array Value} {w : World} {a n : Nat} {v : Value}
    (h : Calls P f args (w.drewN (a + n)) fun e w' => e = .returned v ∧ w.drewN (a + n) = w') : Calls P f args (w.drewN (a + n)) fun e w'' => e = .returned v ∧ ∃ m, w'' = w.drewN (a + m) :=
  h.mono fun _ _ ⟨he, hm⟩ => ⟨he, n, hm.symm⟩

/-- Is a number within bounds? -/
def inB (n lo hi : Int) : Bool := decide (lo ≤ n) && decide (n ≤ hi)
theorem inB_t {n lo hi : Int} (h : inB n lo hi = true) : lo ≤ n ∧ n ≤ hi := by simpa [inB] using h
theorem inB_f {n lo hi : Int} (h : inB n lo hi = false) : n < lo ∨ hi < n := by simp [inB] at h; omega
theorem inB_mk {n lo hi : Int} (h1 : lo ≤ n) (h2 : n ≤ hi) : inB n lo hi = true := by simp [inB, h1, h2]
theorem within_any (n lo hi : Int) (w : World) :
    Calls Tryd.prog 45 #[.int .i64 n, .int .i64 lo, .int .i64 hi] w fun e w' => e = .returned (.bool (inB n lo hi)) ∧ w = w' := by
  by_cases h1 : lo ≤ n
  · by_cases h2 : n ≤ hi
    · go_enter Tryd.func45, Tryd.ntmps45
      go_wp2
      go_ret
      exact ⟨ret_bool (by simp [inB, h1, h2]), rfl⟩
    · have h2' : decide (n ≤ hi) = false := by simpa using h2
      go_enter Tryd.func45, Tryd.ntmps45
      go_wp2
      go_ret
      exact ⟨ret_bool (by simp [inB, h2']), rfl⟩
  · have h1' : decide (lo ≤ n) = false := by simpa using h1
    go_enter Tryd.func45, Tryd.ntmps45
    go_wp2
    go_ret
    exact ⟨ret_bool (by simp [inB, h1']), rfl⟩
theorem l00In_any (n lo hi : Int) (w : World) :
    Calls Tryd.prog 42 #[.int .i64 n, .int .i64 lo, .int .i64 hi] w fun e w' => e = .returned (.bool (inB n lo hi)) ∧ w = w' := by
  by_cases h1 : lo ≤ n
  · by_cases h2 : n ≤ hi
    · go_enter Tryd.func42, Tryd.ntmps42
      go_wp2
      go_ret
      exact ⟨ret_bool (by simp [inB, h1, h2]), rfl⟩
    · have h2' : decide (n ≤ hi) = false := by simpa using h2
      go_enter Tryd.func42, Tryd.ntmps42
      go_wp2
      go_ret
      exact ⟨ret_bool (by simp [inB, h2']), rfl⟩
  · have h1' : decide (lo ≤ n) = false := by simpa using h1
    go_enter Tryd.func42, Tryd.ntmps42
    go_wp2
    go_ret
    exact ⟨ret_bool (by simp [inB, h1']), rfl⟩
theorem within_v {n lo hi : Int} {b : Bool} (h : inB n lo hi = b) (w : World) :
    Calls Tryd.prog 45 #[.int .i64 n, .int .i64 lo, .int .i64 hi] w fun e w' => e = .returned (.bool b) ∧ w = w' := by
  subst h; exact within_any _ _ _ _
theorem l00In_v {n lo hi : Int} {b : Bool} (h : inB n lo hi = b) (w : World) :
    Calls Tryd.prog 42 #[.int .i64 n, .int .i64 lo, .int .i64 hi] w fun e w' => e = .returned (.bool b) ∧ w = w' := by
  subst h; exact l00In_any _ _ _ _
/-- The program's gcd. -/
theorem gcd_any (a b : Int) (w : World) (ha : -10000000000000 ≤ a) (ha' : a ≤ 10000000000000) (hb : -10000000000000 ≤ b) (hb' : b ≤ 10000000000000) :
    Calls Tryd.prog 46 #[.int .i64 a, .int .i64 b] w fun e w' => e = .returned (.int .i64 (G a b)) ∧ ∃ n, w' = w.drewN n := by
  go_enter Tryd.func46, Tryd.ntmps46
  go_wp2
  go_loopw [0, 1] (fun u v wr => ∃ (x y : Int) (n : Nat), u = .int .i64 x ∧ v = .int .i64 y ∧ -10000000000000 ≤ x ∧ x ≤ 10000000000000 ∧ -10000000000000 ≤ y ∧ y ≤ 10000000000000 ∧ G x y = G a b ∧ wr = w.drewN n) (fun _ v _ => (intOf v).natAbs)
  case atStart => exact ⟨a, b, 0, rfl, rfl, ha, ha', hb, hb', rfl, rfl⟩
  case round =>
    obtain ⟨x, y, n, rfl, rfl, hx, hx', hy, hy', hg, rfl⟩ := hrel
    have HG := Lib.hid hg
    clear hg
    by_cases hz : y = 0
    · subst hz
      go_wp2
      all_goals
        go_ret
        refine ⟨ret_int ?_, _, rfl⟩
        rw [← HG.out, G_zero]
        first | (rw [if_pos (by omega)]; done) | (rw [if_neg (by omega)]; done)
    · have hz' : (y == 0) = false := by simpa using hz
      have hz2 : (y != 0) = true := by simpa using hz
      have ht := tm_lt x hz
      go_wp2
      go_region
      go_wp2
      go_roundw
      case rel => exact ⟨y, x.tmod y, n + 1, rfl, rfl, hy, hy', by omega, by omega, by rw [G_step]; exact HG.out, rfl⟩
      case measure => exact tm_lt x hz
/-- The reference's gcd, of numbers that are not negative. -/
theorem lgcd_any (a b : Int) (w : World) (ha : 0 ≤ a) (ha' : a ≤ 10000000000000) (hb : 0 ≤ b) (hb' : b ≤ 10000000000000) :
    Calls Tryd.prog 43 #[.int .i64 a, .int .i64 b] w fun e w' => e = .returned (.int .i64 (G a b)) ∧ w = w' := by
  go_enter Tryd.func43, Tryd.ntmps43
  go_wp2
  go_loop [0, 1] (fun u v => ∃ (x y : Int), u = .int .i64 x ∧ v = .int .i64 y ∧ 0 ≤ x ∧ x ≤ 10000000000000 ∧ 0 ≤ y ∧ y ≤ 10000000000000 ∧ G x y = G a b) (fun _ v => (intOf v).natAbs)
  case atStart => exact ⟨a, b, rfl, rfl, ha, ha', hb, hb', rfl⟩
  case round =>
    obtain ⟨x, y, rfl, rfl, hx, hx', hy, hy', hg⟩ := hrel
    have HG := Lib.hid hg
    clear hg
    by_cases hz : y = 0
    · subst hz
      go_wp2
      go_ret
      refine ⟨ret_int ?_, rfl⟩
      rw [← HG.out, G_zero, if_pos (by omega)]
    · have hz' : (y == 0) = false := by simpa using hz
      have hz2 : (y != 0) = true := by simpa using hz
      have ht := Int.emod_lt_of_pos x (show 0 < y by omega)
      have ht2 := Int.emod_nonneg x hz
      go_wp2
      go_round
      case rel => exact ⟨y, x % y, rfl, rfl, hy, hy', by omega, by omega, by rw [← Int.tmod_eq_emod_of_nonneg hx, G_step]; exact HG.out⟩
      case measure => simp [intOf]; omega
theorem toFraction_any (a b : Int) (w : World) :
    Calls Tryd.prog 13 #[.agg #[.int .i64 a, .int .i64 b]] w fun e w' => e = .returned (.agg #[.int .i64 a, .int .i64 b]) ∧ ∃ c1 c2 c3 : Array Value, w' = ((w.alloc (.cells c1 28)).alloc (.cells c2 30)).alloc (.cells c3 30) := by
  go_enter Tryd.func13, Tryd.ntmps13
  go_wp2
  simp [bodyPost, results, Tryd.results13, go_sem]
  exact ⟨_, _, _, rfl⟩
end Go.Proofs.YtilifijfmdielaaDoor

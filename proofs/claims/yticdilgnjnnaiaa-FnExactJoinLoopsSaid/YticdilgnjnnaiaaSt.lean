/-
  PROVED HERE: contracts of the steps of a loop, in the program and in the reference. CONDITIONS: as each theorem names them.
-/
import Derived.Test.YticdilgnjnnaiaaLoop
namespace Go.Proofs.Yticdilgnjnnaiaa
open Go.RowKit

theorem w64 {n : Int} (h1 : -9223372036854775808 ≤ n) (h2 : n ≤ 9223372036854775807) : IntKind.i64.wrap n = n := by rw [IntKind.wrap_i64]; omega
/-- Each number is a place. -/
def Pl (xs : List Int) : Prop := ∀ j, j < xs.length → 0 ≤ xs.getD j 0 ∧ xs.getD j 0 ≤ 1000
/-- The first k steps of a loop. -/
def stI (xs : List Int) (k : Nat) : List Int := (List.range k).map fun (j : Nat) => xs.getD ((j + 1) % xs.length) 0 - xs.getD j 0
theorem stI_len (xs : List Int) (k : Nat) : (stI xs k).length = k := by simp [stI]
theorem stI_succ (xs : List Int) (k : Nat) : stI xs (k + 1) = stI xs k ++ [xs.getD ((k + 1) % xs.length) 0 - xs.getD k 0] := by simp [stI, List.range_succ]
theorem next_ (k n : Nat) (h : k < n) : ∃ m : Nat, m = (k + 1) % n ∧ ((k : Int) + 1) % (n : Int) = (m : Int) ∧ m < n := ⟨(k + 1) % n, rfl, by simp, Nat.mod_lt _ (by omega)⟩
set_option maxHeartbeats 1000000 in
theorem stepsOf_any (A : Option Addr) (n c : Nat) (xs : List Int) (w : World) (hn : n ≤ 60) (hA : RI w A n xs) (hp : Pl xs) :
    Calls Try.prog 39 #[.slice A n c] w (SlR w.heap.size (stI xs n) w) := by
  obtain ⟨i0, hi, hz0, hz1, hz2⟩ := info_parts info_int64
  have hl := hA.1
  have HA := Lib.hid hA
  have HL := Lib.hid hl
  have HP := Lib.hid hp
  clear hA hl hp
  go_enter Try.func39, Try.ntmps39
  go_wp2
  go_loopw [3, 4, 5, 9] (fun v _ _ i wr => ∃ k : Nat, k ≤ n ∧ i = .int .i64 k ∧ wr.ownsRow w.heap.size 2 1 v k ((stI xs k).map (Value.int .i64)) ∧ Below w.heap.size w wr) (fun _ _ _ i _ => n - (intOf i).toNat)
  case atStart => exact ⟨0, Nat.zero_le _, rfl, World.ownsRow_lit w #[] 0 (Nat.le_refl _) (Nat.zero_le _) (by simp), (Below.refl _ _).alloc (Nat.le_refl _) _⟩
  case round =>
    obtain ⟨k, hk, rfl, ho, hb⟩ := hrel
    have hz := hb.size
    have HO := Lib.hid ho
    have HB := Lib.hid hb
    clear ho hb
    by_cases hlt : k < n
    · obtain ⟨m, hme, hmi, hml⟩ := next_ k n hlt
      have HM := Lib.hid hme
      clear hme
      obtain ⟨b1, o1, hAA, h1⟩ := (HA.out.below HB.out).at_ hlt
      obtain ⟨b2, o2, hAA2, h2⟩ := (HA.out.below HB.out).at_ hml
      subst hAA
      obtain ⟨rfl, rfl⟩ : b1 = b2 ∧ o1 = o2 := by injection hAA2 with e; injection e with e1 e2; exact ⟨e1, e2⟩
      clear hAA2
      obtain ⟨p1, p2⟩ := HP.out k (by rw [HL.out]; exact hlt)
      obtain ⟨p3, p4⟩ := HP.out m (by rw [HL.out]; exact hml)
      obtain ⟨x, hx⟩ : ∃ x, x = xs.getD k 0 := ⟨_, rfl⟩
      obtain ⟨y, hy⟩ : ∃ y, y = xs.getD m 0 := ⟨_, rfl⟩
      rw [← hx] at h1 p1 p2
      rw [← hy] at h2 p3 p4
      have hs : stI xs (k + 1) = stI xs k ++ [y - x] := by rw [stI_succ, HL.out, ← HM.out, ← hx, ← hy]
      have HS := Lib.hid hs
      clear hs hx hy
      go_wp2_with (at_builtin; refine wpList_append_own _ rfl _ _ 22 rfl w.heap.size 2 i0 (.int .i64 0) 1 8 Try.underlying22 hi hz0 hz1 hz2 rfl (by decide) _ _ _ rfl (HO.out.alloc _) ⟨wr.heap.size, 0, none⟩ 1 1 [.int .i64 (y - x)] rfl rfl (cell_one_new _ _ _) (one_int _ _) (by unfold maxLen; omega) (by omega) (by simp; omega) ?_; intro v' w1 hown' hgrow _)
      have hb2 := (HB.out.alloc hz (.cells #[.int .i64 (y - x)] 2)).grown hgrow (by simp; omega) (fun j hj => (HO.out.lt j hj).1)
      go_roundw
      case rel => exact ⟨k + 1, by omega, by go_num, by rw [HS.out, List.map_append]; exact hown', hb2⟩
      case measure => simp [intOf]; omega
    · go_wp2
      go_ret
      have e : k = n := by omega
      subst e
      exact SlR.mk (stI_len _ _) HO.out HB.out
set_option maxHeartbeats 2000000 in
theorem l05Steps_any (A : Option Addr) (n c : Nat) (xs : List Int) (w : World) (hn : n ≤ 60) (hA : RI w A n xs) (hp : Pl xs) :
    Calls Try.prog 38 #[.slice A n c] w (SlR w.heap.size (stI xs n) w) := by
  obtain ⟨i0, hi, hz0, hz1, hz2⟩ := info_parts info_int64
  have hl := hA.1
  have HA := Lib.hid hA
  have HL := Lib.hid hl
  have HP := Lib.hid hp
  clear hA hl hp
  go_enter Try.func38, Try.ntmps38
  go_wp2
  go_loopw [3, 4] (fun v i wr => ∃ k : Nat, k ≤ n ∧ i = .int .i64 k ∧ wr.ownsRow w.heap.size 2 1 v k ((stI xs k).map (Value.int .i64)) ∧ Below w.heap.size w wr) (fun _ i _ => n - (intOf i).toNat)
  case atStart => exact ⟨0, Nat.zero_le _, rfl, World.ownsRow_lit w #[] 0 (Nat.le_refl _) (Nat.zero_le _) (by simp), (Below.refl _ _).alloc (Nat.le_refl _) _⟩
  case round =>
    obtain ⟨k, hk, rfl, ho, hb⟩ := hrel
    have hz := hb.size
    have HO := Lib.hid ho
    have HB := Lib.hid hb
    clear ho hb
    by_cases hlt : k < n
    · obtain ⟨m, hme, hmi, hml⟩ := next_ k n hlt
      have HM := Lib.hid hme
      clear hme
      obtain ⟨b1, o1, hAA, h1⟩ := (HA.out.below HB.out).at_ hlt
      obtain ⟨b2, o2, hAA2, h2⟩ := (HA.out.below HB.out).at_ hml
      subst hAA
      obtain ⟨rfl, rfl⟩ : b1 = b2 ∧ o1 = o2 := by injection hAA2 with e; injection e with e1 e2; exact ⟨e1, e2⟩
      clear hAA2
      have hbl : b1 < w.heap.size := by obtain ⟨b, off, e, hb, _⟩ := HA.out.2 (by omega); injection e with e; injection e with e1; omega
      obtain ⟨p1, p2⟩ := HP.out k (by rw [HL.out]; exact hlt)
      obtain ⟨p3, p4⟩ := HP.out m (by rw [HL.out]; exact hml)
      obtain ⟨x, hx⟩ : ∃ x, x = xs.getD k 0 := ⟨_, rfl⟩
      obtain ⟨y, hy⟩ : ∃ y, y = xs.getD m 0 := ⟨_, rfl⟩
      rw [← hx] at h1 p1 p2
      rw [← hy] at h2 p3 p4
      have hs : stI xs (k + 1) = stI xs k ++ [y - x] := by rw [stI_succ, HL.out, ← HM.out, ← hx, ← hy]
      have HS := Lib.hid hs
      clear hs hx hy
      have r1 : IntKind.i64.wrap ((k : Int) + 1) = (k : Int) + 1 := w64 (by omega) (by omega)
      have r4 : IntKind.i64.wrap (y - x) = y - x := w64 (by omega) (by omega)
      have r5 : IntKind.i64.wrap (m : Int) = (m : Int) := w64 (by omega) (by omega)
      have r2 : ((k : Int) + 1).tmod (n : Int) = (m : Int) := by rw [Int.tmod_eq_emod_of_nonneg (by omega)]; exact hmi
      have r3 : ((n : Int) == 0) = false := by simp; omega
      have r6 : ¬ (n : Int) = 0 := by omega
      have r7 : ¬ n = 0 := by omega
      have q1 : (0 : Int) ≤ (k : Int) := Int.natCast_nonneg _
      have q2 : (k : Int) < (n : Int) := by omega
      have q3 : (0 : Int) ≤ (m : Int) := Int.natCast_nonneg _
      have q4 : (m : Int) < (n : Int) := by omega
      have hne : u3.ownBlock ≠ some b1 := fun e => by have := (HO.out.lt _ e).1; omega
      go_wp2
      go_region_held3 (fun w' => w'.cell? ⟨b1, o1 + k, none⟩ = some (.int .i64 x) ∧ w'.cell? ⟨b1, o1 + m, none⟩ = some (.int .i64 y))
        (first | go_keep | (go_split_ands; refine ⟨?_, ?_⟩ <;> (rw [hgrow.cell_far _ (by simp; omega) (Ne.symm hne)]; assumption)))
        ((refine step_append_lies _ (by rfl) _ _ _ (by rfl) w.heap.size 2 i0 (.int .i64 0) 1 8 Try.underlying22 hi hz0 hz1 hz2 rfl (by decide) u3 k ((stI xs k).map (Value.int .i64)) (by rfl) ((HO.out.alloc _).drew) ⟨wr.heap.size, 0, none⟩ 1 1 [.int .i64 (y - x)] (by rfl) (by rfl) (fun j u h => cell_one_new wr _ _ j u h) (one_int _ _) (by omega) (by unfold maxLen; omega) (by omega) (by simp; omega) (wr.heap.size + 1) (by simp) ?_; intro gg cap w1 hown' hgrow hat hgl))
      go_wp2
      have hb2 := (HB.out.alloc hz (.cells #[.int .i64 (y - x)] 2)).drew.grown hgrow (by simp; omega) (fun j hj => (HO.out.lt j hj).1)
      go_roundw
      case rel => exact ⟨k + 1, by omega, by go_num, by rw [HS.out, List.map_append]; exact hown', hb2⟩
      case measure => simp [intOf]; omega
    · go_wp2
      go_ret
      have e : k = n := by omega
      subst e
      exact SlR.mk (stI_len _ _) HO.out HB.out
end Go.Proofs.Yticdilgnjnnaiaa

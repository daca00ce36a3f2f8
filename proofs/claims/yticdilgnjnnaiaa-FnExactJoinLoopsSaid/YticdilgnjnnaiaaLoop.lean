/-
  PROVED HERE: contracts of the functions on loops that others call: validity, a copy of a slice. CONDITIONS: as each theorem names them.
-/
import Derived.Test.YticdilgnjnnaiaaSl
import Derived.Test.YticdilgnjnnaiaaRnd
namespace Go.Proofs.Yticdilgnjnnaiaa
open Go.RowKit

/-- Are the numbers places? -/
def plB (xs : List Int) : Bool := xs.all fun x => inB x 0 1000
def PlTo (xs : List Int) (k : Nat) : Prop := ∀ j, j < k → inB (xs.getD j 0) 0 1000 = true
theorem pl_zero (xs : List Int) : PlTo xs 0 := fun _ h => absurd h (by omega)
theorem pl_succ {xs : List Int} {k : Nat} (h : PlTo xs k) (hk : inB (xs.getD k 0) 0 1000 = true) : PlTo xs (k + 1) := fun j hj => by
  by_cases e : j = k
  · subst e; exact hk
  · exact h j (by omega)
theorem pl_t {xs : List Int} {n : Nat} (hn : xs.length = n) (h : PlTo xs n) : plB xs = true := by
  unfold plB
  rw [List.all_eq_true]
  intro x hx
  obtain ⟨j, hj, rfl⟩ := List.mem_iff_getElem.1 hx
  have := h j (by omega)
  simpa [List.getD, hj] using this
theorem pl_f {xs : List Int} {k : Nat} (hk : k < xs.length) (h : inB (xs.getD k 0) 0 1000 = false) : plB xs = false := by
  unfold plB
  rw [List.all_eq_false]
  exact ⟨xs[k], List.getElem_mem hk, by rw [show xs[k] = xs.getD k 0 by simp [List.getD, hk], h]; simp⟩
/-- Is it a loop? -/
def vl (xs : List Int) : Bool := inB xs.length 1 60 && plB xs
theorem vl_t {xs : List Int} (h : vl xs = true) : (1 ≤ (xs.length : Int) ∧ (xs.length : Int) ≤ 60) ∧ ∀ j, j < xs.length → 0 ≤ xs.getD j 0 ∧ xs.getD j 0 ≤ 1000 := by
  simp only [vl, Bool.and_eq_true] at h
  refine ⟨inB_t h.1, fun j hj => inB_t ?_⟩
  have := List.all_eq_true.1 h.2 xs[j] (List.getElem_mem hj)
  simpa [List.getD, hj] using this
theorem l05Ok_any (A : Option Addr) (n c : Nat) (xs : List Int) (w : World) (hn : n ≤ 1152921504606846976) (hA : RI w A n xs) :
    Calls Try.prog 34 #[.slice A n c] w fun e w' => e = .returned (.bool (vl xs)) ∧ w = w' := by
  have hl := hA.1
  have HA := Lib.hid hA
  have HL := Lib.hid hl
  clear hA hl
  go_enter Try.func34, Try.ntmps34
  go_wp2
  go_loop [3] (fun i => ∃ k : Nat, k ≤ n ∧ i = .int .i64 k ∧ PlTo xs k) (fun i => n - (intOf i).toNat)
  case atStart => exact ⟨0, Nat.zero_le _, rfl, pl_zero _⟩
  case round =>
    obtain ⟨k, hk, rfl, hp⟩ := hrel
    have HP := Lib.hid hp
    clear hp
    by_cases hlt : k < n
    · obtain ⟨b1, o1, hAA, h1⟩ := HA.out.at_ hlt
      subst hAA
      obtain ⟨z, hz⟩ : ∃ z, z = xs.getD k 0 := ⟨_, rfl⟩
      rw [← hz] at h1
      have HZ := Lib.hid hz
      clear hz
      cases hx : inB z 0 1000
      · have hs := pl_f (xs := xs) (k := k) (by rw [HL.out]; exact hlt) (by rw [← HZ.out]; exact hx)
        have HS := Lib.hid hs
        clear hs
        go_wp2_with (first | (go_at_call 37; refine (within_any _ _ _ _).mono ?_; rintro e w' ⟨rfl, rfl⟩) | (go_at_call 42; refine (l00In_any _ _ _ _).mono ?_; rintro e w' ⟨rfl, rfl⟩) | go_in)
        go_ret
        exact ⟨ret_bool (by simp only [vl, HS.out, Bool.and_false]), rfl⟩
      · have hs := pl_succ HP.out (by rw [← HZ.out]; exact hx)
        have HS := Lib.hid hs
        clear hs
        go_wp2_with (first | (go_at_call 37; refine (within_any _ _ _ _).mono ?_; rintro e w' ⟨rfl, rfl⟩) | (go_at_call 42; refine (l00In_any _ _ _ _).mono ?_; rintro e w' ⟨rfl, rfl⟩) | go_in)
        go_round
        case rel => exact ⟨k + 1, by omega, by go_num, HS.out⟩
        case measure => simp [intOf]; omega
    · have e : k = n := by omega
      have hs := pl_t HL.out (e ▸ HP.out)
      have HS := Lib.hid hs
      clear hs e
      go_wp2_with (first | (go_at_call 37; refine (within_any _ _ _ _).mono ?_; rintro e w' ⟨rfl, rfl⟩) | (go_at_call 42; refine (l00In_any _ _ _ _).mono ?_; rintro e w' ⟨rfl, rfl⟩) | go_in)
      go_ret
      exact ⟨ret_bool (by simp only [vl, HS.out, HL.out, Bool.and_true]), rfl⟩
theorem vlClosure (x : Int) (w : World) :
    Calls Try.prog 36 #[.int .i64 x] w fun e w' => e = .returned (.bool (!inB x 0 1000)) ∧ w = w' := by
  go_enter Try.func36, Try.ntmps36
  go_wp2_with (first | (go_at_call 37; refine (within_any _ _ _ _).mono ?_; rintro e w' ⟨rfl, rfl⟩) | (go_at_call 42; refine (l00In_any _ _ _ _).mono ?_; rintro e w' ⟨rfl, rfl⟩) | go_in)
  go_ret
  exact ⟨rfl, rfl⟩
def IdxR (ok : Bool) (w : World) (e : Ending) (w' : World) : Prop := ∃ r : Int, -1 ≤ r ∧ r ≤ 1152921504606846976 ∧ (decide (0 ≤ r)) = !ok ∧ e = .returned (.int .i64 r) ∧ w = w'
theorem vlIndex (A : Option Addr) (n c : Nat) (xs : List Int) (w : World) (hn : n ≤ 1152921504606846976) (hA : RI w A n xs) :
    Calls Try.prog 52 #[.slice A n c, .func (.func 36) #[] #[]] w (IdxR (plB xs) w) := by
  have hl := hA.1
  have HA := Lib.hid hA
  have HL := Lib.hid hl
  clear hA hl
  go_enter Try.func52, Try.ntmps52
  go_wp2
  go_loop [5, 8] (fun _ i => ∃ k : Nat, k ≤ n ∧ i = .int .i64 k ∧ PlTo xs k) (fun _ i => n - (intOf i).toNat)
  case atStart => exact ⟨0, Nat.zero_le _, rfl, pl_zero _⟩
  case round =>
    obtain ⟨k, hk, rfl, hp⟩ := hrel
    have HP := Lib.hid hp
    clear hp
    by_cases hlt : k < n
    · obtain ⟨b1, o1, hAA, h1⟩ := HA.out.at_ hlt
      subst hAA
      obtain ⟨z, hz⟩ : ∃ z, z = xs.getD k 0 := ⟨_, rfl⟩
      rw [← hz] at h1
      have HZ := Lib.hid hz
      clear hz
      cases hx : inB z 0 1000
      · have hs := pl_f (xs := xs) (k := k) (by rw [HL.out]; exact hlt) (by rw [← HZ.out]; exact hx)
        have HS := Lib.hid hs
        clear hs
        go_wp2_with (go_at_call 36; refine (vlClosure _ _).mono ?_; rintro e w' ⟨rfl, rfl⟩)
        go_ret
        exact ⟨k, by omega, by omega, by rw [HS.out]; simp, rfl, rfl⟩
      · have hs := pl_succ HP.out (by rw [← HZ.out]; exact hx)
        have HS := Lib.hid hs
        clear hs
        go_wp2_with (go_at_call 36; refine (vlClosure _ _).mono ?_; rintro e w' ⟨rfl, rfl⟩)
        go_round
        case rel => exact ⟨k + 1, by omega, by go_num, HS.out⟩
        case measure => simp [intOf]; omega
    · have e : k = n := by omega
      have hs := pl_t HL.out (e ▸ HP.out)
      have HS := Lib.hid hs
      clear hs e
      go_wp2
      go_ret
      exact ⟨-1, by omega, by omega, by rw [HS.out]; rfl, rfl, rfl⟩
theorem ValidLoop_any (A : Option Addr) (n c : Nat) (xs : List Int) (w : World) (hn : n ≤ 1152921504606846976) (hA : RI w A n xs) :
    Calls Try.prog 13 #[.slice A n c] w fun e w' => e = .returned (.bool (vl xs)) ∧ w = w' := by
  have hl := hA.1
  have HA := Lib.hid hA
  by_cases h1 : 1 ≤ (n : Int)
  rotate_left
  · have e : vl xs = false := by simp only [vl, inB, hl]; simp; intros; omega
    rw [e]
    clear hA hl e
    go_enter Try.func13, Try.ntmps13
    go_wp2
    go_ret
    exact ⟨rfl, rfl⟩
  by_cases h2 : (n : Int) ≤ 60
  rotate_left
  · have e : vl xs = false := by simp only [vl, inB, hl]; simp; intros; omega
    have h2' : decide ((n : Int) ≤ 60) = false := decide_eq_false h2
    rw [e]
    clear hA hl e
    go_enter Try.func13, Try.ntmps13
    go_wp2
    go_ret
    exact ⟨rfl, rfl⟩
  have e : vl xs = plB xs := by simp only [vl, hl, inB_mk h1 h2, Bool.true_and]
  rw [e]
  clear hA hl e
  go_enter Try.func13, Try.ntmps13
  go_wp2_with (first | (go_at_call 52; refine (vlIndex _ _ _ xs _ hn HA.out).mono ?_; rintro e w' ⟨r, r1, r2, r3, rfl, rfl⟩) | go_in)
  go_ret
  exact ⟨by simp, rfl⟩
/-- A copy that is k numbers far. -/
def cpTo (xs : List Int) (n k : Nat) : List Value := (xs.take k).map (Value.int .i64) ++ List.replicate (n - k) (.int .i64 0)
theorem cp_zero (xs : List Int) (n : Nat) : cpTo xs n 0 = List.replicate n (.int .i64 0) := by simp [cpTo]
theorem cp_all (xs : List Int) (n : Nat) (h : xs.length = n) : cpTo xs n n = xs.map (Value.int .i64) := by simp [cpTo, ← h]
theorem cp_succ {xs : List Int} {n k : Nat} (h : xs.length = n) (hk : k < n) : (cpTo xs n k).set k (.int .i64 (xs.getD k 0)) = cpTo xs n (k + 1) := by
  have hl : ((xs.take k).map (Value.int .i64)).length = k := by simp; omega
  have e1 : n - k = (n - (k + 1)) + 1 := by omega
  unfold cpTo
  rw [e1, List.replicate_succ, List.set_append_right _ _ (by omega), hl, Nat.sub_self, List.set_cons_zero, List.take_succ_eq_append_getElem (by omega), List.map_append, List.append_assoc]
  simp [List.getD, show k < xs.length by omega]
set_option maxHeartbeats 1000000 in
theorem toInt64S_any (A : Option Addr) (n c : Nat) (xs : List Int) (w : World) (hn : n ≤ 1048576) (hA : RI w A n xs) :
    Calls Try.prog 12 #[.slice A n c] w (SlR w.heap.size xs w) := by
  have hl := hA.1
  obtain ⟨i0, hi, hz0, hz1, hz2⟩ := info_parts info_int64
  have HA := Lib.hid hA
  have HL := Lib.hid hl
  clear hA hl
  go_enter Try.func12, Try.ntmps12
  go_wp2_with (at_make; refine wpList_make_full _ rfl _ _ 22 rfl w.heap.size 2 i0 (.int .i64 0) 1 Try.underlying22 hi hz0 hz1 _ _ _ _ n rfl rfl rfl rfl (by rw [hz2]; omega) (by unfold maxLen; omega) (Nat.le_refl _) ?_; intro w1 hown hgrow)
  have hb1 : Below w.heap.size w w1 := (Below.refl _ _).grown hgrow (Nat.le_refl _) (fun k hk => by cases hk)
  have ho1 : w1.ownsRow w.heap.size 2 1 (.slice (some ⟨w.heap.size, 0, none⟩) n n) n (cpTo xs n 0) := by rw [cp_zero]; simpa [toList_madeCells_one, Value.cells] using hown
  have HO1 := Lib.hid ho1
  have HB1 := Lib.hid hb1
  clear ho1 hb1 hown hgrow
  go_loopw [4] (fun i wr => ∃ k : Nat, k ≤ n ∧ i = .int .i64 k ∧ wr.ownsRow w.heap.size 2 1 (.slice (some ⟨w.heap.size, 0, none⟩) n n) n (cpTo xs n k) ∧ Below w.heap.size w wr) (fun i _ => n - (intOf i).toNat)
  case atStart => exact ⟨0, Nat.zero_le _, rfl, HO1.out, HB1.out⟩
  case round =>
    obtain ⟨k, hk, rfl, ho, hb⟩ := hrel
    have HO := Lib.hid ho
    have HB := Lib.hid hb
    clear ho hb
    by_cases hlt : k < n
    · obtain ⟨b1, o1, hAA, h1⟩ := (HA.out.below HB.out).at_ hlt
      subst hAA
      have hc2 : wr.cell? ⟨w.heap.size, k, none⟩ = some ((cpTo xs n k)[k]'(by rw [HO.out.1]; omega)) := by rw [HO.out.cellAt k (by omega)]; exact List.getElem?_eq_getElem _
      have hf := HO.out.frozenAt k
      have hst := HO.out.stored k (.int .i64 (xs.getD k 0))
      rw [cp_succ HL.out hlt] at hst
      have HS := Lib.hid hst
      have HB3 := Lib.hid (HB.out.setCell (p := ⟨w.heap.size, k, none⟩) (Nat.le_refl _) (.int .i64 (xs.getD k 0)))
      clear hst
      obtain ⟨z, hz⟩ : ∃ z, z = xs.getD k 0 := ⟨_, rfl⟩
      rw [← hz] at h1 HS HB3
      clear hz
      go_wp2
      go_roundw
      case rel => exact ⟨k + 1, by omega, by go_num, HS.out.1, HB3.out⟩
      case measure => simp [intOf]; omega
    · go_wp2
      go_ret
      have e : k = n := by omega
      subst e
      exact SlR.mk HL.out (by rw [← cp_all xs k HL.out]; exact HO.out) HB.out
end Go.Proofs.Yticdilgnjnnaiaa

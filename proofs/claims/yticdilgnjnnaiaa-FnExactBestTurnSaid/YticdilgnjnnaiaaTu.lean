/-
  PROVED HERE: contracts of a loop that is turned, in the program and in the reference. CONDITIONS: as each theorem names them.
-/
import Derived.Test.YticdilgnjnnaiaaCon
namespace Go.Proofs.Yticdilgnjnnaiaa
open Go.RowKit

theorem RI.drop {w : World} {b o n : Nat} {xs : List Int} (h : RI w (some ⟨b, o, none⟩) n xs) (m : Nat) : RI w (some ⟨b, o + m, none⟩) (n - m) (xs.drop m) :=
  ⟨by rw [List.length_drop, h.1], fun hn => by
    obtain ⟨b1, o1, e, hb, hc⟩ := h.2 (by omega)
    injection e with e; injection e with e1 e2 e3
    subst e1 e2
    refine ⟨b, o + m, rfl, hb, fun j hj => ?_⟩
    rw [Nat.add_assoc, hc (m + j) (by omega)]
    simp [List.getD]⟩
theorem RI.take {w : World} {b o n : Nat} {xs : List Int} (h : RI w (some ⟨b, o, none⟩) n xs) {m : Nat} (hm : m ≤ n) : RI w (some ⟨b, o, none⟩) m (xs.take m) :=
  ⟨by rw [List.length_take, h.1]; omega, fun hn => by
    obtain ⟨b1, o1, e, hb, hc⟩ := h.2 (by omega)
    refine ⟨b1, o1, e, hb, fun j hj => ?_⟩
    rw [hc j (by omega)]
    simp [List.getD, hj]⟩
/-- The first k places of a loop that begins at another place. -/
def tuI (xs : List Int) (d k : Nat) : List Int := (List.range k).map fun (j : Nat) => xs.getD ((j + d) % xs.length) 0
theorem tuI_len (xs : List Int) (d k : Nat) : (tuI xs d k).length = k := by simp [tuI]
theorem tuI_succ (xs : List Int) (d k : Nat) : tuI xs d (k + 1) = tuI xs d k ++ [xs.getD ((k + d) % xs.length) 0] := by simp [tuI, List.range_succ]
theorem turn_at (k d n : Nat) (h : 0 < n) : ∃ m : Nat, m = (k + d) % n ∧ ((k : Int) + (d : Int)) % (n : Int) = (m : Int) ∧ m < n := ⟨(k + d) % n, rfl, by simp, Nat.mod_lt _ h⟩
theorem turn_eq (xs : List Int) (d : Nat) (h : 0 < xs.length) : xs.drop (d % xs.length) ++ xs.take (d % xs.length) = tuI xs d xs.length := by
  have hlt := Nat.mod_lt d h
  apply List.ext_getElem
  · rw [tuI_len, List.length_append, List.length_drop, List.length_take]; omega
  · intro j h1 h2
    rw [tuI_len] at h2
    have e1 : (j + d) % xs.length = (j + d % xs.length) % xs.length := by simp
    obtain ⟨m, hm⟩ : ∃ m, m = d % xs.length := ⟨_, rfl⟩
    simp only [tuI, List.getElem_map, List.getElem_range, e1]
    rw [← hm] at hlt
    simp only [← hm]
    by_cases hj : j < xs.length - m
    · rw [List.getElem_append_left (by rw [List.length_drop]; exact hj), Nat.mod_eq_of_lt (by omega)]
      simp only [List.getElem_drop]
      have : j + m < xs.length := by omega
      simp [List.getD, this, Nat.add_comm]
    · rw [List.getElem_append_right (by rw [List.length_drop]; omega)]
      have e2 : (j + m) % xs.length = j + m - xs.length := by rw [Nat.mod_eq_sub_mod (by omega), Nat.mod_eq_of_lt (by omega)]
      simp only [List.getElem_take, List.length_drop, e2]
      have : j + m - xs.length < xs.length := by omega
      have e3 : j - (xs.length - m) = j + m - xs.length := by omega
      simp [List.getD, this, e3]
set_option maxHeartbeats 2000000 in
theorem turnLoop_any (A : Option Addr) (n c : Nat) (xs : List Int) (d : Nat) (w : World) (h1 : 1 ≤ n) (hn : n ≤ 60) (hnc : n ≤ c) (hc : c ≤ maxLen) (hd : d ≤ 60) (hA : RI w A n xs) :
    Calls Try.prog 51 #[.slice A n c, .int .i64 d] w (SlR w.heap.size (tuI xs d n) w) := by
  have hl := hA.1
  subst hl
  obtain ⟨b, o, rfl, hb, _⟩ := hA.2 (by omega)
  obtain ⟨m, hm, hmi, hml⟩ : ∃ m : Nat, m = d % xs.length ∧ (d : Int) % (xs.length : Int) = (m : Int) ∧ m < xs.length := ⟨_, rfl, by simp, Nat.mod_lt _ h1⟩
  rw [← turn_eq xs d h1, ← hm]
  have HD := Lib.hid (hA.drop m)
  have HT := Lib.hid (hA.take (m := m) (by omega))
  have q1 : (0 : Int) ≤ (m : Int) := Int.natCast_nonneg _
  have q2 : (m : Int) ≤ (xs.length : Int) := by omega
  have q3 : (xs.length : Int) ≤ (c : Int) := by omega
  have q4 : (m : Int) ≤ (c : Int) := by omega
  have q5 : c ≤ 9223372036854775807 := by unfold maxLen at hc; omega
  have hcm : ¬ c = m := by omega
  have c0 : ((w.alloc (.cells #[.slice (some ⟨b, o + m, none⟩) (xs.length - m) (c - m), .slice (some ⟨b, o, none⟩) m c] 22)).drew).cell? ⟨w.heap.size, 0, none⟩ = some (.slice (some ⟨b, o + m, none⟩) (xs.length - m) (c - m)) := by simp [go_sem]
  have c1 : ((w.alloc (.cells #[.slice (some ⟨b, o + m, none⟩) (xs.length - m) (c - m), .slice (some ⟨b, o, none⟩) m c] 22)).drew).cell? ⟨w.heap.size, 1, none⟩ = some (.slice (some ⟨b, o, none⟩) m c) := by simp [go_sem]
  have hcc := (Concat_two w.heap.size b (o + m) (xs.length - m) (c - m) b o m c (xs.drop m) (xs.take m) _ c0 c1 (RI.alloc HD.out _) (RI.alloc HT.out _) (by omega) (by omega) (by omega))
  obtain ⟨zs, hzs⟩ : ∃ zs, zs = xs.drop m ++ xs.take m := ⟨_, rfl⟩
  rw [← hzs] at hcc ⊢
  have CC := Lib.hid hcc
  clear hA hm hc c0 c1 hcc hzs
  go_enter Try.func51, Try.ntmps51
  go_wp2_with fail
  go_region_held3 (fun _ => True) (first | go_keep | trivial)
    ((go_at_call 56; refine CC.out.mono ?_; rintro e w1 ⟨A1, c1, rfl, ho, hb1⟩))
  go_wp2
  go_ret
  exact ⟨A1, c1, rfl, ho.mono (by simp), by
    repeat (first | exact Below.refl _ _ | assumption | refine bl_drewN ?_ _ | refine Below.drew ?_ | refine bl_al ?_ _ | (refine Below.setCell ?_ (by simp <;> omega) _) | refine bl_tr ?_ (by assumption))⟩
set_option maxHeartbeats 2000000 in
theorem l05Turned_any (A : Option Addr) (n c : Nat) (xs : List Int) (d : Nat) (w : World) (h1 : 1 ≤ n) (hn : n ≤ 60) (hd : d ≤ 60) (hA : RI w A n xs) :
    Calls Try.prog 50 #[.slice A n c, .int .i64 d] w (SlR w.heap.size (tuI xs d n) w) := by
  obtain ⟨i0, hi, hz0, hz1, hz2⟩ := info_parts info_int64
  have hl := hA.1
  have HA := Lib.hid hA
  have HL := Lib.hid hl
  clear hA hl
  go_enter Try.func50, Try.ntmps50
  go_wp2
  go_loopw [6, 7] (fun v i wr => ∃ k : Nat, k ≤ n ∧ i = .int .i64 k ∧ wr.ownsRow w.heap.size 2 1 v k ((tuI xs d k).map (Value.int .i64)) ∧ Below w.heap.size w wr) (fun _ i _ => n - (intOf i).toNat)
  case atStart => exact ⟨0, Nat.zero_le _, rfl, World.ownsRow_lit w #[] 0 (Nat.le_refl _) (Nat.zero_le _) (by simp), (Below.refl _ _).alloc (Nat.le_refl _) _⟩
  case round =>
    obtain ⟨k, hk, rfl, ho, hb⟩ := hrel
    have hz := hb.size
    have HO := Lib.hid ho
    have HB := Lib.hid hb
    clear ho hb
    by_cases hlt : k < n
    · obtain ⟨m, hme, hmi, hml⟩ := turn_at k d n h1
      have HM := Lib.hid hme
      clear hme
      obtain ⟨b2, o2, hAA2, h2⟩ := (HA.out.below HB.out).at_ hml
      subst hAA2
      obtain ⟨y, hy⟩ : ∃ y, y = xs.getD m 0 := ⟨_, rfl⟩
      rw [← hy] at h2
      have hs : tuI xs d (k + 1) = tuI xs d k ++ [y] := by rw [tuI_succ, HL.out, ← HM.out, ← hy]
      have HS := Lib.hid hs
      clear hs hy
      go_wp2_with (at_builtin; refine wpList_append_own _ rfl _ _ 22 rfl w.heap.size 2 i0 (.int .i64 0) 1 8 Try.underlying22 hi hz0 hz1 hz2 rfl (by decide) _ _ _ rfl (HO.out.alloc _) ⟨wr.heap.size, 0, none⟩ 1 1 [.int .i64 y] rfl rfl (cell_one_new _ _ _) (one_int _ _) (by unfold maxLen; omega) (by omega) (by simp; omega) ?_; intro v' w1 hown' hgrow _)
      have hb2 := (HB.out.alloc hz (.cells #[.int .i64 y] 2)).grown hgrow (by simp; omega) (fun j hj => (HO.out.lt j hj).1)
      go_roundw
      case rel => exact ⟨k + 1, by omega, by go_num, by rw [HS.out, List.map_append]; exact hown', hb2⟩
      case measure => simp [intOf]; omega
    · go_wp2
      go_ret
      have e : k = n := by omega
      subst e
      exact SlR.mk (tuI_len _ _ _) HO.out HB.out
end Go.Proofs.Yticdilgnjnnaiaa

/-
  PROVED HERE: contracts of the places round a drum, in the program and in the reference. CONDITIONS: as each theorem names them.
-/
import Derived.Test.YtdmiieijflochaaSl
import Derived.Test.YtdmiieijflochaaRnd
namespace Go.Proofs.Ytdmiieijflochaa
open Go.RowKit

/-- The first k of n places round a drum. -/
def plI (r n : Int) (k : Nat) : List Int := (List.range k).map fun (j : Nat) => rndV ((j : Int) * r) n
theorem plI_len (r n : Int) (k : Nat) : (plI r n k).length = k := by simp [plI]
theorem plI_succ (r n : Int) (k : Nat) : plI r n (k + 1) = plI r n k ++ [rndV ((k : Int) * r) n] := by simp [plI, List.range_succ]
theorem kr_bd (k r : Int) (h1 : 0 ≤ k) (h2 : k ≤ 48) (h3 : 0 ≤ r) (h4 : r ≤ 10000) : 0 ≤ k * r ∧ k * r ≤ 480000 := by
  have e1 : k * r ≤ 48 * r := Int.mul_le_mul_of_nonneg_right h2 h3
  exact ⟨Int.mul_nonneg h1 h3, by omega⟩
set_option maxHeartbeats 1000000 in
theorem placesOf_any (r h s n : Int) (w : World) (h1 : 0 ≤ r) (h2 : r ≤ 10000) (h3 : 1 ≤ n) (h4 : n ≤ 48) :
    Calls Try.prog 54 #[.agg #[.int .i64 r, .int .i64 h, .int .i64 s], .int .i64 n] w (SlR w.heap.size (plI r n n.toNat) w) := by
  obtain ⟨i0, hi, hz0, hz1, hz2⟩ := info_parts info_int64
  go_enter Try.func54, Try.ntmps54
  go_wp2
  go_loopw [5, 6, 9] (fun v _ i wr => ∃ k : Nat, k ≤ n.toNat ∧ i = .int .i64 k ∧ wr.ownsRow (w.heap.size + 1) 2 1 v k ((plI r n k).map (Value.int .i64)) ∧ Below w.heap.size w wr ∧ wr.cell? ⟨w.heap.size, 0, none⟩ = some (.int .i64 r)) (fun _ _ i _ => n.toNat - (intOf i).toNat)
  case atStart => exact ⟨0, Nat.zero_le _, rfl, by have := World.ownsRow_lit (base := w.heap.size + 1) (e := 2) (size := 1) (w.alloc (.cells #[.int .i64 r, .int .i64 h, .int .i64 s] 26)) #[] 0 (by simp) (Nat.zero_le _) (by simp); simpa [plI] using this, ((Below.refl _ _).alloc (Nat.le_refl _) _).alloc (by simp) _, by simp [go_sem]⟩
  case round =>
    obtain ⟨k, hk, rfl, ho, hb, hc⟩ := hrel
    have hz := World.block_lt_of_cell? wr _ hc
    have HO := Lib.hid ho
    have HB := Lib.hid hb
    clear ho hb
    by_cases hlt : (k : Int) < n
    · obtain ⟨n1, n2⟩ := kr_bd k r (by omega) (by omega) h1 h2
      have hz' : w.heap.size + 1 ≤ wr.heap.size := hz
      go_wp2_with (first | (go_at_call 75; refine (rounded_any _ _ _ (by omega) (by omega) h3 (by omega)).mono ?_; rintro e w' ⟨rfl, rfl⟩) | (at_builtin; refine wpList_append_own _ rfl _ _ 31 rfl (w.heap.size + 1) 2 i0 (.int .i64 0) 1 8 Try.underlying31 hi hz0 hz1 hz2 rfl (by decide) _ _ _ rfl (HO.out.alloc _) ⟨wr.heap.size, 0, none⟩ 1 1 [.int .i64 (rndV ((k : Int) * r) n)] rfl rfl (cell_one_new _ _ _) (one_int _ _) (by unfold maxLen; omega) (by omega) (by simp; omega) ?_; intro v' w1 hown' hgrow _))
      have hb2 := (HB.out.alloc (by omega) (.cells #[.int .i64 (rndV ((k : Int) * r) n)] 2)).grown hgrow (by simp; omega) (fun j hj => Nat.le_trans (Nat.le_succ _) (HO.out.lt j hj).1)
      have hc2 := hgrow.cell (a := ⟨w.heap.size, 0, none⟩) (keepA hc) (fun e1 => absurd (HO.out.lt _ e1.symm).1 (Nat.not_succ_le_self w.heap.size))
      go_roundw
      case rel => exact ⟨k + 1, by omega, by go_num, by rw [plI_succ, List.map_append]; exact hown', hb2, hc2⟩
      case measure => simp [intOf]; omega
    · go_wp2
      go_ret
      have e : k = n.toNat := by omega
      subst e
      exact SlR.mk (plI_len _ _ _) (HO.out.mono (Nat.le_succ _)) HB.out
set_option maxHeartbeats 1000000 in
theorem l07Places_any (b : Nat) (r n : Int) (w : World) (hc0 : w.cell? ⟨b, 0, none⟩ = some (.int .i64 r)) (h1 : 0 ≤ r) (h2 : r ≤ 10000) (h3 : 1 ≤ n) (h4 : n ≤ 48) :
    Calls Try.prog 53 #[.pointer (some ⟨b, 0, none⟩), .int .i64 n] w (SlR w.heap.size (plI r n n.toNat) w) := by
  obtain ⟨i0, hi, hz0, hz1, hz2⟩ := info_parts info_int64
  have hbz := World.block_lt_of_cell? w _ hc0
  have hbz' : b < w.heap.size := hbz
  go_enter Try.func53, Try.ntmps53
  go_wp2
  go_loopw [5, 6] (fun v i wr => ∃ k : Nat, k ≤ n.toNat ∧ i = .int .i64 k ∧ wr.ownsRow w.heap.size 2 1 v k ((plI r n k).map (Value.int .i64)) ∧ Below w.heap.size w wr ∧ wr.cell? ⟨b, 0, none⟩ = some (.int .i64 r)) (fun _ i _ => n.toNat - (intOf i).toNat)
  case atStart => exact ⟨0, Nat.zero_le _, rfl, World.ownsRow_lit w #[] 0 (Nat.le_refl _) (Nat.zero_le _) (by simp), (Below.refl _ _).alloc (Nat.le_refl _) _, keepA hc0⟩
  case round =>
    obtain ⟨k, hk, rfl, ho, hb, hc⟩ := hrel
    have hz := hb.size
    have HO := Lib.hid ho
    have HB := Lib.hid hb
    clear ho hb
    by_cases hlt : (k : Int) < n
    · obtain ⟨n1, n2⟩ := kr_bd k r (by omega) (by omega) h1 h2
      go_wp2_with (first | (go_at_call 74; refine (l00Round_any _ _ _ (by omega) (by omega) h3 (by omega)).mono ?_; rintro e w' ⟨rfl, rfl⟩) | (at_builtin; refine wpList_append_own _ rfl _ _ 31 rfl w.heap.size 2 i0 (.int .i64 0) 1 8 Try.underlying31 hi hz0 hz1 hz2 rfl (by decide) _ _ _ rfl (HO.out.alloc _) ⟨wr.heap.size, 0, none⟩ 1 1 [.int .i64 (rndV ((k : Int) * r) n)] rfl rfl (cell_one_new _ _ _) (one_int _ _) (by unfold maxLen; omega) (by omega) (by simp; omega) ?_; intro v' w1 hown' hgrow _))
      have hb2 := (HB.out.alloc hz (.cells #[.int .i64 (rndV ((k : Int) * r) n)] 2)).grown hgrow (by simp; omega) (fun j hj => (HO.out.lt j hj).1)
      have hc2 := hgrow.cell (a := ⟨b, 0, none⟩) (keepA hc) (fun e1 => by have := (HO.out.lt _ e1.symm).1; simp at this; omega)
      go_roundw
      case rel => exact ⟨k + 1, by omega, by go_num, by rw [plI_succ, List.map_append]; exact hown', hb2, hc2⟩
      case measure => simp [intOf]; omega
    · go_wp2
      go_ret
      have e : k = n.toNat := by omega
      subst e
      exact SlR.mk (plI_len _ _ _) HO.out HB.out
end Go.Proofs.Ytdmiieijflochaa

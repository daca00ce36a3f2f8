/-
  PROVED HERE: contracts of the pictures that are seen in a turn, in the program and in the reference, and the walk of SeenOrder. CONDITIONS: as each theorem names them.
-/
import Derived.Test.YtdmiieijflochaaSl
import Derived.Test.YtdmiieijflochaaNear
namespace Go.Proofs.Ytdmiieijflochaa
open Go.RowKit

/-- The pictures that are seen at the first n flashes. -/
def ordI (p s : Int) (n : Nat) : List Int := (List.range n).map fun (j : Nat) => nearV p s (j : Int) % p
theorem ordI_len (p s : Int) (n : Nat) : (ordI p s n).length = n := by simp [ordI]
theorem ordI_succ (p s : Int) (n : Nat) : ordI p s (n + 1) = ordI p s n ++ [nearV p s (n : Int) % p] := by simp [ordI, List.range_succ]

set_option maxHeartbeats 1000000 in
theorem seenOrder_any (p s : Int) (w : World) (h1 : 1 ≤ p) (h2 : p ≤ 48) (h3 : 1 ≤ s) (h4 : s ≤ 48) :
    Calls Try.prog 61 #[.int .i64 p, .int .i64 s] w (SlR w.heap.size (ordI p s s.toNat) w) := by
  obtain ⟨i0, hi, hz0, hz1, hz2⟩ := info_parts info_int64
  go_enter Try.func61, Try.ntmps61
  go_wp2
  go_loopw [5, 6, 9] (fun v _ i wr => ∃ k : Nat, k ≤ s.toNat ∧ i = .int .i64 k ∧ wr.ownsRow w.heap.size 2 1 v k ((ordI p s k).map (Value.int .i64)) ∧ Below w.heap.size w wr) (fun _ _ i _ => s.toNat - (intOf i).toNat)
  case atStart => exact ⟨0, Nat.zero_le _, rfl, World.ownsRow_lit w #[] 0 (Nat.le_refl _) (Nat.zero_le _) (by simp), (Below.refl _ _).alloc (Nat.le_refl _) _⟩
  case round =>
    obtain ⟨k, hk, rfl, ho, hb⟩ := hrel
    have hz := hb.size
    have HO := Lib.hid ho
    have HB := Lib.hid hb
    clear ho hb
    by_cases hlt : (k : Int) < s
    · obtain ⟨n1, n2, _, _⟩ := near_bd p s k h1 h2 (by omega) (by omega) h3 h4
      have n3 : 0 ≤ nearV p s k % p := Int.emod_nonneg _ (by omega)
      go_wp2_with (first | (go_at_call 77; refine (nearest_any _ _ _ _ h1 h2 h3 h4 (by omega) (by omega)).mono ?_; rintro e w' ⟨rfl, rfl⟩) | (at_builtin; refine wpList_append_own _ rfl _ _ 31 rfl w.heap.size 2 i0 (.int .i64 0) 1 8 Try.underlying31 hi hz0 hz1 hz2 rfl (by decide) _ _ _ rfl (HO.out.alloc _) ⟨wr.heap.size, 0, none⟩ 1 1 [.int .i64 (nearV p s k % p)] rfl rfl (cell_one_new _ _ _) (one_int _ _) (by unfold maxLen; omega) (by omega) (by simp; omega) ?_; intro v' w1 hown' hgrow _))
      have hb2 := (HB.out.alloc hz (.cells #[.int .i64 (nearV p s k % p)] 2)).grown hgrow (by simp; omega) (fun j hj => (HO.out.lt j hj).1)
      go_roundw
      case rel => exact ⟨k + 1, by omega, by go_num, by rw [ordI_succ, List.map_append]; exact hown', hb2⟩
      case measure => simp [intOf]; omega
    · go_wp2
      go_ret
      have e : k = s.toNat := by omega
      subst e
      exact SlR.mk (ordI_len _ _ _) HO.out HB.out
set_option maxHeartbeats 1000000 in
theorem l03Order_any (p s : Int) (w : World) (h1 : 1 ≤ p) (h2 : p ≤ 48) (h3 : 1 ≤ s) (h4 : s ≤ 48) :
    Calls Try.prog 59 #[.int .i64 p, .int .i64 s] w (SlR w.heap.size (ordI p s s.toNat) w) := by
  obtain ⟨i0, hi, hz0, hz1, hz2⟩ := info_parts info_int64
  go_enter Try.func59, Try.ntmps59
  go_wp2
  go_loopw [5, 6] (fun v i wr => ∃ k : Nat, k ≤ s.toNat ∧ i = .int .i64 k ∧ wr.ownsRow w.heap.size 2 1 v k ((ordI p s k).map (Value.int .i64)) ∧ Below w.heap.size w wr) (fun _ i _ => s.toNat - (intOf i).toNat)
  case atStart => exact ⟨0, Nat.zero_le _, rfl, World.ownsRow_lit w #[] 0 (Nat.le_refl _) (Nat.zero_le _) (by simp), (Below.refl _ _).alloc (Nat.le_refl _) _⟩
  case round =>
    obtain ⟨k, hk, rfl, ho, hb⟩ := hrel
    have hz := hb.size
    have HO := Lib.hid ho
    have HB := Lib.hid hb
    clear ho hb
    by_cases hlt : (k : Int) < s
    · obtain ⟨n1, n2, _, _⟩ := near_bd p s k h1 h2 (by omega) (by omega) h3 h4
      have n3 : 0 ≤ nearV p s k % p := Int.emod_nonneg _ (by omega)
      go_wp2_with (first | (go_at_call 76; refine (l03Seen_any _ _ _ _ h1 h2 h3 h4 (by omega) (by omega)).mono ?_; rintro e w' ⟨rfl, rfl⟩) | (at_builtin; refine wpList_append_own _ rfl _ _ 31 rfl w.heap.size 2 i0 (.int .i64 0) 1 8 Try.underlying31 hi hz0 hz1 hz2 rfl (by decide) _ _ _ rfl (HO.out.alloc _) ⟨wr.heap.size, 0, none⟩ 1 1 [.int .i64 (nearV p s k % p)] rfl rfl (cell_one_new _ _ _) (one_int _ _) (by unfold maxLen; omega) (by omega) (by simp; omega) ?_; intro v' w1 hown' hgrow _))
      have hb2 := (HB.out.alloc hz (.cells #[.int .i64 (nearV p s k % p)] 2)).grown hgrow (by simp; omega) (fun j hj => (HO.out.lt j hj).1)
      go_roundw
      case rel => exact ⟨k + 1, by omega, by go_num, by rw [ordI_succ, List.map_append]; exact hown', hb2⟩
      case measure => simp [intOf]; omega
    · go_wp2
      go_ret
      have e : k = s.toNat := by omega
      subst e
      exact SlR.mk (ordI_len _ _ _) HO.out HB.out
end Go.Proofs.Ytdmiieijflochaa

/-
  PROVED HERE: contracts of the pose between two poses, in the program and in the reference. CONDITIONS: as each theorem names them.
-/
import Derived.Test.YtofjohkhhomldaaPose
import Derived.Test.YtofjohkhhomldaaTouch
import Derived.Test.YtofjohkhhomldaaRnd
import Derived.IntWalk
namespace Go.Proofs.Ytofjohkhhomldaa
open Go.RowKit

theorem w64' {x : Int} (h1 : -9000000000000000000 ≤ x) (h2 : x ≤ 9000000000000000000) : IntKind.i64.wrap x = x := IntWalk.i64_in _ ⟨by omega, by omega⟩
theorem mulb (x y A B : Int) (h1 : 0 ≤ x) (h2 : x ≤ A) (h3 : 0 ≤ y) (h4 : y ≤ B) : 0 ≤ x * y ∧ x * y ≤ A * B := by
  have e1 : x * y ≤ A * y := Int.mul_le_mul_of_nonneg_right h2 h3
  have e2 : A * y ≤ A * B := Int.mul_le_mul_of_nonneg_left h4 (by omega)
  exact ⟨Int.mul_nonneg h1 h3, by omega⟩
theorem sqb (x A : Int) (h1 : -A ≤ x) (h2 : x ≤ A) : 0 ≤ x * x ∧ x * x ≤ A * A := by
  by_cases h : 0 ≤ x
  · exact mulb x x A A h h2 h h2
  · have := mulb (-x) (-x) A A (by omega) (by omega) (by omega) (by omega)
    rw [Int.neg_mul_neg] at this; exact this
theorem cell_two_new (w : World) (a b : Value) (t : TypeId) (k : Nat) : ∀ j u, [a, b][j]? = some u → ((w.alloc (.cells #[a, b] t)).drewN k).cell? ((⟨w.heap.size, 0, none⟩ : Addr).add j) = some u := by
  intro j u hj
  match j, hj with
  | 0, hj => simp at hj; subst hj; simp [Addr.add]
  | 1, hj => simp at hj; subst hj; simp [Addr.add]
theorem two_int (k q : IntKind) (x y : Int) : ∀ u ∈ [Value.int k x, Value.int q y], u.oneCell' = true := by
  intro u hu
  simp only [List.mem_cons, List.mem_nil_iff, or_false] at hu
  rcases hu with rfl | rfl <;> rfl
/-- All coordinates lie from 0 to 1000. -/
def Pd (ps : List Pnt) : Prop := ∀ j, j < ps.length → (0 ≤ (ps.getD j (0, 0)).1 ∧ (ps.getD j (0, 0)).1 ≤ 1000) ∧ 0 ≤ (ps.getD j (0, 0)).2 ∧ (ps.getD j (0, 0)).2 ≤ 1000
/-- A number at a part of the way. -/
def btV (x y part parts : Int) : Int := rndV (x * (parts - part) + y * part) parts
/-- The first k joints of the pose at a part of the way. -/
def btI (ps qs : List Pnt) (part parts : Int) (k : Nat) : List Pnt := (List.range k).map fun (j : Nat) => (btV (ps.getD j (0, 0)).1 (qs.getD j (0, 0)).1 part parts, btV (ps.getD j (0, 0)).2 (qs.getD j (0, 0)).2 part parts)
theorem btI_len (ps qs : List Pnt) (part parts : Int) (k : Nat) : (btI ps qs part parts k).length = k := by simp [btI]
theorem btI_succ (ps qs : List Pnt) (part parts : Int) (k : Nat) : btI ps qs part parts (k + 1) = btI ps qs part parts k ++ [(btV (ps.getD k (0, 0)).1 (qs.getD k (0, 0)).1 part parts, btV (ps.getD k (0, 0)).2 (qs.getD k (0, 0)).2 part parts)] := by simp [btI, List.range_succ]
set_option maxHeartbeats 4000000 in
theorem between_any (A : Option Addr) (n ca : Nat) (ps : List Pnt) (B : Option Addr) (cb : Nat) (qs : List Pnt) (part parts : Int) (w : World) (hn : n ≤ 8) (h1 : 1 ≤ parts) (h2 : parts ≤ 10000) (h3 : 0 ≤ part) (h4 : part ≤ parts)
    (hA : PI w A n ps) (hB : PI w B n qs) (hp : Pd ps) (hq : Pd qs) :
    Calls Try.prog 59 #[.slice A n ca, .slice B n cb, .int .i64 part, .int .i64 parts] w (PlR w.heap.size (btI ps qs part parts n) w) := by
  obtain ⟨i0, hi, hz0, hz1, hz2⟩ := info_parts info_Point
  have HA := Lib.hid hA
  have HB := Lib.hid hB
  have HP := Lib.hid hp
  have HQ := Lib.hid hq
  have HLA := Lib.hid hA.1
  have HLB := Lib.hid hB.1
  clear hA hB hp hq
  go_enter Try.func59, Try.ntmps59
  go_wp2
  go_loopw [9, 10, 11, 12, 16] (fun v _ _ _ i wr => ∃ k : Nat, k ≤ n ∧ i = .int .i64 k ∧ wr.ownsRow w.heap.size 61 2 v k (flat (btI ps qs part parts k)) ∧ Below w.heap.size w wr) (fun _ _ _ _ i _ => n - (intOf i).toNat)
  case atStart => exact ⟨0, Nat.zero_le _, rfl, World.ownsRow_lit w #[] 0 (Nat.le_refl _) (Nat.zero_le _) (by simp), (Below.refl _ _).alloc (Nat.le_refl _) _⟩
  case round =>
    obtain ⟨k, hk, rfl, ho, hb⟩ := hrel
    have hz := hb.size
    have HO := Lib.hid ho
    have HBW := Lib.hid hb
    clear ho hb
    by_cases hlt : k < n
    · obtain ⟨b1, o1, hAA, g1, g2⟩ := (HA.out.below HBW.out).at_ hlt
      obtain ⟨b2, o2, hBB, g3, g4⟩ := (HB.out.below HBW.out).at_ hlt
      subst hAA
      subst hBB
      obtain ⟨⟨p1, p2⟩, p3, p4⟩ := HP.out k (by rw [HLA.out]; exact hlt)
      obtain ⟨⟨p5, p6⟩, p7, p8⟩ := HQ.out k (by rw [HLB.out]; exact hlt)
      have hs := btI_succ ps qs part parts k
      obtain ⟨⟨x, y⟩, hx⟩ : ∃ p, p = ps.getD k (0, 0) := ⟨_, rfl⟩
      obtain ⟨⟨u, v⟩, hu⟩ : ∃ p, p = qs.getD k (0, 0) := ⟨_, rfl⟩
      rw [← hx] at g1 g2 p1 p2 p3 p4 hs
      rw [← hu] at g3 g4 p5 p6 p7 p8 hs
      dsimp only at g1 g2 g3 g4 p1 p2 p3 p4 p5 p6 p7 p8 hs
      have HS := Lib.hid hs
      clear hx hu hs
      obtain ⟨m1, m1'⟩ := mulb x (parts - part) 1000 10000 p1 p2 (by omega) (by omega)
      obtain ⟨m2, m2'⟩ := mulb u part 1000 10000 p5 p6 h3 (by omega)
      obtain ⟨m3, m3'⟩ := mulb y (parts - part) 1000 10000 p3 p4 (by omega) (by omega)
      obtain ⟨m4, m4'⟩ := mulb v part 1000 10000 p7 p8 h3 (by omega)
      have t1 : IntKind.i64.wrap (parts - part) = parts - part := w64' (by omega) (by omega)
      have t2 : IntKind.i64.wrap (x * (parts - part)) = x * (parts - part) := w64' (by omega) (by omega)
      have t3 : IntKind.i64.wrap (u * part) = u * part := w64' (by omega) (by omega)
      have t4 : IntKind.i64.wrap (x * (parts - part) + u * part) = x * (parts - part) + u * part := w64' (by omega) (by omega)
      have t5 : IntKind.i64.wrap (y * (parts - part)) = y * (parts - part) := w64' (by omega) (by omega)
      have t6 : IntKind.i64.wrap (v * part) = v * part := w64' (by omega) (by omega)
      have t7 : IntKind.i64.wrap (y * (parts - part) + v * part) = y * (parts - part) + v * part := w64' (by omega) (by omega)
      have c1 := fun W => rounded_any (x * (parts - part) + u * part) parts W (by omega) (by omega) h1 (by omega)
      have c2 := fun W => rounded_any (y * (parts - part) + v * part) parts W (by omega) (by omega) h1 (by omega)
      have C1 := Lib.hid c1
      have C2 := Lib.hid c2
      clear c1 c2
      go_wp2
      go_quiet ((go_at_call 69; first | (with_reducible exact quiet_left (C1.out _)) | (with_reducible exact quiet_add_left (C1.out _))))
      go_wp2
      go_quiet ((go_at_call 69; first | (with_reducible exact quiet_left (C2.out _)) | (with_reducible exact quiet_add_left (C2.out _))))
      go_wp2_with (at_builtin; refine wpList_append_own _ rfl _ _ 25 rfl w.heap.size 61 i0 (.agg #[.int .i64 0, .int .i64 0]) 2 16 Try.underlying25 hi hz0 hz1 hz2 rfl (by decide) _ _ _ rfl (own_drewN (HO.out.alloc (.cells #[.int .i64 (rndV (x * (parts - part) + u * part) parts), .int .i64 (rndV (y * (parts - part) + v * part) parts)] 61)) _) ⟨wr.heap.size, 0, none⟩ 1 1 [.int .i64 (rndV (x * (parts - part) + u * part) parts), .int .i64 (rndV (y * (parts - part) + v * part) parts)] rfl rfl (cell_two_new _ _ _ _ _) (two_int _ _ _ _) (by unfold maxLen; omega) (by omega) (by simp; omega) ?_; intro v' w1 hown' hgrow _)
      have hb2 := (bl_drewN (HBW.out.alloc hz (.cells #[.int .i64 (rndV (x * (parts - part) + u * part) parts), .int .i64 (rndV (y * (parts - part) + v * part) parts)] 61)) _).grown hgrow (by simp; omega) (fun j hj => (HO.out.lt j hj).1)
      go_roundw
      case rel => exact ⟨k + 1, by omega, by go_num, by rw [HS.out, flat_app, flat_one]; exact hown', hb2⟩
      case measure => simp [intOf]; omega
    · go_wp2
      go_ret
      have e : k = n := by omega
      subst e
      exact PlR.mk (btI_len _ _ _ _ _) HO.out HBW.out
set_option maxHeartbeats 4000000 in
theorem l04Between_any (A : Option Addr) (n ca : Nat) (ps : List Pnt) (B : Option Addr) (cb : Nat) (qs : List Pnt) (part parts : Int) (w : World) (hn : n ≤ 8) (h1 : 1 ≤ parts) (h2 : parts ≤ 10000) (h3 : 0 ≤ part) (h4 : part ≤ parts)
    (hA : PI w A n ps) (hB : PI w B n qs) (hp : Pd ps) (hq : Pd qs) :
    Calls Try.prog 58 #[.slice A n ca, .slice B n cb, .int .i64 part, .int .i64 parts] w (PlR w.heap.size (btI ps qs part parts n) w) := by
  obtain ⟨i0, hi, hz0, hz1, hz2⟩ := info_parts info_Point
  have HA := Lib.hid hA
  have HB := Lib.hid hB
  have HP := Lib.hid hp
  have HQ := Lib.hid hq
  have HLA := Lib.hid hA.1
  have HLB := Lib.hid hB.1
  clear hA hB hp hq
  go_enter Try.func58, Try.ntmps58
  go_wp2
  go_loopw [9, 10, 11, 12] (fun v i _ _ wr => ∃ k : Nat, k ≤ n ∧ i = .int .i64 k ∧ wr.ownsRow w.heap.size 61 2 v k (flat (btI ps qs part parts k)) ∧ Below w.heap.size w wr) (fun _ i _ _ _ => n - (intOf i).toNat)
  case atStart => exact ⟨0, Nat.zero_le _, rfl, World.ownsRow_lit w #[] 0 (Nat.le_refl _) (Nat.zero_le _) (by simp), (Below.refl _ _).alloc (Nat.le_refl _) _⟩
  case round =>
    obtain ⟨k, hk, rfl, ho, hb⟩ := hrel
    have hz := hb.size
    have HO := Lib.hid ho
    have HBW := Lib.hid hb
    clear ho hb
    by_cases hlt : k < n
    · obtain ⟨b1, o1, hAA, g1, g2⟩ := (HA.out.below HBW.out).at_ hlt
      obtain ⟨b2, o2, hBB, g3, g4⟩ := (HB.out.below HBW.out).at_ hlt
      subst hAA
      subst hBB
      obtain ⟨⟨p1, p2⟩, p3, p4⟩ := HP.out k (by rw [HLA.out]; exact hlt)
      obtain ⟨⟨p5, p6⟩, p7, p8⟩ := HQ.out k (by rw [HLB.out]; exact hlt)
      have hs := btI_succ ps qs part parts k
      obtain ⟨⟨x, y⟩, hx⟩ : ∃ p, p = ps.getD k (0, 0) := ⟨_, rfl⟩
      obtain ⟨⟨u, v⟩, hu⟩ : ∃ p, p = qs.getD k (0, 0) := ⟨_, rfl⟩
      rw [← hx] at g1 g2 p1 p2 p3 p4 hs
      rw [← hu] at g3 g4 p5 p6 p7 p8 hs
      dsimp only at g1 g2 g3 g4 p1 p2 p3 p4 p5 p6 p7 p8 hs
      have HS := Lib.hid hs
      clear hx hu hs
      obtain ⟨m1, m1'⟩ := mulb x (parts - part) 1000 10000 p1 p2 (by omega) (by omega)
      obtain ⟨m2, m2'⟩ := mulb u part 1000 10000 p5 p6 h3 (by omega)
      obtain ⟨m3, m3'⟩ := mulb y (parts - part) 1000 10000 p3 p4 (by omega) (by omega)
      obtain ⟨m4, m4'⟩ := mulb v part 1000 10000 p7 p8 h3 (by omega)
      have t1 : IntKind.i64.wrap (parts - part) = parts - part := w64' (by omega) (by omega)
      have t2 : IntKind.i64.wrap (x * (parts - part)) = x * (parts - part) := w64' (by omega) (by omega)
      have t3 : IntKind.i64.wrap (u * part) = u * part := w64' (by omega) (by omega)
      have t4 : IntKind.i64.wrap (x * (parts - part) + u * part) = x * (parts - part) + u * part := w64' (by omega) (by omega)
      have t5 : IntKind.i64.wrap (y * (parts - part)) = y * (parts - part) := w64' (by omega) (by omega)
      have t6 : IntKind.i64.wrap (v * part) = v * part := w64' (by omega) (by omega)
      have t7 : IntKind.i64.wrap (y * (parts - part) + v * part) = y * (parts - part) + v * part := w64' (by omega) (by omega)
      have c1 := fun W => l00Round_any (x * (parts - part) + u * part) parts W (by omega) (by omega) h1 (by omega)
      have c2 := fun W => l00Round_any (y * (parts - part) + v * part) parts W (by omega) (by omega) h1 (by omega)
      have C1 := Lib.hid c1
      have C2 := Lib.hid c2
      clear c1 c2
      go_wp2
      go_quiet ((go_at_call 68; first | (with_reducible exact quiet_left (C1.out _)) | (with_reducible exact quiet_add_left (C1.out _))))
      go_wp2
      go_quiet ((go_at_call 68; first | (with_reducible exact quiet_left (C2.out _)) | (with_reducible exact quiet_add_left (C2.out _))))
      go_wp2_with (at_builtin; refine wpList_append_own _ rfl _ _ 25 rfl w.heap.size 61 i0 (.agg #[.int .i64 0, .int .i64 0]) 2 16 Try.underlying25 hi hz0 hz1 hz2 rfl (by decide) _ _ _ rfl (own_drewN (HO.out.alloc (.cells #[.int .i64 (rndV (x * (parts - part) + u * part) parts), .int .i64 (rndV (y * (parts - part) + v * part) parts)] 61)) _) ⟨wr.heap.size, 0, none⟩ 1 1 [.int .i64 (rndV (x * (parts - part) + u * part) parts), .int .i64 (rndV (y * (parts - part) + v * part) parts)] rfl rfl (cell_two_new _ _ _ _ _) (two_int _ _ _ _) (by unfold maxLen; omega) (by omega) (by simp; omega) ?_; intro v' w1 hown' hgrow _)
      have hb2 := (bl_drewN (HBW.out.alloc hz (.cells #[.int .i64 (rndV (x * (parts - part) + u * part) parts), .int .i64 (rndV (y * (parts - part) + v * part) parts)] 61)) _).grown hgrow (by simp; omega) (fun j hj => (HO.out.lt j hj).1)
      go_roundw
      case rel => exact ⟨k + 1, by omega, by go_num, by rw [HS.out, flat_app, flat_one]; exact hown', hb2⟩
      case measure => simp [intOf]; omega
    · go_wp2
      go_ret
      have e : k = n := by omega
      subst e
      exact PlR.mk (btI_len _ _ _ _ _) HO.out HBW.out
end Go.Proofs.Ytofjohkhhomldaa

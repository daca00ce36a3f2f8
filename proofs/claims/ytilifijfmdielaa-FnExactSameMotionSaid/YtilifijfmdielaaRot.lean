/-
  PROVED HERE: the walks of SameMotion and FirstTurn: the program and the reference agree. CONDITIONS: a text's length fits the model's longest string.
-/
import Derived.Test.YtilifijfmdielaaStr
import Derived.WalkLawsBesides
import Derived.Lib.OthersKept
namespace Go.Proofs.Ytilifijfmdielaa
open Go.RowKit

theorem bl_total : ∀ x y : List UInt8, Op.bytesLess x y = false → (x == y) = false → Op.bytesLess y x = true
  | [], [], _, h => by simp at h
  | _ :: _, [], _, _ => rfl
  | [], _ :: _, h, _ => by simp [Op.bytesLess] at h
  | a :: x, b :: y, h, g => by
    simp only [Op.bytesLess, Bool.or_eq_false_iff, decide_eq_false_iff_not, Bool.and_eq_false_iff] at h
    simp only [Op.bytesLess, Bool.or_eq_true, decide_eq_true_eq, Bool.and_eq_true]
    by_cases e : a = b
    · subst e
      right
      refine ⟨by simp, bl_total x y ?_ ?_⟩
      · rcases h.2 with h2 | h2
        · simp at h2
        · exact h2
      · simpa using g
    · left
      have := h.1
      rw [UInt8.lt_iff_toNat_lt] at this ⊢
      have : a.toNat ≠ b.toNat := fun e1 => e (UInt8.toNat_inj.1 e1)
      omega
theorem bl_asymm : ∀ x y : List UInt8, Op.bytesLess x y = true → (Op.bytesLess y x || y == x) = false
  | [], [], h => by simp [Op.bytesLess] at h
  | _ :: _, [], h => by simp [Op.bytesLess] at h
  | [], _ :: _, _ => rfl
  | a :: x, b :: y, h => by
    simp only [Op.bytesLess, Bool.or_eq_true, decide_eq_true_eq, Bool.and_eq_true] at h
    by_cases e : a = b
    · subst e
      have h2 : Op.bytesLess x y = true := by
        rcases h with h | h
        · exact absurd h (by rw [UInt8.lt_iff_toNat_lt]; omega)
        · exact h.2
      have ih := bl_asymm x y h2
      simp only [Bool.or_eq_false_iff] at ih
      have : ¬ a < a := by rw [UInt8.lt_iff_toNat_lt]; omega
      simp only [Op.bytesLess, ih.1, Bool.and_false, Bool.or_false, this, decide_false, Bool.false_or]
      simpa using ih.2
    · have h2 : a < b := by
        rcases h with h | h
        · exact h
        · exact absurd (by simpa using h.1) e
      have h3 : ¬ b < a := by rw [UInt8.lt_iff_toNat_lt] at h2 ⊢; omega
      have h4 : (b == a) = false := by simp; exact fun e1 => e e1.symm
      simp [Op.bytesLess, h3, h4]
theorem bl_ge {x y : List UInt8} (h : Op.bytesLess x y = false) : (Op.bytesLess y x || y == x) = true := by
  cases e : (x == y)
  · rw [bl_total x y h e]; rfl
  · simp at e; subst e; simp
theorem rot_zero (s : ByteArray) : rot s 0 = s := by
  unfold rot
  apply ByteArray.ext
  simp
/-- The least of the text and the texts begun at its first k letters. -/
def mtS (s : ByteArray) : Nat → ByteArray
  | 0 => s
  | k + 1 => if Op.bytesLess (rot s k).toList (mtS s k).toList then rot s k else mtS s k
theorem mtS_t {s : ByteArray} {k : Nat} (h : Op.bytesLess (rot s k).toList (mtS s k).toList = true) : mtS s (k + 1) = rot s k := by simp [mtS, h]
theorem mtS_f {s : ByteArray} {k : Nat} (h : Op.bytesLess (rot s k).toList (mtS s k).toList = false) : mtS s (k + 1) = mtS s k := by simp [mtS, h]
theorem mtS_one (s : ByteArray) : mtS s 1 = s := by
  simp [mtS, rot_zero]
/-- No text begun at one of the first k letters of a is b. -/
def NoRot (a b : ByteArray) (k : Nat) : Prop := ∀ j, j < k → ((rot a j).toList == b.toList) = false
theorem noRot_zero (a b : ByteArray) : NoRot a b 0 := fun _ h => absurd h (by omega)
theorem noRot_succ {a b : ByteArray} {k : Nat} (h : NoRot a b k) (hk : ((rot a k).toList == b.toList) = false) : NoRot a b (k + 1) := fun j hj => by
  by_cases e : j = k
  · subst e; exact hk
  · exact h j (by omega)
def smB (a b : ByteArray) : Bool := a.size == b.size && (List.range a.size).any fun j => (rot a j).toList == b.toList
theorem smB_t {a b : ByteArray} {k : Nat} (hs : a.size = b.size) (hk : k < a.size) (h : ((rot a k).toList == b.toList) = true) : smB a b = true := by
  simp only [smB, Bool.and_eq_true, beq_iff_eq, List.any_eq_true, List.mem_range]
  exact ⟨hs, k, hk, by simpa using h⟩
theorem smB_f {a b : ByteArray} (h : NoRot a b a.size) : smB a b = false := by
  simp only [smB, Bool.and_eq_false_iff]
  right
  rw [List.any_eq_false]
  intro j hj
  rw [h j (List.mem_range.1 hj)]; simp
theorem smB_n {a b : ByteArray} (h : a.size ≠ b.size) : smB a b = false := by
  simp [smB, h]
theorem ascii_of {s : ByteArray} (h : LowTo s s.size) {k : Nat} (hk : k < s.size) : (s[k]'hk).toNat < 128 := by
  have := h k hk hk; omega
theorem lowB_to {s : ByteArray} (h : lowB s = true) : LowTo s s.size := by
  unfold lowB at h
  rw [List.all_eq_true] at h
  intro j hj _
  have e : s[j] = s.data.toList[j]'(by simpa using hj) := rfl
  have := h s[j] (by rw [e]; exact List.getElem_mem _)
  simp only [Bool.and_eq_true, decide_eq_true_eq] at this
  omega
theorem letB_low {s : ByteArray} {m : Int} (h : letB s m = true) : LowTo s s.size := by
  simp only [letB, Bool.and_eq_true] at h
  exact lowB_to h.1
set_option maxHeartbeats 1000000 in
theorem l06Same_any (a b : ByteArray) (w : World) (ha : a.size ≤ maxLen) (_hb : b.size ≤ maxLen) :
    Calls Try.prog 21 #[.string a, .string b] w fun e w' => e = .returned (.bool (smB a b)) ∧ Below w.heap.size w w' := by
  unfold maxLen at *
  by_cases hs : a.size = b.size
  rotate_left
  · have e := smB_n hs
    rw [e]
    have hne : ((a.size : Int) == (b.size : Int)) = false := by simp; omega
    have hne2 : ((a.size : Int) != (b.size : Int)) = true := by simp; omega
    clear e
    go_enter Try.func21, Try.ntmps21
    go_wp2
    go_ret
    exact ⟨rfl, Below.refl _ _⟩
  have hne : ((a.size : Int) == (b.size : Int)) = true := by simp; omega
  have hne2 : ((a.size : Int) != (b.size : Int)) = false := by simp; omega
  have HS := Lib.hid hs
  clear hs
  go_enter Try.func21, Try.ntmps21
  go_wp2
  go_loopw [5] (fun i wr => ∃ k m : Nat, k ≤ a.size ∧ i = .int .i64 k ∧ NoRot a b k ∧ wr = w.drewN m) (fun i _ => a.size - (intOf i).toNat)
  case atStart => exact ⟨0, 0, Nat.zero_le _, rfl, noRot_zero _ _, rfl⟩
  case round =>
    obtain ⟨k, m, hk, rfl, hn, rfl⟩ := hrel
    have HN := Lib.hid hn
    clear hn
    by_cases hlt : k < a.size
    · cases hx : ((rot a k).toList == b.toList)
      · have HX := Lib.hid (noRot_succ HN.out hx)
        go_wp2_with ((go_at_call 16; refine (l06Turned_any _ _ _ (by unfold maxLen; omega) (by omega) (by omega)).mono ?_; rintro e w' ⟨rfl, n2, rfl⟩; rw [Int.toNat_natCast]))
        go_roundw
        case rel => exact ⟨k + 1, _, by omega, by go_num, HX.out, rfl⟩
        case measure => simp [intOf]; omega
      · have HX := Lib.hid (smB_t HS.out hlt hx)
        go_wp2_with ((go_at_call 16; refine (l06Turned_any _ _ _ (by unfold maxLen; omega) (by omega) (by omega)).mono ?_; rintro e w' ⟨rfl, n2, rfl⟩; rw [Int.toNat_natCast]))
        go_ret
        exact ⟨ret_bool HX.out.symm, bl_drewN (Below.refl _ _) _⟩
    · have hka : k = a.size := by omega
      have HX := Lib.hid (smB_f (a := a) (b := b) (hka ▸ HN.out))
      clear hka
      go_wp2
      go_ret
      exact ⟨ret_bool HX.out.symm, bl_drewN (Below.refl _ _) _⟩
set_option maxHeartbeats 1000000 in
theorem sameMotion_any (a b : ByteArray) (w : World) (ha : a.size ≤ maxLen) (_hb : b.size ≤ maxLen) (hlow : LowTo a a.size) :
    Calls Try.prog 22 #[.string a, .string b] w fun e w' => e = .returned (.bool (smB a b)) ∧ Below w.heap.size w w' := by
  unfold maxLen at *
  by_cases hs : a.size = b.size
  rotate_left
  · have e := smB_n hs
    rw [e]
    have hne : ((a.size : Int) == (b.size : Int)) = false := by simp; omega
    have hne2 : ((a.size : Int) != (b.size : Int)) = true := by simp; omega
    clear e hlow
    go_enter Try.func22, Try.ntmps22
    go_wp2
    go_ret
    exact ⟨rfl, Below.refl _ _⟩
  have hne : ((a.size : Int) == (b.size : Int)) = true := by simp; omega
  have hne2 : ((a.size : Int) != (b.size : Int)) = false := by simp; omega
  have HS := Lib.hid hs
  have HL := Lib.hid hlow
  clear hs hlow
  go_enter Try.func22, Try.ntmps22
  go_wp2
  go_loopw [5] (fun _ wr => ∃ k : Nat, k ≤ a.size ∧ NoRot a b k ∧ wr.heap[w.heap.size]? = some (.stringIter a k) ∧ Below w.heap.size w wr) (fun _ wr => a.size - wr.iterPos w.heap.size)
  case atStart => exact ⟨0, Nat.zero_le _, noRot_zero _ _, World.iter_heap w a 0, (Below.refl _ _).alloc (Nat.le_refl _) _⟩
  case round =>
    obtain ⟨k, hk, hn, hit, hb⟩ := hrel
    have HN := Lib.hid hn
    have HB := Lib.hid hb
    have HI := Lib.hid hit
    clear hn hb hit
    by_cases hlt : k < a.size
    · have hnx : ∀ ty, (Instr.next (.pointer (some ⟨w.heap.size, 0, none⟩)) true ty).run Try.prog wr = _ := fun ty => Lib.run_next_ascii_at wr w.heap.size a k ty HI.out hlt (ascii_of HL.out hlt)
      have hi2 := Lib.iterAt_heap wr w.heap.size a k (k + 1) HI.out
      have hb2 := Lib.below_iterAt HB.out (k := w.heap.size) (Nat.le_refl _) a (k + 1)
      have HI2 := Lib.hid hi2
      have HB2 := Lib.hid hb2
      have hs1 := noRot_succ HN.out (k := k)
      have hs2 := smB_t (a := a) (b := b) (k := k) HS.out hlt
      have HS1 := Lib.hid hs1
      have HS2 := Lib.hid hs2
      clear hi2 hb2 hs1 hs2
      go_wp2_with fail
      refine (turned_any _ _ _ (by unfold maxLen; omega) (by omega) (by omega)).mono ?_
      rintro e w2 ⟨rfl, n2, hw2⟩
      rw [Int.toNat_natCast]
      have HI3 := Lib.hid (show w2.heap[w.heap.size]? = some (.stringIter a (k + 1)) from by rw [hw2]; exact HI2.out)
      have HB3 := Lib.hid (show Below w.heap.size w w2 from by rw [hw2]; exact bl_drewN HB2.out _)
      clear hw2 hnx
      cases hx : ((rot a k).toList == b.toList)
      · go_wp2
        go_roundw
        case rel => exact ⟨k + 1, by omega, HS1.out hx, HI3.out, HB3.out⟩
        case measure => simp only [World.iterPos, HI3.out, HI.out]; omega
      · go_wp2
        go_ret
        exact ⟨ret_bool (HS2.out hx).symm, HB3.out⟩
    · have hka : k = a.size := by omega
      have HX := Lib.hid (smB_f (a := a) (b := b) (hka ▸ HN.out))
      have hnx : ∀ ty, (Instr.next (.pointer (some ⟨w.heap.size, 0, none⟩)) true ty).run Try.prog wr = _ := fun ty => Lib.run_next_end_at wr w.heap.size a k ty HI.out hlt
      clear hka
      go_wp2
      go_ret
      exact ⟨ret_bool HX.out.symm, HB.out⟩
set_option maxHeartbeats 1000000 in
theorem law_SameMotion (a0 : ByteArray) (w0 : a0.size ≤ maxLen) (a1 : ByteArray) (w1 : a1.size ≤ maxLen) (w : World) :
    Calls Try.prog 5 #[.string a0, .string a1] w fun e w' => e = .returned (.bool true) ∧ Below w.heap.size w w' := by
  by_cases hb0 : 1048576 < a0.size
  · have hd0 : decide (1048576 < (a0.size : Int)) = true := by simp; omega
    unfold maxLen at w0
    go_enter Try.func5, Try.ntmps5
    go_wp2
    go_ret
    exact ⟨rfl, Below.refl _ _⟩
  have hd0 : decide (1048576 < (a0.size : Int)) = false := by simp; omega
  by_cases hb1 : 1048576 < a1.size
  · have hd1 : decide (1048576 < (a1.size : Int)) = true := by simp; omega
    unfold maxLen at w0 w1
    go_enter Try.func5, Try.ntmps5
    go_wp2
    go_ret
    exact ⟨rfl, Below.refl _ _⟩
  have hd1 : decide (1048576 < (a1.size : Int)) = false := by simp; omega
  have HW0 := Lib.hid w0
  have HW1 := Lib.hid w1
  unfold maxLen at w0 w1
  cases h0 : letB a0 24 <;> cases h1 : letB a1 24
  case true.true =>
    have HL := Lib.hid (letB_low h0)
    go_enter Try.func5, Try.ntmps5
    go_wp2_with (first | (go_at_call 15; refine (l06Ok_any _ _ (by first | exact HW0.out | exact HW1.out)).mono ?_; rintro e w' ⟨rfl, rfl⟩) | (go_at_call 21; refine (l06Same_any _ _ _ HW0.out HW1.out).mono ?_; rintro e w2 ⟨rfl, hb2⟩) | (go_at_call 17; refine (ValidMotion_any _ _ (by first | exact HW0.out | exact HW1.out)).mono ?_; rintro e w' ⟨rfl, rfl⟩) | (go_at_call 22; refine (sameMotion_any _ _ _ HW0.out HW1.out HL.out).mono ?_; rintro e w3 ⟨rfl, hb3⟩) | go_in)
    go_ret
    exact ⟨rfl, bl_tr hb2 hb3⟩
  all_goals
    go_enter Try.func5, Try.ntmps5
    go_wp2_with (first | (go_at_call 15; refine (l06Ok_any _ _ (by first | exact HW0.out | exact HW1.out)).mono ?_; rintro e w' ⟨rfl, rfl⟩) | (go_at_call 17; refine (ValidMotion_any _ _ (by first | exact HW0.out | exact HW1.out)).mono ?_; rintro e w' ⟨rfl, rfl⟩) | go_in)
    go_ret
    exact ⟨rfl, Below.refl _ _⟩
theorem run_min_str (w : World) (t : TypeId) (ts : Array TypeId) (x y : ByteArray) : (Builtin.min_ ts t #[.string x, .string y]).run Try.prog w = .ok (.string (if (Op.bytesLess x.toList y.toList || x.toList == y.toList) then x else y)) w := by
  simp [Builtin.min_, Builtin.min2, Op.stringOp, asBool]
set_option maxHeartbeats 1000000 in
theorem FirstTurn_walk (a : ByteArray) (w : World) (ha : a.size ≤ maxLen) (h0 : letB a 24 = true) :
    Calls Try.prog 8 #[.string a] w fun e w' => e = .returned (.tuple #[.string (mtS a a.size), .int .i64 0]) ∧ Below w.heap.size w w' := by
  have HL := Lib.hid (letB_low h0)
  have HA := Lib.hid ha
  unfold maxLen at ha
  go_enter Try.func8, Try.ntmps8
  go_wp2_with (go_at_call 17; refine (ValidMotion_any _ _ HA.out).mono ?_; rintro e w' ⟨rfl, rfl⟩)
  go_loopw [4, 5] (fun o _ wr => ∃ k : Nat, k ≤ a.size ∧ o = .string (mtS a k) ∧ wr.heap[w.heap.size]? = some (.stringIter a k) ∧ Below w.heap.size w wr) (fun _ _ wr => a.size - wr.iterPos w.heap.size)
  case atStart => exact ⟨0, Nat.zero_le _, rfl, World.iter_heap w a 0, (Below.refl _ _).alloc (Nat.le_refl _) _⟩
  case round =>
    obtain ⟨k, hk, rfl, hit, hb⟩ := hrel
    have HB := Lib.hid hb
    have HI := Lib.hid hit
    clear hb hit
    by_cases hlt : k < a.size
    · have hnx : ∀ ty, (Instr.next (.pointer (some ⟨w.heap.size, 0, none⟩)) true ty).run Try.prog wr = _ := fun ty => Lib.run_next_ascii_at wr w.heap.size a k ty HI.out hlt (ascii_of HL.out hlt)
      have HI2 := Lib.hid (Lib.iterAt_heap wr w.heap.size a k (k + 1) HI.out)
      have HB2 := Lib.hid (Lib.below_iterAt HB.out (k := w.heap.size) (Nat.le_refl _) a (k + 1))
      have hmin : ∀ (W : World) (t : TypeId) (ts : Array TypeId), (Builtin.min_ ts t #[.string (mtS a k), .string (rot a k)]).run Try.prog W = .ok (.string (mtS a (k + 1))) W := fun W t ts => by
        rw [run_min_str]
        cases hx : Op.bytesLess (rot a k).toList (mtS a k).toList
        · rw [mtS_f hx, bl_ge hx]; rfl
        · rw [mtS_t hx, bl_asymm _ _ hx]; rfl
      go_wp2_with fail
      refine (turned_any _ _ _ (by unfold maxLen; omega) (by omega) (by omega)).mono ?_
      rintro e w2 ⟨rfl, n2, hw2⟩
      rw [Int.toNat_natCast]
      have HI3 := Lib.hid (show w2.heap[w.heap.size]? = some (.stringIter a (k + 1)) from by rw [hw2]; exact HI2.out)
      have HB3 := Lib.hid (show Below w.heap.size w w2 from by rw [hw2]; exact bl_drewN HB2.out _)
      clear hw2 hnx
      go_wp2
      go_roundw
      case rel => exact ⟨k + 1, by omega, rfl, HI3.out, HB3.out⟩
      case measure => simp only [World.iterPos, HI3.out, HI.out]; omega
    · have hka : k = a.size := by omega
      subst hka
      have hnx : ∀ ty, (Instr.next (.pointer (some ⟨w.heap.size, 0, none⟩)) true ty).run Try.prog wr = _ := fun ty => Lib.run_next_end_at wr w.heap.size a a.size ty HI.out hlt
      go_wp2
      go_ret2
      exact ⟨rfl, HB.out⟩
end Go.Proofs.Ytilifijfmdielaa

/-
  PROVED HERE: the walks of a motion's period and of its changes: the program and the reference agree. CONDITIONS: a text's length fits the model's longest string.
-/
import Derived.Test.YtcfdokoellcjiaaStr
namespace Go.Proofs.Ytcfdokoellcjiaa
open Go.RowKit

def perOk (s : ByteArray) (m : Nat) : Bool := s.size % m == 0 && ((rot s (m % s.size)).toList == s.toList)
def PerNot (s : ByteArray) (k : Nat) : Prop := ∀ m, 1 ≤ m → m < k → perOk s m = false
theorem perNot_one (s : ByteArray) : PerNot s 1 := fun m h1 h2 => absurd h2 (by omega)
theorem perNot_succ {s : ByteArray} {k : Nat} (h : PerNot s k) (hk : perOk s k = false) : PerNot s (k + 1) := fun m h1 h2 => by
  by_cases e : m = k
  · subst e; exact hk
  · exact h m h1 (by omega)
theorem rot_zero (s : ByteArray) : rot s 0 = s := by
  unfold rot
  apply ByteArray.ext
  simp
theorem perOk_size (s : ByteArray) (_h : 1 ≤ s.size) : perOk s s.size = true := by
  have e : s.size % s.size = 0 := Nat.mod_self _
  simp [perOk, e, rot_zero]
def PerRes (s : ByteArray) (w : World) (e : Ending) (w' : World) : Prop :=
  ∃ k n : Nat, 1 ≤ k ∧ perOk s k = true ∧ PerNot s k ∧ e = .returned (.tuple #[.int .i64 (k : Int), .int .i64 0]) ∧ w' = w.drewN n
theorem per_unique {s : ByteArray} {k m : Nat} (hk : 1 ≤ k) (h : perOk s k = true) (hn : PerNot s k) (hm : 1 ≤ m) (g : perOk s m = true) (gn : PerNot s m) : k = m := by
  rcases Nat.lt_trichotomy k m with h1 | h1 | h1
  · have := gn k hk h1; rw [h] at this; cases this
  · exact h1
  · have := hn m hm h1; rw [g] at this; cases this
theorem per_no {s : ByteArray} {k : Nat} (h1 : 1 ≤ s.size) (hk : k ≤ s.size) (h : perOk s k = false) : k + 1 ≤ s.size := by
  by_cases e : k = s.size
  · subst e; rw [perOk_size s h1] at h; cases h
  · omega
theorem PeriodOf_any (s : ByteArray) (w : World) (hs : s.size ≤ maxLen) (hl : letB s 24 = true) :
    Calls Try.prog 31 #[.string s] w (PerRes s w) := by
  obtain ⟨h1, h24⟩ := letB_t hl
  go_enter Try.func31, Try.ntmps31
  go_wp2_with (first | (go_at_call 18; refine (ValidMotion_any _ _ (by assumption)).mono ?_; rintro e w' ⟨rfl, rfl⟩) | (go_at_call 38; refine (l06Ok_any _ _ (by assumption)).mono ?_; rintro e w' ⟨rfl, rfl⟩) | (go_at_call 37; refine (within_any _ _ _ _).mono ?_; rintro e w' ⟨rfl, rfl⟩) | (go_at_call 44; refine (l00In_any _ _ _ _).mono ?_; rintro e w' ⟨rfl, rfl⟩) | go_in)
  go_loopw [4] (fun i wr => ∃ k n : Nat, 1 ≤ k ∧ k ≤ s.size ∧ i = .int .i64 k ∧ PerNot s k ∧ wr = w.drewN n) (fun i _ => s.size - (intOf i).toNat)
  case atStart => exact ⟨1, 0, by omega, by omega, rfl, perNot_one s, rfl⟩
  case round =>
    obtain ⟨k, n, hk1, hk, rfl, hn, rfl⟩ := hrel
    have HN := Lib.hid hn
    clear hn
    by_cases hm : (s.size : Int) % (k : Int) = 0
    · have hm1 : ((s.size : Int) % (k : Int) == 0) = true := by simpa using hm
      have hm2 : ((s.size : Int) % (k : Int) != 0) = false := by simpa using hm
      have hb1 : 0 ≤ (k : Int) % (s.size : Int) := by omega
      have hb2 : (k : Int) % (s.size : Int) < s.size := Int.emod_lt_of_pos _ (by omega)
      have hm3 : s.size % k = 0 := by omega
      have HM := Lib.hid hm3
      clear hm hm3
      cases ht : ((rot s (k % s.size)).toList == s.toList)
      · have hf : perOk s k = false := by simp [perOk, ht]
        have hk2 := per_no (by omega) hk hf
        have HF := Lib.hid hf
        clear hf
        go_wp2_with (go_at_call 51; refine (turned_any _ _ _ hs (by omega) (by omega)).mono ?_; rintro e w' ⟨rfl, n2, rfl⟩)
        go_roundw
        case rel => exact ⟨k + 1, n + n2, by omega, hk2, by go_num, perNot_succ HN.out HF.out, rfl⟩
        case measure => simp [intOf]; omega
      · have hf : perOk s k = true := by simp only [perOk, ht, HM.out]; rfl
        have HF := Lib.hid hf
        clear hf
        go_wp2_with (go_at_call 51; refine (turned_any _ _ _ hs (by omega) (by omega)).mono ?_; rintro e w' ⟨rfl, n2, rfl⟩)
        go_ret2
        exact ⟨k, n + n2, hk1, HF.out, HN.out, rfl, rfl⟩
    · have hm1 : ((s.size : Int) % (k : Int) == 0) = false := by simpa using hm
      have hm2 : ((s.size : Int) % (k : Int) != 0) = true := by simpa using hm
      have hm3 : s.size % k ≠ 0 := by omega
      have hf : perOk s k = false := by simp [perOk, hm3]
      have hk2 := per_no (by omega) hk hf
      have HF := Lib.hid hf
      clear hm hm3 hf
      go_wp2
      go_roundw
      case rel => exact ⟨k + 1, n, by omega, hk2, by go_num, perNot_succ HN.out HF.out, rfl⟩
      case measure => simp [intOf]; omega
theorem lPeriodOf_any (s : ByteArray) (w : World) (hs : s.size ≤ maxLen) (hl : letB s 24 = true) :
    Calls Try.prog 30 #[.string s] w (PerRes s w) := by
  obtain ⟨h1, h24⟩ := letB_t hl
  go_enter Try.func30, Try.ntmps30
  go_wp2_with (first | (go_at_call 18; refine (ValidMotion_any _ _ (by assumption)).mono ?_; rintro e w' ⟨rfl, rfl⟩) | (go_at_call 38; refine (l06Ok_any _ _ (by assumption)).mono ?_; rintro e w' ⟨rfl, rfl⟩) | (go_at_call 37; refine (within_any _ _ _ _).mono ?_; rintro e w' ⟨rfl, rfl⟩) | (go_at_call 44; refine (l00In_any _ _ _ _).mono ?_; rintro e w' ⟨rfl, rfl⟩) | go_in)
  go_loopw [4] (fun i wr => ∃ k n : Nat, 1 ≤ k ∧ k ≤ s.size ∧ i = .int .i64 k ∧ PerNot s k ∧ wr = w.drewN n) (fun i _ => s.size - (intOf i).toNat)
  case atStart => exact ⟨1, 0, by omega, by omega, rfl, perNot_one s, rfl⟩
  case round =>
    obtain ⟨k, n, hk1, hk, rfl, hn, rfl⟩ := hrel
    have HN := Lib.hid hn
    clear hn
    by_cases hm : (s.size : Int) % (k : Int) = 0
    · have hm1 : ((s.size : Int) % (k : Int) == 0) = true := by simpa using hm
      have hm2 : ((s.size : Int) % (k : Int) != 0) = false := by simpa using hm
      have hb1 : 0 ≤ (k : Int) % (s.size : Int) := by omega
      have hb2 : (k : Int) % (s.size : Int) < s.size := Int.emod_lt_of_pos _ (by omega)
      have hm3 : s.size % k = 0 := by omega
      have HM := Lib.hid hm3
      clear hm hm3
      cases ht : ((rot s (k % s.size)).toList == s.toList)
      · have hf : perOk s k = false := by simp [perOk, ht]
        have hk2 := per_no (by omega) hk hf
        have HF := Lib.hid hf
        clear hf
        go_wp2_with (go_at_call 50; refine (l06Turned_any _ _ _ hs (by omega) (by omega)).mono ?_; rintro e w' ⟨rfl, n2, rfl⟩)
        go_roundw
        case rel => exact ⟨k + 1, n + n2, by omega, hk2, by go_num, perNot_succ HN.out HF.out, rfl⟩
        case measure => simp [intOf]; omega
      · have hf : perOk s k = true := by simp only [perOk, ht, HM.out]; rfl
        have HF := Lib.hid hf
        clear hf
        go_wp2_with (go_at_call 50; refine (l06Turned_any _ _ _ hs (by omega) (by omega)).mono ?_; rintro e w' ⟨rfl, n2, rfl⟩)
        go_ret2
        exact ⟨k, n + n2, hk1, HF.out, HN.out, rfl, rfl⟩
    · have hm1 : ((s.size : Int) % (k : Int) == 0) = false := by simpa using hm
      have hm2 : ((s.size : Int) % (k : Int) != 0) = true := by simpa using hm
      have hm3 : s.size % k ≠ 0 := by omega
      have hf : perOk s k = false := by simp [perOk, hm3]
      have hk2 := per_no (by omega) hk hf
      have HF := Lib.hid hf
      clear hm hm3 hf
      go_wp2
      go_roundw
      case rel => exact ⟨k + 1, n, by omega, hk2, by go_num, perNot_succ HN.out HF.out, rfl⟩
      case measure => simp [intOf]; omega
theorem law_PeriodOf (a0 : ByteArray) (w0 : a0.size ≤ maxLen) (w : World) :
    Calls Try.prog 11 #[.string a0] w fun e w' => e = .returned (.bool true) ∧ Below w.heap.size w w' := by
  cases hl : letB a0 24
  · go_enter Try.func11, Try.ntmps11
    go_wp2_with (first | (go_at_call 18; refine (ValidMotion_any _ _ (by assumption)).mono ?_; rintro e w' ⟨rfl, rfl⟩) | (go_at_call 38; refine (l06Ok_any _ _ (by assumption)).mono ?_; rintro e w' ⟨rfl, rfl⟩) | (go_at_call 37; refine (within_any _ _ _ _).mono ?_; rintro e w' ⟨rfl, rfl⟩) | (go_at_call 44; refine (l00In_any _ _ _ _).mono ?_; rintro e w' ⟨rfl, rfl⟩) | go_in)
    all_goals
      go_ret
      exact ⟨rfl, Below.refl _ _⟩
  · have hl1 := letB_t hl
    go_enter Try.func11, Try.ntmps11
    go_wp2_with (first | (go_at_call 30; refine (lPeriodOf_any _ _ w0 hl).mono ?_; rintro e w' ⟨k1, n1, g1, g2, g3, rfl, rfl⟩; have G1 := Lib.hid g2; clear g2) | (go_at_call 31; refine (PeriodOf_any _ _ w0 hl).mono ?_; rintro e w' ⟨k2, n2, g4, g5, g6, rfl, rfl⟩; obtain rfl := per_unique g1 G1.out g3 g4 g5 g6; clear g3 g5 g6))
    all_goals
      go_ret
      exact ⟨rfl, bl_drewN (Below.refl _ _) _⟩
def dif (s : ByteArray) (j : Nat) : Bool := s.data.toList.getD j 0 != s.data.toList.getD ((j + 1) % s.size) 0
theorem dif_eq (s : ByteArray) (j : Nat) (h1 : j < s.size) (h2 : (j + 1) % s.size < s.size) : dif s j = ((s[j].toNat : Int) != (s[(j + 1) % s.size].toNat : Int)) := by
  have e1 : s.data.toList.getD j 0 = s[j] := by
    rw [List.getD_eq_getElem?_getD, List.getElem?_eq_getElem (by simpa using h1)]; rfl
  have e2 : s.data.toList.getD ((j + 1) % s.size) 0 = s[(j + 1) % s.size] := by
    rw [List.getD_eq_getElem?_getD, List.getElem?_eq_getElem (by simpa using h2)]; rfl
  unfold dif
  rw [e1, e2, Bool.eq_iff_iff]
  simp only [bne_iff_ne, ne_eq]
  exact not_iff_mk ⟨fun h => by rw [h], fun h => UInt8.toNat_inj.1 (by omega)⟩
def chg (s : ByteArray) : Nat → Nat
  | 0 => 0
  | k + 1 => chg s k + if dif s k then 1 else 0
theorem chg_le (s : ByteArray) (k : Nat) : chg s k ≤ k := by
  induction k with
  | zero => simp [chg]
  | succ k ih => simp only [chg]; split <;> omega
theorem ChangesIn_any (s : ByteArray) (w : World) (hs : s.size ≤ maxLen) (hl : letB s 24 = true) :
    Calls Try.prog 33 #[.string s] w fun e w' => e = .returned (.tuple #[.int .i64 (chg s s.size : Nat), .int .i64 0]) ∧ ∃ n, w' = w.drewN n := by
  obtain ⟨h1, h24⟩ := letB_t hl
  go_enter Try.func33, Try.ntmps33
  go_wp2_with (first | (go_at_call 18; refine (ValidMotion_any _ _ (by assumption)).mono ?_; rintro e w' ⟨rfl, rfl⟩) | (go_at_call 38; refine (l06Ok_any _ _ (by assumption)).mono ?_; rintro e w' ⟨rfl, rfl⟩) | (go_at_call 37; refine (within_any _ _ _ _).mono ?_; rintro e w' ⟨rfl, rfl⟩) | (go_at_call 44; refine (l00In_any _ _ _ _).mono ?_; rintro e w' ⟨rfl, rfl⟩) | go_in)
  go_loopw [4, 5, 11] (fun c _ i wr => ∃ k n : Nat, k ≤ s.size ∧ i = .int .i64 k ∧ c = .int .i64 (chg s k : Nat) ∧ wr = w.drewN n) (fun _ _ i _ => s.size - (intOf i).toNat)
  case atStart => exact ⟨0, 0, by omega, rfl, rfl, rfl⟩
  case round =>
    obtain ⟨k, n, hk, rfl, rfl, rfl⟩ := hrel
    have hc := chg_le s k
    by_cases hlt : k < s.size
    · have hb1 : 0 ≤ ((k : Int) + 1) % (s.size : Int) := Int.emod_nonneg _ (by omega)
      have hb2 : ((k : Int) + 1) % (s.size : Int) < s.size := Int.emod_lt_of_pos _ (by omega)
      have hb3 : (k + 1) % s.size < s.size := Nat.mod_lt _ (by omega)
      have hd := dif_eq s k hlt hb3
      cases hx : ((s[k].toNat : Int) != (s[(k + 1) % s.size].toNat : Int))
      · have he : chg s (k + 1) = chg s k := by simp [chg, hd, hx]
        have HE := Lib.hid he
        clear he hd
        go_wp2
        go_quiet (fail)
        go_wp2
        go_roundw
        case rel => exact ⟨k + 1, n + nq, by omega, by go_num, by rw [HE.out], rfl⟩
        case measure => simp [intOf]; omega
      · have he : chg s (k + 1) = chg s k + 1 := by simp [chg, hd, hx]
        have HE := Lib.hid he
        clear he hd
        go_wp2
        go_quiet (fail)
        go_wp2
        go_roundw
        case rel => exact ⟨k + 1, n + nq, by omega, by go_num, by rw [HE.out]; go_num, rfl⟩
        case measure => simp [intOf]; omega
    · have e : k = s.size := by omega
      have E := Lib.hid e
      clear e
      go_wp2
      go_ret2
      exact ⟨ret_int2 (by rw [E.out]), _, rfl⟩
theorem lChangesIn_any (s : ByteArray) (w : World) (hs : s.size ≤ maxLen) (hl : letB s 24 = true) :
    Calls Try.prog 32 #[.string s] w fun e w' => e = .returned (.tuple #[.int .i64 (chg s s.size : Nat), .int .i64 0]) ∧ ∃ n, w' = w.drewN n := by
  obtain ⟨h1, h24⟩ := letB_t hl
  go_enter Try.func32, Try.ntmps32
  go_wp2_with (first | (go_at_call 18; refine (ValidMotion_any _ _ (by assumption)).mono ?_; rintro e w' ⟨rfl, rfl⟩) | (go_at_call 38; refine (l06Ok_any _ _ (by assumption)).mono ?_; rintro e w' ⟨rfl, rfl⟩) | (go_at_call 37; refine (within_any _ _ _ _).mono ?_; rintro e w' ⟨rfl, rfl⟩) | (go_at_call 44; refine (l00In_any _ _ _ _).mono ?_; rintro e w' ⟨rfl, rfl⟩) | go_in)
  go_loopw [4, 5] (fun c i wr => ∃ k n : Nat, k ≤ s.size ∧ i = .int .i64 k ∧ c = .int .i64 (chg s k : Nat) ∧ wr = w.drewN n) (fun _ i _ => s.size - (intOf i).toNat)
  case atStart => exact ⟨0, 0, by omega, rfl, rfl, rfl⟩
  case round =>
    obtain ⟨k, n, hk, rfl, rfl, rfl⟩ := hrel
    have hc := chg_le s k
    by_cases hlt : k < s.size
    · have hb1 : 0 ≤ ((k : Int) + 1) % (s.size : Int) := Int.emod_nonneg _ (by omega)
      have hb2 : ((k : Int) + 1) % (s.size : Int) < s.size := Int.emod_lt_of_pos _ (by omega)
      have hb3 : (k + 1) % s.size < s.size := Nat.mod_lt _ (by omega)
      have hd := dif_eq s k hlt hb3
      cases hx : ((s[k].toNat : Int) != (s[(k + 1) % s.size].toNat : Int))
      · have he : chg s (k + 1) = chg s k := by simp [chg, hd, hx]
        have HE := Lib.hid he
        clear he hd
        go_wp2
        go_quiet (fail)
        go_wp2
        go_roundw
        case rel => exact ⟨k + 1, n + nq, by omega, by go_num, by rw [HE.out], rfl⟩
        case measure => simp [intOf]; omega
      · have he : chg s (k + 1) = chg s k + 1 := by simp [chg, hd, hx]
        have HE := Lib.hid he
        clear he hd
        go_wp2
        go_quiet (fail)
        go_wp2
        go_roundw
        case rel => exact ⟨k + 1, n + nq, by omega, by go_num, by rw [HE.out]; go_num, rfl⟩
        case measure => simp [intOf]; omega
    · have e : k = s.size := by omega
      have E := Lib.hid e
      clear e
      go_wp2
      go_ret2
      exact ⟨ret_int2 (by rw [E.out]), _, rfl⟩
theorem law_ChangesIn (a0 : ByteArray) (w0 : a0.size ≤ maxLen) (w : World) :
    Calls Try.prog 12 #[.string a0] w fun e w' => e = .returned (.bool true) ∧ Below w.heap.size w w' := by
  cases hl : letB a0 24
  · go_enter Try.func12, Try.ntmps12
    go_wp2_with (first | (go_at_call 18; refine (ValidMotion_any _ _ (by assumption)).mono ?_; rintro e w' ⟨rfl, rfl⟩) | (go_at_call 38; refine (l06Ok_any _ _ (by assumption)).mono ?_; rintro e w' ⟨rfl, rfl⟩) | (go_at_call 37; refine (within_any _ _ _ _).mono ?_; rintro e w' ⟨rfl, rfl⟩) | (go_at_call 44; refine (l00In_any _ _ _ _).mono ?_; rintro e w' ⟨rfl, rfl⟩) | go_in)
    all_goals
      go_ret
      exact ⟨rfl, Below.refl _ _⟩
  · have hl1 := letB_t hl
    go_enter Try.func12, Try.ntmps12
    go_wp2_with (first | (go_at_call 32; refine (lChangesIn_any _ _ w0 hl).mono ?_; rintro e w' ⟨rfl, n1, rfl⟩) | (go_at_call 33; refine (ChangesIn_any _ _ w0 hl).mono ?_; rintro e w' ⟨rfl, n2, rfl⟩))
    all_goals
      go_ret
      exact ⟨rfl, bl_drewN (Below.refl _ _) _⟩
end Go.Proofs.Ytcfdokoellcjiaa

/-
  PROVED HERE: the walks over texts of small letters: validity, a motion begun at another letter, its period, its changes. CONDITIONS: a text's length fits the model's longest string.
-/
import Derived.Test.YtdmiieijflochaaBase
namespace Go.Proofs.Ytdmiieijflochaa
open Go.RowKit

def lowB (s : ByteArray) : Bool := s.data.toList.all fun c => decide (97 ≤ c.toNat) && decide (c.toNat ≤ 122)
def LowTo (s : ByteArray) (k : Nat) : Prop := ∀ (j : Nat) (h : j < s.size), j < k → 97 ≤ (s[j].toNat : Int) ∧ (s[j].toNat : Int) ≤ 122
theorem low_zero (s : ByteArray) : LowTo s 0 := fun _ _ h => absurd h (by omega)
theorem low_succ {s : ByteArray} {k : Nat} (hk : k < s.size) (h : LowTo s k) (h1 : 97 ≤ (s[k].toNat : Int)) (h2 : (s[k].toNat : Int) ≤ 122) : LowTo s (k + 1) := fun j hj hjk => by
  by_cases e : j = k
  · subst e; exact ⟨h1, h2⟩
  · exact h j hj (by omega)
theorem low_t {s : ByteArray} (h : LowTo s s.size) : lowB s = true := by
  unfold lowB
  rw [List.all_eq_true]
  intro c hc
  obtain ⟨j, hj, rfl⟩ := List.mem_iff_getElem.1 hc
  have hj' : j < s.size := by simpa using hj
  have := h j hj' hj'
  have e : s[j] = s.data.toList[j] := rfl
  rw [e] at this
  simp only [Bool.and_eq_true, decide_eq_true_eq]; omega
theorem low_f {s : ByteArray} {k : Nat} (hk : k < s.size) (h : (s[k].toNat : Int) < 97 ∨ 122 < (s[k].toNat : Int)) : lowB s = false := by
  unfold lowB
  rw [List.all_eq_false]
  refine ⟨s[k], ?_, ?_⟩
  · have e : s[k] = s.data.toList[k]'(by simpa using hk) := rfl
    rw [e]; exact List.getElem_mem _
  · simp; omega
/-- Is the text of 1 to m small letters? -/
def letB (s : ByteArray) (m : Int) : Bool := lowB s && inB s.size 1 m
theorem letB_t {s : ByteArray} {m : Int} (h : letB s m = true) : 1 ≤ (s.size : Int) ∧ (s.size : Int) ≤ m := by
  simp only [letB, Bool.and_eq_true] at h
  exact inB_t h.2

theorem isLetters_any (s : ByteArray) (m : Int) (w : World) (hs : s.size ≤ maxLen) :
    Calls Try.prog 83 #[.string s, .int .i64 m] w fun e w' => e = .returned (.bool (letB s m)) ∧ w = w' := by
  unfold maxLen at hs
  go_enter Try.func83, Try.ntmps83
  go_wp2
  go_loop [5] (fun i => ∃ k : Nat, k ≤ s.size ∧ i = .int .i64 k ∧ LowTo s k) (fun i => s.size - (intOf i).toNat)
  case atStart => exact ⟨0, Nat.zero_le _, rfl, low_zero s⟩
  case round =>
    obtain ⟨k, hk, rfl, hl⟩ := hrel
    have HL := Lib.hid hl
    clear hl
    by_cases hlt : k < s.size
    · by_cases h1 : (s[k].toNat : Int) < 97
      · have hf := low_f hlt (.inl h1)
        have HF := Lib.hid hf
        clear hf
        go_wp2
        go_ret
        exact ⟨ret_bool (by simp [letB, HF.out]), rfl⟩
      · by_cases h2 : 122 < (s[k].toNat : Int)
        · have hf := low_f hlt (.inr h2)
          have HF := Lib.hid hf
          clear hf
          go_wp2
          go_ret
          exact ⟨ret_bool (by simp [letB, HF.out]), rfl⟩
        · have hs' := low_succ hlt HL.out (by omega) (by omega)
          have HS := Lib.hid hs'
          clear hs'
          go_wp2
          go_round
          case rel => exact ⟨k + 1, by omega, by go_num, HS.out⟩
          case measure => simp [intOf]; omega
    · have e : k = s.size := by omega
      have hf := low_t (e ▸ HL.out)
      have HF := Lib.hid hf
      clear hf e
      by_cases h3 : (1 : Int) ≤ s.size
      · by_cases h4 : (s.size : Int) ≤ m
        · go_wp2
          go_ret
          exact ⟨ret_bool (by simp [letB, HF.out, inB_mk h3 h4]), rfl⟩
        · go_wp2
          go_ret
          exact ⟨ret_bool (by simp [letB, inB, h4]), rfl⟩
      · go_wp2
        go_ret
        exact ⟨ret_bool (by simp [letB, inB]; intros; omega), rfl⟩
theorem l06Ok_any (s : ByteArray) (w : World) (hs : s.size ≤ maxLen) :
    Calls Try.prog 73 #[.string s] w fun e w' => e = .returned (.bool (letB s 24)) ∧ w = w' := by
  unfold maxLen at hs
  go_enter Try.func73, Try.ntmps73
  go_wp2
  go_loop [3] (fun i => ∃ k : Nat, k ≤ s.size ∧ i = .int .i64 k ∧ LowTo s k) (fun i => s.size - (intOf i).toNat)
  case atStart => exact ⟨0, Nat.zero_le _, rfl, low_zero s⟩
  case round =>
    obtain ⟨k, hk, rfl, hl⟩ := hrel
    have HL := Lib.hid hl
    clear hl
    by_cases hlt : k < s.size
    · by_cases h1 : (s[k].toNat : Int) < 97
      · have hf := low_f hlt (.inl h1)
        have HF := Lib.hid hf
        clear hf
        go_wp2
        go_ret
        exact ⟨ret_bool (by simp [letB, HF.out]), rfl⟩
      · by_cases h2 : 122 < (s[k].toNat : Int)
        · have hf := low_f hlt (.inr h2)
          have HF := Lib.hid hf
          clear hf
          go_wp2
          go_ret
          exact ⟨ret_bool (by simp [letB, HF.out]), rfl⟩
        · have hs' := low_succ hlt HL.out (by omega) (by omega)
          have HS := Lib.hid hs'
          clear hs'
          go_wp2
          go_round
          case rel => exact ⟨k + 1, by omega, by go_num, HS.out⟩
          case measure => simp [intOf]; omega
    · have e : k = s.size := by omega
      have hf := low_t (e ▸ HL.out)
      have HF := Lib.hid hf
      clear hf e
      go_wp2_with (go_at_call 45; refine (l00In_any _ _ _ _).mono ?_; rintro e w' ⟨rfl, rfl⟩)
      go_ret
      exact ⟨ret_bool (by simp [letB, HF.out]), rfl⟩
theorem ValidMotion_any (s : ByteArray) (w : World) (hs : s.size ≤ maxLen) :
    Calls Try.prog 70 #[.string s] w fun e w' => e = .returned (.bool (letB s 24)) ∧ w = w' := by
  go_enter Try.func70, Try.ntmps70
  go_wp2_with (go_at_call 83; refine (isLetters_any _ _ _ hs).mono ?_; rintro e w' ⟨rfl, rfl⟩)
  go_ret
  exact ⟨rfl, rfl⟩
/-- The text, begun at one of its letters. -/
def rot (s : ByteArray) (k : Nat) : ByteArray := s.extract k s.size ++ s.extract 0 k
end Go.Proofs.Ytdmiieijflochaa

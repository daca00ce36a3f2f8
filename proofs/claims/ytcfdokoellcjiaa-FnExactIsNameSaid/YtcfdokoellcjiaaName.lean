/-
  PROVED HERE: the walks of IsName: the program and the reference agree. CONDITIONS: a text's length fits the model's longest string.
-/
import Derived.Test.YtcfdokoellcjiaaStr
namespace Go.Proofs.Ytcfdokoellcjiaa
open Go.RowKit

/-- a letter, a digit or a hyphen -/
def Nmc (c : Int) : Prop := (97 ≤ c ∧ c ≤ 122) ∨ (48 ≤ c ∧ c ≤ 57) ∨ c = 45
def NmTo (s : ByteArray) (k : Nat) : Prop := ∀ (j : Nat) (h : j < s.size), j < k → Nmc (s[j].toNat : Int)
/-- Is the text a name? -/
def IsNm (s : ByteArray) : Prop := (1 ≤ (s.size : Int) ∧ (s.size : Int) ≤ 12) ∧ (∀ h : 0 < s.size, 97 ≤ (s[0].toNat : Int) ∧ (s[0].toNat : Int) ≤ 122) ∧ NmTo s s.size
def nmcB (c : UInt8) : Bool := (decide (97 ≤ c.toNat) && decide (c.toNat ≤ 122)) || (decide (48 ≤ c.toNat) && decide (c.toNat ≤ 57)) || c.toNat == 45
def nameB (s : ByteArray) : Bool := inB s.size 1 12 && inB ((s.data.toList.getD 0 0).toNat : Int) 97 122 && s.data.toList.all nmcB
theorem nmcB_iff (c : UInt8) : nmcB c = true ↔ Nmc (c.toNat : Int) := by
  simp only [nmcB, Nmc, Bool.or_eq_true, Bool.and_eq_true, decide_eq_true_eq, beq_iff_eq]; omega
theorem nameB_iff (s : ByteArray) : nameB s = true ↔ IsNm s := by
  simp only [nameB, IsNm, Bool.and_eq_true, List.all_eq_true]
  constructor
  · rintro ⟨⟨h1, h2⟩, h3⟩
    refine ⟨inB_t h1, fun hp => ?_, fun j hj _ => (nmcB_iff _).1 (h3 _ ?_)⟩
    · have e : s.data.toList.getD 0 0 = s[0] := by
        rw [List.getD_eq_getElem?_getD, List.getElem?_eq_getElem (by simpa using hp)]; rfl
      rw [e] at h2
      exact inB_t h2
    · have e : s[j] = s.data.toList[j]'(by simpa using hj) := rfl
      rw [e]; exact List.getElem_mem _
  · rintro ⟨⟨h1, h1'⟩, h2, h3⟩
    have hp : 0 < s.size := by omega
    have e : s.data.toList.getD 0 0 = s[0] := by
      rw [List.getD_eq_getElem?_getD, List.getElem?_eq_getElem (by simpa using hp)]; rfl
    refine ⟨⟨inB_mk h1 h1', ?_⟩, fun c hc => ?_⟩
    · rw [e]; exact inB_mk (h2 hp).1 (h2 hp).2
    · obtain ⟨j, hj, rfl⟩ := List.mem_iff_getElem.1 hc
      have hj' : j < s.size := by simpa using hj
      exact (nmcB_iff _).2 (h3 j hj' hj')
theorem nameB_t {s : ByteArray} (h : IsNm s) : nameB s = true := (nameB_iff s).2 h
theorem nameB_f {s : ByteArray} (h : ¬ IsNm s) : nameB s = false := by
  cases e : nameB s
  · rfl
  · exact absurd ((nameB_iff s).1 e) h
theorem empty_t {s : ByteArray} (h : s.size = 0) : s.toList.isEmpty = true := by
  rw [ByteArray.toList_eq]
  have : s.data.toList.length = 0 := by simpa using h
  cases hl : s.data.toList with
  | nil => rfl
  | cons x xs => rw [hl] at this; simp at this
theorem empty_f {s : ByteArray} (h : 0 < s.size) : s.toList.isEmpty = false := by
  rw [ByteArray.toList_eq]
  have : 0 < s.data.toList.length := by simpa using h
  cases hl : s.data.toList with
  | nil => rw [hl] at this; simp at this
  | cons x xs => rfl
theorem nameB_f1 {s : ByteArray} (h : (s.size : Int) < 1 ∨ 12 < (s.size : Int)) : nameB s = false := nameB_f fun g => by have := g.1; omega
theorem nameB_f2 {s : ByteArray} (hp : 0 < s.size) (h : (s[0].toNat : Int) < 97 ∨ 122 < (s[0].toNat : Int)) : nameB s = false := nameB_f fun g => by have := g.2.1 hp; omega
theorem nameB_f3 {s : ByteArray} {k : Nat} (hk : k < s.size) (h : ¬ Nmc (s[k].toNat : Int)) : nameB s = false := nameB_f fun g => h (g.2.2 k hk hk)
theorem nm_succ {s : ByteArray} {k : Nat} (hk : k < s.size) (h : NmTo s k) (h1 : Nmc (s[k].toNat : Int)) : NmTo s (k + 1) := fun j hj hjk => by
  by_cases e : j = k
  · subst e; exact h1
  · exact h j hj (by omega)
theorem nm_zero (s : ByteArray) : NmTo s 0 := fun _ _ h => absurd h (by omega)
theorem nm_one {s : ByteArray} (hp : 0 < s.size) (h3 : 97 ≤ (s[0].toNat : Int)) (h4 : (s[0].toNat : Int) ≤ 122) : NmTo s 1 := nm_succ hp (nm_zero s) (.inl ⟨h3, h4⟩)
theorem nm_end {s : ByteArray} {k : Nat} (hk : k = s.size) (c1 : 1 ≤ (s.size : Int)) (c2 : (s.size : Int) ≤ 12) (hp : 0 < s.size) (c3 : 97 ≤ (s[0].toNat : Int)) (c4 : (s[0].toNat : Int) ≤ 122) (h : NmTo s k) : nameB s = true :=
  nameB_t ⟨⟨c1, c2⟩, fun _ => ⟨c3, c4⟩, hk ▸ h⟩
theorem nm_parts (c : Int) : (97 ≤ c ∧ c ≤ 122) ∨ (48 ≤ c ∧ c ≤ 57) ∨ (c = 45) ∨ (c < 45) ∨ (45 < c ∧ c < 48) ∨ (57 < c ∧ c < 97) ∨ (122 < c) := by omega

set_option maxHeartbeats 1600000 in
theorem IsName_any (s : ByteArray) (w : World) (_hs : s.size ≤ maxLen) :
    Calls Try.prog 20 #[.string s] w fun e w' => e = .returned (.bool (nameB s)) ∧ w = w' := by
  by_cases c1 : 1 ≤ (s.size : Int)
  rotate_left
  · have hf := nameB_f1 (s := s) (.inl (by omega))
    have he : s.toList.isEmpty = true := empty_t (by omega)
    go_enter Try.func20, Try.ntmps20
    go_wp2
    go_ret
    exact ⟨rfl, rfl⟩
  by_cases c2 : (s.size : Int) ≤ 12
  rotate_left
  · have hf := nameB_f1 (s := s) (.inr (by omega))
    have he : s.toList.isEmpty = false := empty_f (by omega)
    go_enter Try.func20, Try.ntmps20
    go_wp2
    all_goals
      go_ret
      exact ⟨rfl, rfl⟩
  have hp : 0 < s.size := by omega
  have he : s.toList.isEmpty = false := empty_f hp
  have d1 : decide ((s.size : Int) < 1) = false := decide_eq_false (by omega)
  have d2 : decide ((12 : Int) < s.size) = false := decide_eq_false (by omega)
  by_cases c3 : 97 ≤ (s[0].toNat : Int)
  rotate_left
  · have hf := nameB_f2 hp (.inl (by omega))
    go_enter Try.func20, Try.ntmps20
    go_wp2
    all_goals
      go_ret
      exact ⟨rfl, rfl⟩
  have d3 : decide ((s[0].toNat : Int) < 97) = false := decide_eq_false (by omega)
  by_cases c4 : (s[0].toNat : Int) ≤ 122
  rotate_left
  · have hf := nameB_f2 hp (.inr (by omega))
    go_enter Try.func20, Try.ntmps20
    go_wp2
    all_goals
      go_ret
      exact ⟨rfl, rfl⟩
  have d4 : decide ((122 : Int) < s[0].toNat) = false := decide_eq_false (by omega)
  go_enter Try.func20, Try.ntmps20
  go_wp2
  go_loop [3] (fun i => ∃ k : Nat, k ≤ s.size ∧ i = .int .i64 k ∧ NmTo s k) (fun i => s.size - (intOf i).toNat)
  case atStart => exact ⟨1, by omega, rfl, nm_one hp c3 c4⟩
  case round =>
    obtain ⟨k, hk, rfl, hl⟩ := hrel
    have HL := Lib.hid hl
    clear hl
    by_cases hlt : k < s.size
    · have ok : Nmc (s[k].toNat : Int) → Hid (NmTo s (k + 1)) := fun h => Lib.hid (nm_succ hlt HL.out h)
      have no : ¬ Nmc (s[k].toNat : Int) → Hid (nameB s = false) := fun h => Lib.hid (nameB_f3 hlt h)
      rcases nm_parts (s[k].toNat : Int) with ⟨b1, b2⟩ | ⟨b1, b2⟩ | b1 | b1 | ⟨b1, b2⟩ | ⟨b1, b2⟩ | b1
      case inl =>
        have HS := ok (.inl ⟨b1, b2⟩)
        clear ok no
        go_wp2
        go_round
        case rel => exact ⟨k + 1, by omega, by go_num, HS.out⟩
        case measure => simp [intOf]; omega
      case inr.inl =>
        have HS := ok (.inr (.inl ⟨b1, b2⟩))
        clear ok no
        go_wp2
        go_round
        case rel => exact ⟨k + 1, by omega, by go_num, HS.out⟩
        case measure => simp [intOf]; omega
      case inr.inr.inl =>
        have HS := ok (.inr (.inr b1))
        have q1 : 45 ≤ (s[k].toNat : Int) := by omega
        have q2 : (s[k].toNat : Int) ≤ 45 := by omega
        have q3 : ((s[k].toNat : Int) != 45) = false := by simpa using b1
        clear ok no b1
        go_wp2
        go_round
        case rel => exact ⟨k + 1, by omega, by go_num, HS.out⟩
        case measure => simp [intOf]; omega
      all_goals
        have HS := no (by unfold Nmc; omega)
        have q3 : ((s[k].toNat : Int) != 45) = true := by simp only [bne_iff_ne]; omega
        try have q4 : decide ((s[k].toNat : Int) ≤ 57) = false := decide_eq_false (by omega)
        try have q5 : decide ((s[k].toNat : Int) ≤ 122) = false := decide_eq_false (by omega)
        clear ok no
        go_wp2
        go_ret
        exact ⟨ret_bool HS.out.symm, rfl⟩
    · have hf := nm_end (by omega) c1 c2 hp c3 c4 HL.out
      go_wp2
      go_ret
      exact ⟨rfl, rfl⟩
set_option maxHeartbeats 1600000 in
theorem lIsName_any (s : ByteArray) (w : World) (_hs : s.size ≤ maxLen) :
    Calls Try.prog 19 #[.string s] w fun e w' => e = .returned (.bool (nameB s)) ∧ w = w' := by
  by_cases c1 : 1 ≤ (s.size : Int)
  rotate_left
  · have hf := nameB_f1 (s := s) (.inl (by omega))
    have he : s.toList.isEmpty = true := empty_t (by omega)
    go_enter Try.func19, Try.ntmps19
    go_wp2
    go_ret
    exact ⟨rfl, rfl⟩
  by_cases c2 : (s.size : Int) ≤ 12
  rotate_left
  · have hf := nameB_f1 (s := s) (.inr (by omega))
    have he : s.toList.isEmpty = false := empty_f (by omega)
    go_enter Try.func19, Try.ntmps19
    go_wp2
    all_goals
      go_ret
      exact ⟨rfl, rfl⟩
  have hp : 0 < s.size := by omega
  have he : s.toList.isEmpty = false := empty_f hp
  have d1 : decide ((s.size : Int) < 1) = false := decide_eq_false (by omega)
  have d2 : decide ((12 : Int) < s.size) = false := decide_eq_false (by omega)
  by_cases c3 : 97 ≤ (s[0].toNat : Int)
  rotate_left
  · have hf := nameB_f2 hp (.inl (by omega))
    go_enter Try.func19, Try.ntmps19
    go_wp2
    all_goals
      go_ret
      exact ⟨rfl, rfl⟩
  have d3 : decide ((s[0].toNat : Int) < 97) = false := decide_eq_false (by omega)
  by_cases c4 : (s[0].toNat : Int) ≤ 122
  rotate_left
  · have hf := nameB_f2 hp (.inr (by omega))
    go_enter Try.func19, Try.ntmps19
    go_wp2
    all_goals
      go_ret
      exact ⟨rfl, rfl⟩
  have d4 : decide ((122 : Int) < s[0].toNat) = false := decide_eq_false (by omega)
  go_enter Try.func19, Try.ntmps19
  go_wp2
  go_loop [3] (fun i => ∃ k : Nat, k ≤ s.size ∧ i = .int .i64 k ∧ NmTo s k) (fun i => s.size - (intOf i).toNat)
  case atStart => exact ⟨0, by omega, rfl, nm_zero s⟩
  case round =>
    obtain ⟨k, hk, rfl, hl⟩ := hrel
    have HL := Lib.hid hl
    clear hl
    by_cases hlt : k < s.size
    · have ok : Nmc (s[k].toNat : Int) → Hid (NmTo s (k + 1)) := fun h => Lib.hid (nm_succ hlt HL.out h)
      have no : ¬ Nmc (s[k].toNat : Int) → Hid (nameB s = false) := fun h => Lib.hid (nameB_f3 hlt h)
      rcases nm_parts (s[k].toNat : Int) with ⟨b1, b2⟩ | ⟨b1, b2⟩ | b1 | b1 | ⟨b1, b2⟩ | ⟨b1, b2⟩ | b1
      case inl =>
        have HS := ok (.inl ⟨b1, b2⟩)
        clear ok no
        go_wp2
        go_round
        case rel => exact ⟨k + 1, by omega, by go_num, HS.out⟩
        case measure => simp [intOf]; omega
      case inr.inl =>
        have HS := ok (.inr (.inl ⟨b1, b2⟩))
        clear ok no
        go_wp2
        go_round
        case rel => exact ⟨k + 1, by omega, by go_num, HS.out⟩
        case measure => simp [intOf]; omega
      case inr.inr.inl =>
        have HS := ok (.inr (.inr b1))
        have q1 : 45 ≤ (s[k].toNat : Int) := by omega
        have q2 : (s[k].toNat : Int) ≤ 45 := by omega
        have q3 : ((s[k].toNat : Int) != 45) = false := by simpa using b1
        clear ok no b1
        go_wp2
        go_round
        case rel => exact ⟨k + 1, by omega, by go_num, HS.out⟩
        case measure => simp [intOf]; omega
      all_goals
        have HS := no (by unfold Nmc; omega)
        have q3 : ((s[k].toNat : Int) != 45) = true := by simp only [bne_iff_ne]; omega
        try have q4 : decide ((s[k].toNat : Int) ≤ 57) = false := decide_eq_false (by omega)
        try have q5 : decide ((s[k].toNat : Int) ≤ 122) = false := decide_eq_false (by omega)
        clear ok no
        go_wp2
        go_ret
        exact ⟨ret_bool HS.out.symm, rfl⟩
    · have hf := nm_end (by omega) c1 c2 hp c3 c4 HL.out
      go_wp2
      go_ret
      exact ⟨rfl, rfl⟩
theorem law_IsName (a0 : ByteArray) (w0 : a0.size ≤ maxLen) (w : World) :
    Calls Try.prog 6 #[.string a0] w fun e w' => e = .returned (.bool true) ∧ Below w.heap.size w w' := by
  go_enter Try.func6, Try.ntmps6
  go_wp2_with (first | (go_at_call 19; refine (lIsName_any _ _ w0).mono ?_; rintro e w' ⟨rfl, rfl⟩) | (go_at_call 20; refine (IsName_any _ _ w0).mono ?_; rintro e w' ⟨rfl, rfl⟩))
  all_goals
    go_ret
    exact ⟨rfl, Below.refl _ _⟩
end Go.Proofs.Ytcfdokoellcjiaa

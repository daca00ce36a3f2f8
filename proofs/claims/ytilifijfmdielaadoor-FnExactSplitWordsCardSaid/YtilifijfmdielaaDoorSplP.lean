/-
  PROVED HERE: plain facts about the parts of a text between bytes (no program is looked into). CONDITIONS: as each theorem names them.
-/
import Derived.Test.YtilifijfmdielaaDoorDecL
import Derived.Lib.SplitLaws
namespace Go.Proofs.YtilifijfmdielaaDoor
open Go.RowKit

/-- The parts of a text between bytes. -/
def spl (c : UInt8) : List UInt8 → List (List UInt8)
  | [] => [[]]
  | b :: r => if b = c then [] :: spl c r else match spl c r with
    | h :: t => (b :: h) :: t
    | [] => [[b]]
theorem spl_ne (c : UInt8) (l : List UInt8) : ∃ h t, spl c l = h :: t := by
  cases l with
  | nil => exact ⟨_, _, rfl⟩
  | cons b r =>
    unfold spl
    by_cases e : b = c
    · rw [if_pos e]; exact ⟨_, _, rfl⟩
    · rw [if_neg e]
      split <;> exact ⟨_, _, rfl⟩
theorem spl_eq (c : UInt8) (r : List UInt8) : spl c (c :: r) = [] :: spl c r := by rw [spl, if_pos rfl]
theorem spl_cons {b c : UInt8} (h : b ≠ c) {r : List UInt8} {x : List UInt8} {t : List (List UInt8)} (hr : spl c r = x :: t) : spl c (b :: r) = (b :: x) :: t := by rw [spl, if_neg h, hr]
/-- A first part is under way. -/
def spre (cur : List UInt8) : List (List UInt8) → List (List UInt8)
  | h :: t => (cur ++ h) :: t
  | [] => [cur]
theorem spre_nil (c : UInt8) (l : List UInt8) : spre [] (spl c l) = spl c l := by
  obtain ⟨h, t, e⟩ := spl_ne c l
  rw [e]; rfl
theorem spre_eq (c : UInt8) (cur r : List UInt8) : spre cur (spl c (c :: r)) = cur :: spl c r := by rw [spl_eq]; simp [spre]
theorem spre_cons {b c : UInt8} (hb : b ≠ c) (cur r : List UInt8) : spre cur (spl c (b :: r)) = spre (cur ++ [b]) (spl c r) := by
  obtain ⟨h, t, e⟩ := spl_ne c r
  rw [spl_cons hb e, e]
  simp [spre]
theorem idx_eq (c : UInt8) (l : List UInt8) : Lib.index (c :: l) [c] = 0 := by
  unfold Lib.index
  rw [if_pos (by simp)]
theorem idx_ne {b c : UInt8} (h : b ≠ c) (l : List UInt8) : Lib.index (b :: l) [c] = if Lib.index l [c] == -1 then -1 else Lib.index l [c] + 1 := by
  conv => lhs; unfold Lib.index
  rw [if_neg (by simp; exact fun e => h e.symm)]
theorem splitK_spl (c : UInt8) : ∀ (l : List UInt8) (k : Nat), l.count c ≤ k → Lib.splitK [c] 0 k l = spl c l := by
  intro l
  induction l with
  | nil => intro k _; cases k <;> rfl
  | cons b r ih =>
    intro k hk
    by_cases hb : b = c
    · subst hb
      rw [List.count_cons_self] at hk
      obtain ⟨k', rfl⟩ : ∃ k', k = k' + 1 := ⟨k - 1, by omega⟩
      rw [spl_eq, ← ih k' (by omega)]
      simp only [Lib.splitK, idx_eq]
      rfl
    · rw [List.count_cons_of_ne (by simpa using hb)] at hk
      cases k with
      | zero =>
        have h0 := ih 0 hk
        rw [spl_cons hb h0.symm]
        rfl
      | succ k' =>
        have h0 := ih (k' + 1) hk
        simp only [Lib.splitK, idx_ne hb]
        simp only [Lib.splitK] at h0
        by_cases hi : (Lib.index r [c] == -1) = true
        · rw [if_pos hi] at h0
          rw [spl_cons hb h0.symm, if_pos hi, if_pos (by decide)]
        · rw [if_neg hi] at h0
          have hge := Lib.index_ge r [c]
          have hne : Lib.index r [c] ≠ -1 := fun e => hi (by rw [e]; rfl)
          rw [spl_cons hb h0.symm, if_neg hi, if_neg (by simp; omega)]
          have e1 : (Lib.index r [c] + 1).toNat = (Lib.index r [c]).toNat + 1 := by omega
          rw [e1]
          simp only [Nat.add_zero, List.take_succ_cons, List.length_singleton, List.drop_succ_cons]
def mkB (l : List UInt8) : ByteArray := ⟨l.toArray⟩
theorem mkB_data (l : List UInt8) : (mkB l).data.toList = l := by simp [mkB]
theorem mkB_of (s : ByteArray) : mkB s.data.toList = s := by apply ByteArray.ext; simp [mkB]
/-- The parts, as texts. -/
def PB (c : UInt8) (s : ByteArray) : List ByteArray := (spl c s.data.toList).map mkB
theorem splitB_PB (c : UInt8) (s : ByteArray) : Lib.splitB ⟨#[c]⟩ 0 (Lib.countB s ⟨#[c]⟩) s = PB c s := by
  have h := Lib.splitB_data ⟨#[c]⟩ 0 (Lib.countB s ⟨#[c]⟩) s
  have hc : Lib.countB s ⟨#[c]⟩ = s.data.toList.count c := Lib.count_one c _
  rw [show (ByteArray.mk #[c]).data.toList = [c] from rfl, splitK_spl c _ _ (by rw [hc]; exact Nat.le_refl _)] at h
  unfold PB
  rw [← h, List.map_map]
  conv => lhs; rw [← List.map_id (Lib.splitB ⟨#[c]⟩ 0 (Lib.countB s ⟨#[c]⟩) s)]
  exact List.map_congr_left fun x _ => (mkB_of x).symm
theorem spl_len (c : UInt8) (l : List UInt8) : (spl c l).length ≤ l.length + 1 := by
  induction l with
  | nil => simp [spl]
  | cons b r ih =>
    by_cases hb : b = c
    · subst hb; rw [spl_eq, List.length_cons, List.length_cons]; omega
    · obtain ⟨h, t, e⟩ := spl_ne c r
      rw [e] at ih
      rw [spl_cons hb e]
      simp only [List.length_cons] at ih ⊢
      omega
theorem PB_len (c : UInt8) (s : ByteArray) : (PB c s).length ≤ s.size + 1 := by
  have := spl_len c s.data.toList
  unfold PB
  rw [List.length_map]
  have h : s.data.toList.length = s.size := by simp
  omega
end Go.Proofs.YtilifijfmdielaaDoor

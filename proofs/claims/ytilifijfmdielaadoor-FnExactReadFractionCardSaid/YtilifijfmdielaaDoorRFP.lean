/-
  PROVED HERE: plain facts about the fraction with a text (no program is looked into): the way by parts and the way by a cut agree. CONDITIONS: as each theorem names them.
-/
import Derived.Test.YtilifijfmdielaaDoorSplit
import Derived.Test.YtilifijfmdielaaDoorFrT
namespace Go.Proofs.YtilifijfmdielaaDoor
open Go.RowKit

/-- The fraction of a text, and whether there is one. -/
def rfT (l : List UInt8) : Int × Int × Bool := match spl 47 l with
  | [x] => if rdB x && vf (rdN x) 1 then (rdN x, 1, true) else (0, 0, false)
  | [x, y] => if rdB x && (rdB y && (rdN y != 1)) && vf (rdN x) (rdN y) then (rdN x, rdN y, true) else (0, 0, false)
  | _ => (0, 0, false)
theorem cut_spl (c : UInt8) : ∀ l : List UInt8, (spl c l = [l] ∧ Lib.index l [c] = -1) ∨ ∃ x rest, spl c l = x :: spl c rest ∧ l = x ++ c :: rest ∧ Lib.index l [c] = (x.length : Int)
  | [] => .inl ⟨rfl, rfl⟩
  | b :: r => by
    by_cases hb : b = c
    · subst hb
      exact .inr ⟨[], r, spl_eq _ _, rfl, idx_eq _ _⟩
    · rcases cut_spl c r with ⟨h1, h2⟩ | ⟨x, rest, h1, h2, h3⟩
      · exact .inl ⟨spl_cons hb h1, by rw [idx_ne hb, h2]; rfl⟩
      · refine .inr ⟨b :: x, rest, spl_cons hb h1, by rw [h2]; rfl, ?_⟩
        rw [idx_ne hb, h3, if_neg (by simp <;> omega), List.length_cons]
        omega
theorem itoa_no_slash {n : Int} : ∀ c ∈ Lib.itoa n, c ≠ 47 := by
  intro c hc e
  subst e
  rcases Int.lt_trichotomy n 0 with h | h | h
  · rw [itoa_neg h] at hc
    rcases List.mem_cons.1 hc with h1 | h1
    · exact absurd h1 (by decide)
    · have := dgs_digit _ _ h1; simp at this
  · subst h; rw [itoa_zero] at hc; simp at hc
  · rw [itoa_pos h] at hc
    have := dgs_digit _ _ hc; simp at this
theorem rdO_itoa {l : List UInt8} {n : Int} (h : rdO l = some n) : Lib.itoa n = l := by
  unfold rdO at h
  cases hv : numO l with
  | none => rw [hv] at h; cases h
  | some v =>
    rw [hv] at h
    simp only at h
    split at h
    · injection h with h; subst h; assumption
    · cases h
theorem rd_slash {l : List UInt8} (h : (47 : UInt8) ∈ l) : rdB l = false ∧ rdN l = 0 := by
  have : rdO l = none := by
    cases hr : rdO l with
    | none => rfl
    | some n =>
      have := rdO_itoa hr
      exact absurd rfl (itoa_no_slash (n := n) 47 (by rw [this]; exact h))
  simp [rdB, rdN, this]
theorem rd_t {l : List UInt8} (h : rdB l = true) : Lib.itoa (rdN l) = l ∧ l ≠ [] := by
  unfold rdB at h
  cases hr : rdO l with
  | none => rw [hr] at h; cases h
  | some n =>
    have e : rdN l = n := by simp [rdN, hr]
    rw [e]
    refine ⟨rdO_itoa hr, fun e2 => ?_⟩
    subst e2
    rw [show rdO [] = none from rfl] at hr
    cases hr
theorem rd_range (l : List UInt8) : -1000000000000000000 < rdN l ∧ rdN l < 1000000000000000000 := by
  unfold rdN
  cases hr : rdO l with
  | none => simp
  | some n => exact rdO_bd hr
theorem vf_one (n : Int) : vf n 1 = inB n (-1000000) 1000000 := by
  unfold vf
  have : G n 1 = 1 := by unfold G; simp
  rw [this]
  simp [inB]
/-- The text of a fraction, as bytes. -/
theorem frS_data (n d : Int) : (frS n d).data.toList = if vf n d then (if d = 1 then Lib.itoa n else Lib.itoa n ++ 47 :: Lib.itoa d) else [] := by
  unfold frS ftS
  split
  · split
    · simp
    · simp [ByteArray.data_append]
  · rfl
/-- The way by a cut, no slash. -/
theorem rf_one {l : List UInt8} (h : spl 47 l = [l]) : rfT l = if rdB l && decide (l ≠ []) && decide ((frS (rdN l) 1).data.toList = l) then (rdN l, 1, true) else (0, 0, false) := by
  unfold rfT
  rw [h]
  simp only
  cases hb : rdB l
  · simp
  · obtain ⟨h1, h2⟩ := rd_t hb
    have e : decide ((frS (rdN l) 1).data.toList = l) = vf (rdN l) 1 := by
      rw [frS_data]
      cases hv : vf (rdN l) 1
      · simp [Ne.symm h2]
      · simp [h1]
    rw [e]
    simp [h2]
/-- The way by a cut, a slash. -/
theorem rf_two {l x rest : List UInt8} (h : spl 47 l = x :: spl 47 rest) (hl : l = x ++ 47 :: rest) : rfT l = if rdB x && rdB rest && decide (l ≠ []) && decide ((frS (rdN x) (rdN rest)).data.toList = l) then (rdN x, rdN rest, true) else (0, 0, false) := by
  have hne : l ≠ [] := by rw [hl]; simp
  unfold rfT
  rw [h]
  rcases cut_spl 47 rest with ⟨h1, _⟩ | ⟨y, r2, h1, h2, _⟩
  · rw [h1]
    simp only
    cases hb : rdB x
    · simp
    · cases hr : rdB rest
      · simp
      · obtain ⟨i1, _⟩ := rd_t hb
        obtain ⟨i2, _⟩ := rd_t hr
        have e : decide ((frS (rdN x) (rdN rest)).data.toList = l) = ((rdN rest != 1) && vf (rdN x) (rdN rest)) := by
          rw [frS_data]
          cases hv : vf (rdN x) (rdN rest)
          · simp [Ne.symm hne]
          · by_cases hd : rdN rest = 1
            · simp only [hd, if_true]
              rw [i1, hl]
              simp
            · simp only [hd, if_true, if_false]
              rw [i1, i2, hl]
              simp [hd]
        rw [e]
        simp [hne]
  · obtain ⟨h3, t3, h4⟩ := spl_ne 47 r2
    rw [h1, h4]
    simp only
    have hs := (rd_slash (l := rest) (by rw [h2]; simp)).1
    rw [hs]
    simp
theorem cut_one {l : List UInt8} (h : Lib.index l [47] = -1) : Lib.cut l [47] = (l, [], false) := by
  unfold Lib.cut
  rw [if_neg (by rw [h]; decide)]
theorem cut_two {l x rest : List UInt8} (hl : l = x ++ 47 :: rest) (h : Lib.index l [47] = (x.length : Int)) : Lib.cut l [47] = (x, rest, true) := by
  unfold Lib.cut
  rw [if_pos (by rw [h]; omega), h, Int.toNat_natCast, List.length_singleton]
  subst hl
  rw [List.take_left]
  congr 2
  rw [List.drop_append, List.drop_of_length_le (by omega), List.nil_append, show x.length + 1 - x.length = 1 by omega]
  rfl
end Go.Proofs.YtilifijfmdielaaDoor

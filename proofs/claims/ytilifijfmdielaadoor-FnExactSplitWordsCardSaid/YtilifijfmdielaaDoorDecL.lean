/-
  PROVED HERE: plain facts about decimal numerals (no program is looked into): how the reference's loop spells a number, when a text reads as a number. CONDITIONS: as each theorem names them.
-/
import Derived.Test.YtilifijfmdielaaDoorBase
import Derived.Lib.ItoaNum
import Derived.Lib.ParseIntB
import Derived.Lib.Strings
namespace Go.Proofs.YtilifijfmdielaaDoor
open Go.RowKit

/-- The digits of a number, none for 0. -/
def dgs (u : Nat) : List UInt8 := if u = 0 then [] else Lib.decDigits u
theorem dgs_step {u : Nat} (h : u ≠ 0) : dgs u = dgs (u / 10) ++ [UInt8.ofNat (48 + u % 10)] := by
  unfold dgs
  rw [if_neg h, Lib.decDigits]
  by_cases h1 : u < 10
  · rw [dif_pos h1, if_pos (by omega), Nat.mod_eq_of_lt h1, List.nil_append]
  · rw [dif_neg h1, if_neg (by omega)]
theorem itoa_zero : Lib.itoa 0 = [48] := by
  unfold Lib.itoa
  rw [if_neg (by omega), Lib.decDigits, dif_pos (by decide)]
  rfl
theorem itoa_neg {n : Int} (h : n < 0) : Lib.itoa n = 45 :: dgs n.natAbs := by
  unfold Lib.itoa dgs
  rw [if_pos h, if_neg (by omega)]
theorem itoa_pos {n : Int} (h : 0 < n) : Lib.itoa n = dgs n.natAbs := by
  unfold Lib.itoa dgs
  rw [if_neg (by omega), if_neg (by omega), show n.toNat = n.natAbs by omega]
theorem dgs_len (k : Nat) : ∀ u, u < 10 ^ k → (dgs u).length ≤ k := by
  induction k with
  | zero => intro u h; have : u = 0 := by simpa using h
            subst this; simp [dgs]
  | succ k ih =>
    intro u h
    by_cases h0 : u = 0
    · subst h0; simp [dgs]
    · rw [dgs_step h0, List.length_append, List.length_singleton]
      have := ih (u / 10) (by rw [Nat.pow_succ] at h; omega)
      omega
theorem dgs_len20 {n : Int} (h1 : -9223372036854775808 ≤ n) (h2 : n ≤ 9223372036854775807) : (dgs n.natAbs).length ≤ 19 := dgs_len 19 _ (by omega)
theorem dgs_digit : ∀ u, ∀ c ∈ dgs u, 48 ≤ c.toNat ∧ c.toNat ≤ 57 := by
  intro u
  induction u using Nat.strongRecOn with
  | _ u ih =>
    by_cases h0 : u = 0
    · subst h0; intro c hc; simp [dgs] at hc
    · intro c hc
      rw [dgs_step h0] at hc
      rcases List.mem_append.1 hc with h | h
      · exact ih (u / 10) (by omega) c h
      · rw [List.mem_singleton] at h
        subst h
        rw [UInt8.toNat_ofNat']
        omega
theorem dgs_ne {u : Nat} (h : u ≠ 0) : dgs u ≠ [] := by rw [dgs_step h]; simp
/-- No numeral begins with a plus. -/
theorem itoa_no_plus (n : Int) (r : List UInt8) (c : UInt8) (h : Lib.itoa n = c :: r) : c.toNat ≠ 43 := by
  rcases Int.lt_trichotomy n 0 with h1 | h1 | h1
  · rw [itoa_neg h1] at h; injection h with h2 _; subst h2; decide
  · subst h1; rw [itoa_zero] at h; injection h with h2 _; subst h2; decide
  · rw [itoa_pos h1] at h
    have := dgs_digit n.natAbs c (by rw [h]; exact List.mem_cons_self)
    omega
/-- What digits spell; none at the first byte that is no digit. -/
def valO (acc : Nat) : List UInt8 → Option Nat
  | [] => some acc
  | c :: r => if 48 ≤ c.toNat ∧ c.toNat ≤ 57 then valO (acc * 10 + (c.toNat - 48)) r else none
theorem valO_lt : ∀ (l : List UInt8) (acc B v : Nat), acc < B → valO acc l = some v → v < B * 10 ^ l.length
  | [], acc, B, v, h, hv => by simp only [valO, Option.some.injEq] at hv; subst hv; simpa using h
  | c :: r, acc, B, v, h, hv => by
    simp only [valO] at hv
    split at hv
    · have := valO_lt r (acc * 10 + (c.toNat - 48)) (B * 10) v (by omega) hv
      rw [List.length_cons, Nat.pow_succ]
      calc v < B * 10 * 10 ^ r.length := this
        _ = B * (10 ^ r.length * 10) := by rw [Nat.mul_assoc, Nat.mul_comm 10]
    · cases hv
theorem parseM_val : ∀ (l : List UInt8) (acc k : Nat), acc < 10 ^ k → k + l.length ≤ 18 → Lib.parseUintM 18446744073709551615 acc l = match valO acc l with | some v => .ok v | none => Lib.parseMag []
  | [], acc, k, h, hk => rfl
  | c :: r, acc, k, h, hk => by
    rw [List.length_cons] at hk
    have hp : 10 ^ k ≤ 10 ^ 17 := Nat.pow_le_pow_right (by decide) (by omega)
    simp only [Lib.parseUintM, valO]
    by_cases hd : 48 ≤ c.toNat ∧ c.toNat ≤ 57
    · rw [if_pos hd, if_pos hd, if_neg (by omega), if_neg (by omega)]
      exact parseM_val r _ (k + 1) (by rw [Nat.pow_succ]; omega) (by omega)
    · rw [if_neg hd, if_neg hd]; rfl
/-- What stands behind a sign. -/
def tailS (s : List UInt8) : List UInt8 := match s with
  | [] => []
  | c :: r => if c = 45 then r else c :: r
/-- The number of a text of at most 18 digits, with a sign or none; none if there is none. -/
def numO (s : List UInt8) : Option Int :=
  if 1 ≤ (tailS s).length ∧ (tailS s).length ≤ 18 then
    match valO 0 (tailS s) with
    | none => none
    | some v => some (if (tailS s).length < s.length then -(v : Int) else (v : Int))
  else none
/-- The number with this decimal form. -/
def rdO (s : List UInt8) : Option Int := match numO s with
  | none => none
  | some n => if Lib.itoa n = s then some n else none
theorem tailS_eq (s : List UInt8) : Lib.trimPrefix s [45] = tailS s := by
  unfold Lib.trimPrefix tailS
  cases s with
  | nil => rfl
  | cons c r =>
    by_cases h : c = 45
    · subst h; simp [Lib.hasPrefix]
    · simp [Lib.hasPrefix, h, show ¬ (45 : UInt8) = c from fun e => h e.symm]
theorem tailS_len (s : List UInt8) : (tailS s).length ≤ s.length ∧ s.length ≤ (tailS s).length + 1 := by
  unfold tailS
  cases s with
  | nil => simp
  | cons c r => by_cases h : c = 45 <;> simp [h]
theorem numO_bd {s : List UInt8} {n : Int} (h : numO s = some n) : -1000000000000000000 < n ∧ n < 1000000000000000000 := by
  unfold numO at h
  split at h
  · rename_i hl
    cases hv : valO 0 (tailS s) with
    | none => rw [hv] at h; cases h
    | some v =>
      rw [hv] at h
      simp only [Option.some.injEq] at h
      have h1 := valO_lt _ 0 1 v (by decide) hv
      have h2 : 10 ^ (tailS s).length ≤ 10 ^ 18 := Nat.pow_le_pow_right (by decide) hl.2
      split at h <;> omega
  · cases h
theorem rdO_bd {s : List UInt8} {n : Int} (h : rdO s = some n) : -1000000000000000000 < n ∧ n < 1000000000000000000 := by
  unfold rdO at h
  cases hv : numO s with
  | none => rw [hv] at h; cases h
  | some v =>
    rw [hv] at h
    simp only at h
    split at h
    · injection h with h; subst h; exact numO_bd hv
    · cases h
/-- The program's way to the number: ParseInt, then the numeral again. -/
theorem rdO_parse {s : List UInt8} (hl : (tailS s).length ≤ 18) : rdO s = match Lib.parseIntB 64 s with
    | .ok v => if Lib.itoa v = s then some v else none
    | _ => none := by
  cases s with
  | nil => rfl
  | cons c r =>
    unfold rdO numO
    by_cases h45 : c = 45
    · subst h45
      have ht : tailS (45 :: r) = r := rfl
      rw [ht] at hl ⊢
      simp only [Lib.parseIntB]
      rw [if_pos (show UInt8.toNat 45 = 43 ∨ UInt8.toNat 45 = 45 from by decide)]
      unfold Lib.parseUintB
      by_cases hr : r = []
      · subst hr; rfl
      · rw [if_neg hr, show (2 ^ 64 - 1 : Nat) = 18446744073709551615 from rfl, parseM_val r 0 0 (by decide) (by omega)]
        have h1 : 1 ≤ r.length := by cases r with | nil => exact absurd rfl hr | cons _ _ => simp
        rw [if_pos ⟨h1, hl⟩]
        cases hv : valO 0 r with
        | none => rfl
        | some v =>
          have h2 := valO_lt _ 0 1 v (by decide) hv
          have h3 : 10 ^ r.length ≤ 10 ^ 18 := Nat.pow_le_pow_right (by decide) hl
          have e1 : (45 : UInt8).toNat = 45 := rfl
          simp only [e1, not_true_eq_false, false_and, if_false, true_and, List.length_cons, Nat.lt_succ_self, if_true]
          rw [if_neg (show ¬ 2 ^ (64 - 1) < v by omega)]
    · have hn : c.toNat ≠ 45 := fun e => h45 (UInt8.toNat_inj.1 (by rw [e]; rfl))
      have ht : tailS (c :: r) = c :: r := by simp [tailS, h45]
      rw [ht] at hl ⊢
      rw [if_pos ⟨by simp, hl⟩]
      simp only [Lib.parseIntB]
      by_cases h43 : c.toNat = 43
      · rw [if_pos (Or.inl h43)]
        have e1 : valO 0 (c :: r) = none := by simp only [valO]; rw [if_neg (by omega)]
        rw [e1]
        simp only
        split
        · rename_i v hv
          rw [if_neg (fun e => itoa_no_plus _ _ _ e h43)]
        · rfl
      · rw [if_neg (by omega)]
        unfold Lib.parseUintB
        rw [if_neg (by simp), show (2 ^ 64 - 1 : Nat) = 18446744073709551615 from rfl, parseM_val (c :: r) 0 0 (by decide) (by omega)]
        cases hv : valO 0 (c :: r) with
        | none => rfl
        | some v =>
          have h2 := valO_lt _ 0 1 v (by decide) hv
          have h3 : 10 ^ (c :: r).length ≤ 10 ^ 18 := Nat.pow_le_pow_right (by decide) hl
          simp only [hn, not_false_eq_true, true_and, false_and, if_false, Nat.lt_irrefl]
          rw [if_neg (show ¬ 2 ^ (64 - 1) ≤ v by omega)]
theorem rdO_long {s : List UInt8} (h : 18 < (tailS s).length) : rdO s = none := by
  unfold rdO numO
  rw [if_neg (by omega)]
end Go.Proofs.YtilifijfmdielaaDoor

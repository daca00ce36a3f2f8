/-
  PROVED HERE: contracts for MissedPictures: a list's member, the seen table. CONDITIONS: as each theorem names them.
-/
import Derived.Test.YtdmiieijflochaaOrd
namespace Go.Proofs.Ytdmiieijflochaa
open Go.RowKit

def hasB (xs : List Int) (x : Int) : Bool := xs.contains x
def HasNot (xs : List Int) (x : Int) (k : Nat) : Prop := ∀ j, j < k → xs.getD j 0 ≠ x
theorem hasNot_zero (xs : List Int) (x : Int) : HasNot xs x 0 := fun _ h => absurd h (by omega)
theorem hasNot_succ {xs : List Int} {x : Int} {k : Nat} (h : HasNot xs x k) (hk : xs.getD k 0 ≠ x) : HasNot xs x (k + 1) := fun j hj => by
  by_cases e : j = k
  · subst e; exact hk
  · exact h j (by omega)
theorem has_t {xs : List Int} {x : Int} {k : Nat} (hk : k < xs.length) (h : xs.getD k 0 = x) : hasB xs x = true := by
  unfold hasB
  rw [List.contains_iff_mem]
  have e : xs.getD k 0 = xs[k] := by simp [List.getD, hk]
  rw [← h, e]; exact List.getElem_mem hk
theorem has_f {xs : List Int} {x : Int} (h : HasNot xs x xs.length) : hasB xs x = false := by
  unfold hasB
  cases e : xs.contains x
  · rfl
  · rw [List.contains_iff_mem] at e
    obtain ⟨j, hj, rfl⟩ := List.mem_iff_getElem.1 e
    exact absurd (by simp [List.getD, hj]) (h j hj)
theorem l00Has_any (A : Option Addr) (n c : Nat) (xs : List Int) (x : Int) (w : World) (hn : n ≤ 1152921504606846976) (hA : RI w A n xs) :
    Calls Try.prog 62 #[.slice A n c, .int .i64 x] w fun e w' => e = .returned (.bool (hasB xs x)) ∧ w = w' := by
  have hl := hA.1
  have HA := Lib.hid hA
  have HL := Lib.hid hl
  clear hA hl
  go_enter Try.func62, Try.ntmps62
  go_wp2
  go_loop [5] (fun i => ∃ k : Nat, k ≤ n ∧ i = .int .i64 k ∧ HasNot xs x k) (fun i => n - (intOf i).toNat)
  case atStart => exact ⟨0, Nat.zero_le _, rfl, hasNot_zero _ _⟩
  case round =>
    obtain ⟨k, hk, rfl, hnot⟩ := hrel
    have HN := Lib.hid hnot
    clear hnot
    by_cases hlt : k < n
    · obtain ⟨b1, o1, rfl, h1⟩ := HA.out.at_ hlt
      obtain ⟨z, hz⟩ : ∃ z, z = xs.getD k 0 := ⟨_, rfl⟩
      rw [← hz] at h1
      have HZ := Lib.hid hz
      clear hz
      cases hx : (z == x)
      · have hs := hasNot_succ HN.out (by rw [← HZ.out]; simpa using hx)
        have HS := Lib.hid hs
        clear hs
        go_wp2
        go_round
        case rel => exact ⟨k + 1, by omega, by go_num, HS.out⟩
        case measure => simp [intOf]; omega
      · have hs := has_t (x := x) (by rw [HL.out]; exact hlt) (by rw [← HZ.out]; simpa using hx)
        have HS := Lib.hid hs
        clear hs
        go_wp2
        go_ret
        exact ⟨ret_bool HS.out.symm, rfl⟩
    · have hs := has_f (xs := xs) (x := x) (by rw [HL.out]; have : k = n := by omega
                                               rw [← this]; exact HN.out)
      have HS := Lib.hid hs
      clear hs
      go_wp2
      go_ret
      exact ⟨ret_bool HS.out.symm, rfl⟩
end Go.Proofs.Ytdmiieijflochaa

/-
  PROVED HERE: the laws' own helpers over slices of texts: marking, and looking the marks up again. CONDITIONS: as each theorem names them.
-/
import Derived.Test.YtilifijfmdielaaDoorWrdM
namespace Go.Proofs.YtilifijfmdielaaDoor
open Go.RowKit

/-- The marks. -/
def mkT (k : Nat) (n : Nat) : List ByteArray := (List.range n).map fun j => mt (k + j)
theorem mkT_getD (k n j : Nat) (h : j < n) : (mkT k n).getD j ByteArray.empty = mt (k + j) := by simp [mkT, List.getD, h]
def mkTx (xs : List Value) (k : Nat) : Nat → List Value
  | 0 => xs
  | i + 1 => (mkTx xs k i).set i (.string (mt (k + i)))
theorem mkTx_len (xs : List Value) (k : Nat) (i : Nat) : (mkTx xs k i).length = xs.length := by
  induction i with
  | zero => rfl
  | succ i ih => simp [mkTx, ih]
theorem mkTx_get (xs : List Value) (k : Nat) (i : Nat) : ∀ j, j < xs.length → (mkTx xs k i)[j]? = if j < i then some (.string (mt (k + j))) else xs[j]? := by
  induction i with
  | zero => intro j _; simp [mkTx]
  | succ i ih =>
    intro j hj
    simp only [mkTx, List.getElem?_set, mkTx_len, ih j hj]
    by_cases e : i = j
    · subst e; simp [hj]
    · rw [if_neg e]
      by_cases h : j < i
      · rw [if_pos h, if_pos (by omega)]
      · rw [if_neg h, if_neg (by omega)]
theorem mkTx_all (xs : List Value) (k : Nat) (n : Nat) (h : xs.length = n) : mkTx xs k n = (mkT k n).map Value.string := by
  apply List.ext_getElem?
  intro j
  by_cases hj : j < n
  · rw [mkTx_get xs k n j (by omega), if_pos hj]
    simp [mkT, hj]
  · rw [List.getElem?_eq_none (by rw [mkTx_len]; omega), List.getElem?_eq_none (by simp [mkT]; omega)]
theorem grown_below {w w' : World} {row : Option Nat} (h : Below w.heap.size w w') : w.grownBy w' row := ⟨h.os, h.tape, h.output, h.size, fun k hk _ => h.block k hk⟩
set_option maxHeartbeats 1000000 in
theorem markStringS_any (base : Nat) (A : Option Addr) (n c : Nat) (xs : List Value) (k0 : Nat) (w : World) (hk0 : 0 < k0) (hn : k0 + n ≤ 4194304) (hown : w.ownsRow base 9 1 (.slice A n c) n xs) :
    Calls Tryd.prog 21 #[.slice A n c, .int .i64 (k0 : Int)] w fun e w' => e = .returned (.int .i64 ((k0 : Int) + n)) ∧ w'.ownsRow base 9 1 (.slice A n c) n ((mkT k0 n).map Value.string) ∧ w.grownBy w' (Value.slice A n c).ownBlock := by
  have HO := Lib.hid hown
  have hl : xs.length = n := by simpa using hown.1
  have HL := Lib.hid hl
  have HN := Lib.hid hn
  have HK0 := Lib.hid hk0
  clear hown hl hn hk0
  go_enter Tryd.func21, Tryd.ntmps21
  go_wp2
  go_loopw [1, 5] (fun q i wr => ∃ k : Nat, k ≤ n ∧ i = .int .i64 k ∧ q = .int .i64 ((k0 : Int) + k) ∧ wr.ownsRow base 9 1 (.slice A n c) n (mkTx xs k0 k) ∧ w.grownBy wr (Value.slice A n c).ownBlock) (fun _ i _ => n - (intOf i).toNat)
  case atStart => exact ⟨0, Nat.zero_le _, rfl, by simp, HO.out, World.grownBy.refl _ _⟩
  case round =>
    obtain ⟨k, hk, rfl, rfl, ho, hg⟩ := hrel
    have HO2 := Lib.hid ho
    have HG := Lib.hid hg
    clear ho hg
    by_cases hlt : k < n
    · obtain ⟨g, cap, hv, _, _⟩ := HO2.out.form (by omega)
      obtain ⟨rfl, rfl⟩ : A = some ⟨g, 0, none⟩ ∧ c = cap := by injection hv; exact ⟨by assumption, by assumption⟩
      have hm := fun W => markText_any (k0 + k) W (by have := HK0.out; omega) (by have := HN.out; omega)
      rw [show ((k0 + k : Nat) : Int) = (k0 : Int) + (k : Int) by omega] at hm
      obtain ⟨M, hM⟩ : ∃ M, M = mt (k0 + k) := ⟨_, rfl⟩
      rw [← hM] at hm
      have HM := Lib.hid hM
      have CM := Lib.hid hm
      clear hm hM
      have hs1 : IntKind.i64.wrap ((k : Int) + 1) = (k : Int) + 1 := w64d (by omega) (by have := HN.out; omega)
      have hs2 : IntKind.i64.wrap ((k0 : Int) + (k : Int) + 1) = (k0 : Int) + (k : Int) + 1 := w64d (by omega) (by have := HN.out; omega)
      go_wp2_with fail
      refine (CM.out _).mono ?_
      rintro e w2 ⟨rfl, hb2⟩
      have HO3 := Lib.hid (own_below HO2.out hb2)
      have HG3 := Lib.hid (grown_trans HG.out (grown_below hb2))
      have hc := HO3.out.cellAt k (by omega)
      have hf := HO3.out.frozenAt k
      have hc2 : w2.cell? ⟨g, k, none⟩ = some ((mkTx xs k0 k)[k]'(by rw [mkTx_len, HL.out]; exact hlt)) := by rw [hc]; exact List.getElem?_eq_getElem _
      have hst := HO3.out.stored k (.string M)
      have HS := Lib.hid hst
      clear hst hc hb2
      go_wp2
      go_roundw
      case rel => exact ⟨k + 1, by omega, by go_num, by rw [show ((k + 1 : Nat) : Int) = (k : Int) + 1 by omega, ← Int.add_assoc], by rw [mkTx, ← HM.out]; exact HS.out.1, grown_trans HG3.out HS.out.2⟩
      case measure => simp [intOf]; omega
    · go_wp2
      go_ret
      have e : k = n := by omega
      subst e
      exact ⟨rfl, by rw [← mkTx_all xs k0 k HL.out]; exact HO2.out, HG.out⟩
set_option maxHeartbeats 1000000 in
theorem heldStringS_same (A : Option Addr) (n c : Nat) (k0 : Nat) (w : World) (hk0 : 0 < k0) (hn : k0 + n ≤ 4194304) (hA : RT w A n (mkT k0 n)) :
    Calls Tryd.prog 22 #[.slice A n c, .int .i64 (k0 : Int)] w fun e w' => e = .returned (.int .i64 ((k0 : Int) + n)) ∧ Below w.heap.size w w' := by
  have HA := Lib.hid hA
  have HN := Lib.hid hn
  have HK0 := Lib.hid hk0
  clear hA hn hk0
  go_enter Tryd.func22, Tryd.ntmps22
  go_wp2
  go_loopw [1, 5] (fun q i wr => ∃ k : Nat, k ≤ n ∧ i = .int .i64 k ∧ q = .int .i64 ((k0 : Int) + k) ∧ Below w.heap.size w wr) (fun _ i _ => n - (intOf i).toNat)
  case atStart => exact ⟨0, Nat.zero_le _, rfl, by simp, Below.refl _ _⟩
  case round =>
    obtain ⟨k, hk, rfl, rfl, hb⟩ := hrel
    have HB := Lib.hid hb
    clear hb
    by_cases hlt : k < n
    · obtain ⟨b1, o1, rfl, h1⟩ := (HA.out.below HB.out).at_ hlt
      rw [mkT_getD k0 n k hlt] at h1
      have hm := fun W => markText_any (k0 + k) W (by have := HK0.out; omega) (by have := HN.out; omega)
      rw [show ((k0 + k : Nat) : Int) = (k0 : Int) + (k : Int) by omega] at hm
      obtain ⟨M, hM⟩ : ∃ M, M = mt (k0 + k) := ⟨_, rfl⟩
      rw [← hM] at hm h1
      have CM := Lib.hid hm
      clear hm hM
      have hs1 : IntKind.i64.wrap ((k : Int) + 1) = (k : Int) + 1 := w64d (by omega) (by have := HN.out; omega)
      have hs2 : IntKind.i64.wrap ((k0 : Int) + (k : Int) + 1) = (k0 : Int) + (k : Int) + 1 := w64d (by omega) (by have := HN.out; omega)
      go_wp2_with fail
      have hB := HB.out
      have hl1 : b1 < wr.heap.size := World.block_lt_of_cell? _ _ h1
      go_region_held3 (fun w' => Below w.heap.size w w' ∧ w'.cell? ⟨b1, o1 + k, none⟩ = some (.string M)) (((try dsimp only); (refine ⟨?_, ?_⟩ <;> (first | (with_reducible assumption) | (refine bl_tr ?_ (by assumption); first | (with_reducible assumption) | (exact bl_drewN (by assumption) _)) | (exact bl_drewN (by assumption) _) | (refine bcell_of (by assumption) ?_; first | (with_reducible assumption) | (exact keepN (by assumption) _)) | (simp [go_sem, *]; done)))))
        (first | (go_at_call 36; refine (CM.out _).mono ?_; rintro e w2 ⟨rfl, hb2⟩))
      all_goals
        go_wp2
        go_roundw
        case rel => exact ⟨k + 1, by omega, by go_num, by rw [show ((k + 1 : Nat) : Int) = (k : Int) + 1 by omega, ← Int.add_assoc], by (repeat (first | exact Below.refl _ _ | assumption | refine bl_drewN ?_ _ | refine Below.drew ?_ | refine bl_al ?_ _ | (refine Below.setCell ?_ (by simp <;> omega) _) | refine bl_tr ?_ (by assumption)))⟩
        case measure => simp [intOf]; omega
    · go_wp2
      go_ret
      have e : k = n := by omega
      subst e
      exact ⟨rfl, HB.out⟩
end Go.Proofs.YtilifijfmdielaaDoor

/-
  PROVED HERE: the contract of slices.Clone at slices of int64 that are not empty. CONDITIONS: as each theorem names them.
-/
import Derived.Test.YticdilgnjnnaiaaCon
import Derived.Lib.SliceRun
namespace Go.Proofs.Yticdilgnjnnaiaa
open Go.RowKit

set_option maxHeartbeats 1000000 in
theorem Clone_any (b o n c : Nat) (xs : List Int) (w : World) (hn : n ≤ 1000) (hA : RI w (some ⟨b, o, none⟩) n xs) :
    Calls Try.prog 46 #[.slice (some ⟨b, o, none⟩) n c] w (SlR w.heap.size xs w) := by
  obtain ⟨i0, hi, hz0, hz1, hz2⟩ := info_parts info_int64
  have hl := hA.1
  have HL := Lib.hid hl
  have HA := Lib.hid hA
  have HO := Lib.hid (World.ownsRow_lit (e := 2) (size := 1) (base := w.heap.size) w #[] 0 (Nat.le_refl _) (Nat.zero_le _) (by simp))
  have q22 : ∀ (w : World) (a : Option Addr) (n c n' c' : Nat), (binOp .eql 22 (.slice a n c) (.slice none n' c')).run Try.prog w = .ok (.bool a.isNone) w := fun w a n c n' c' => Lib.run_eql_slice_nil w _ _ a n c n' c' Try.underlying22
  clear hA hl
  go_enter Try.func46, Try.ntmps46
  go_wp2_with (at_builtin; refine wpList_append_own _ rfl _ _ 22 rfl w.heap.size 2 i0 (.int .i64 0) 1 8 Try.underlying22 hi hz0 hz1 hz2 rfl (by decide) _ _ _ rfl HO.out ⟨b, o, none⟩ n c (xs.map (Value.int .i64)) rfl (by simp [HL.out]) (RI.news (HA.out.alloc _)) (ints_one _) (by unfold maxLen; omega) (by omega) (by simp) ?_; intro v' w2 hown' hgrow _)
  go_ret
  exact SlR.mk HL.out (by simpa using hown') (((Below.refl _ _).alloc (Nat.le_refl _) _).grown hgrow (by simp) (fun j hj => (HO.out.lt j hj).1))
end Go.Proofs.Yticdilgnjnnaiaa

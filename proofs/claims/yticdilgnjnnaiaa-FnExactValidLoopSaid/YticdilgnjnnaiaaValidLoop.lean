/-
  PROVED HERE: the walk of ValidLoop: the program and the reference agree. CONDITIONS: none beyond that the argument reads as a slice of int64.
-/
import Derived.Test.YticdilgnjnnaiaaLoop
namespace Go.Proofs.Yticdilgnjnnaiaa
open Go.RowKit

set_option maxHeartbeats 1000000 in
theorem law_ValidLoop (w : World) (A : Option Addr) (n c : Nat) (xs : List Int) (hA : RI w A n xs) :
    Calls Try.prog 3 #[.slice A n c] w fun e w' => e = .returned (.bool true) ∧ Below w.heap.size w w' := by
  by_cases hn : 1048576 < (n : Int)
  · clear hA
    go_enter Try.func3, Try.ntmps3
    go_wp2
    go_ret
    exact ⟨rfl, Below.refl _ _⟩
  have hl := hA.1
  have hn2 : xs.length ≤ 1152921504606846976 := by omega
  have HA := Lib.hid hA
  have HL := Lib.hid hl
  clear hA hl
  go_enter Try.func3, Try.ntmps3
  go_wp2_with fail
  refine (toInt64S_any A n c xs w (by omega) HA.out).mono ?_
  rintro e w1 ⟨A1, c1, rfl, own1, hb1⟩
  have R1 := Lib.hid (RI.of_own own1)
  have B1 := Lib.hid hb1
  have HA1 := Lib.hid (HA.out.below hb1)
  clear own1 hb1
  go_wp2_with (first | (go_at_call 34; refine (l05Ok_any _ _ _ xs _ hn2 R1.out).mono ?_; rintro e w' ⟨rfl, rfl⟩) | (go_at_call 11; go_in))
  refine (toInt64S_any A n c xs _ (by omega) HA1.out).mono ?_
  rintro e w2 ⟨A2, c2, rfl, own2, hb2⟩
  have R2 := Lib.hid (RI.of_own own2)
  have B2 := Lib.hid (bl_tr B1.out hb2)
  have HA2 := Lib.hid (HA1.out.below hb2)
  clear own2 hb2
  go_wp2_with fail
  refine (ValidLoop_any _ _ _ xs _ hn2 R2.out).mono ?_
  rintro e w' ⟨rfl, rfl⟩
  go_wp2_with fail
  refine (toInt64S_any A n c xs _ (by omega) HA2.out).mono ?_
  rintro e w3 ⟨A3, c3, rfl, own3, hb3⟩
  have R3 := Lib.hid (RI.of_own own3)
  have B3 := Lib.hid (bl_tr B2.out hb3)
  have R23 := Lib.hid (R2.out.below hb3)
  clear own3 hb3
  go_wp2_with fail
  refine (eqInt64S_same _ _ _ _ _ xs _ hn2 R23.out R3.out).mono ?_
  rintro e w' ⟨rfl, k1, rfl⟩
  go_wp2_with fail
  go_ret
  exact ⟨rfl, bl_drewN B3.out _⟩
end Go.Proofs.Yticdilgnjnnaiaa

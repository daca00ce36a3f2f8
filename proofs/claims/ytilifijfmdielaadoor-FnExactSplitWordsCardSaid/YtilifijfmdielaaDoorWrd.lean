/-
  PROVED HERE: the walk of the law FnExactSplitWords. CONDITIONS: the listed size variable is there.
-/
import Derived.Test.YtilifijfmdielaaDoorWrdI
import Derived.Test.YtilifijfmdielaaDoorWrdH
namespace Go.Proofs.YtilifijfmdielaaDoor
open Go.RowKit

set_option maxHeartbeats 2000000 in
theorem law_SplitWords (s : ByteArray) (_ws : s.size ≤ maxLen) (w : World) (hM : ∃ m, w.cell? ⟨3, 0, none⟩ = some (.int .i64 m)) :
    Calls Tryd.prog 7 #[.string s] w fun e w' => e = .returned (.bool true) ∧ Below w.heap.size w w' := by
  by_cases b0 : 1048576 < (s.size : Int)
  · have b0' : decide (1048576 < (s.size : Int)) = true := by simpa using b0
    clear hM
    go_enter Tryd.func7, Tryd.ntmps7
    go_wp2
    go_ret
    exact ⟨rfl, Below.refl _ _⟩
  have b0' : decide (1048576 < (s.size : Int)) = false := by simpa using b0
  have hsz : s.size ≤ 1048576 := by omega
  have C1 := Lib.hid (fun W => lSplitWords_any s W hsz)
  have C2 := Lib.hid (fun W h => SplitWords_any s W hsz h)
  have hn := WL_len s
  obtain ⟨L, hL⟩ : ∃ L, L = WL s := ⟨_, rfl⟩
  rw [← hL] at C1 C2 hn
  have hn2 : L.length ≤ 1048577 := by omega
  have hn3 : L.length ≤ 1152921504606846976 := by omega
  obtain ⟨mm, hm⟩ := hM
  have HM := Lib.hid hm
  have hmw : 3 < w.heap.size := World.block_lt_of_cell? _ _ hm
  clear hL hm
  go_enter Tryd.func7, Tryd.ntmps7
  go_wp2_with fail
  refine (C1.out _).mono ?_
  rintro e w1 ⟨A0, c0, rfl, own0, hb0⟩
  have T1 : Below w.heap.size w w1 := by
    repeat (first | exact Below.refl _ _ | assumption | refine bl_drewN ?_ _ | refine Below.drew ?_ | refine bl_al ?_ _ | (refine Below.setCell ?_ (by simp <;> omega) _) | refine bl_tr ?_ (by assumption))
  have R0 := Lib.hid (RT.of_own own0)
  have L0 := Lib.hid (own_lt own0)
  have U1 := Lib.hid T1
  have m1 := Lib.hid (bcell_of T1 HM.out)
  clear own0 hb0 T1
  go_wp2_with fail
  refine (C2.out _ ⟨mm, by first | exact m1.out | exact keepN m1.out _⟩).mono ?_
  rintro e w2 ⟨A1, c1, rfl, own1, hb1⟩
  have M1 := Lib.hid (show Below w1.heap.size w1 w2 from by
    repeat (first | exact Below.refl _ _ | assumption | refine bl_drewN ?_ _ | refine Below.drew ?_ | refine bl_al ?_ _ | (refine Below.setCell ?_ (by simp <;> omega) _) | refine bl_tr ?_ (by assumption)))
  have T2 : Below w.heap.size w w2 := bl_tr U1.out M1.out
  have OWN1 := Lib.hid own1
  have R1 := Lib.hid (RT.of_own own1)
  have R02 := Lib.hid (R0.out.below M1.out)
  have U2 := Lib.hid T2
  have LB := Lib.hid (show ∀ k, (Value.slice A1 L.length c1).ownBlock = some k → w1.heap.size ≤ k from fun k hk => Nat.le_trans (by first | exact Nat.le_refl _ | (simp; omega) | (simp; done)) (own1.lt k hk).1)
  clear own1 hb1 T2
  go_wp2_with fail
  refine (eqStringS_same _ _ _ _ _ L _ hn3 R1.out R02.out).mono ?_
  rintro e w' ⟨rfl, k1, rfl⟩
  go_wp2_with fail
  refine (markStringS_any _ _ _ _ _ 1 _ (by omega) (by omega) (own_drewN OWN1.out _)).mono ?_
  rintro e w3 ⟨rfl, own3, hg3⟩
  have R13 := Lib.hid (RT.of_own own3)
  have T3 : Below w.heap.size w w3 := (bl_drewN U2.out _).grown hg3 U2.out.size (fun k hk => Nat.le_trans U1.out.size (LB.out k hk))
  have R03 := Lib.hid (RT.grown (R02.out.drewN k1) (fun b off hA => (L0.out b off hA).2) hg3 (fun k hk => LB.out k hk))
  have U3 := Lib.hid T3
  clear own3 hg3 T3
  have p1 : (0 : Int) ≤ 1 + (L.length : Int) := by omega
  have p2 : (1 : Int) + (L.length : Int) ≤ 2000000 := by omega
  go_wp2_with fail
  refine (heldStringS_same _ _ _ 1 _ (by omega) (by omega) R13.out).mono ?_
  rintro e w4 ⟨rfl, hb4⟩
  have M4 := Lib.hid (show Below w3.heap.size w3 w4 from by
    repeat (first | exact Below.refl _ _ | assumption | refine bl_drewN ?_ _ | refine Below.drew ?_ | refine bl_al ?_ _ | (refine Below.setCell ?_ (by simp <;> omega) _) | refine bl_tr ?_ (by assumption)))
  have U4 := Lib.hid (bl_tr U3.out M4.out)
  have R04 := Lib.hid (R03.out.below M4.out)
  have R14 := Lib.hid (R13.out.below M4.out)
  have m4 := Lib.hid (bcell_of U4.out HM.out)
  clear hb4
  go_wp2_with fail
  refine (C2.out _ ⟨mm, by first | exact m4.out | exact keepN m4.out _⟩).mono ?_
  rintro e w5 ⟨A2, c2, rfl, own5, hb5⟩
  have M5 := Lib.hid (show Below w4.heap.size w4 w5 from by
    repeat (first | exact Below.refl _ _ | assumption | refine bl_drewN ?_ _ | refine Below.drew ?_ | refine bl_al ?_ _ | (refine Below.setCell ?_ (by simp <;> omega) _) | refine bl_tr ?_ (by assumption)))
  have U5 := Lib.hid (bl_tr U4.out M5.out)
  have R25 := Lib.hid (RT.of_own own5)
  have R05 := Lib.hid (R04.out.below M5.out)
  have R15 := Lib.hid (R14.out.below M5.out)
  clear own5 hb5
  go_wp2_with fail
  refine (eqStringS_same _ _ _ _ _ L _ hn3 R25.out R05.out).mono ?_
  rintro e w' ⟨rfl, k3, rfl⟩
  go_wp2_with fail
  refine (heldStringS_same _ _ _ 1 _ (by omega) (by omega) (R15.out.drewN k3)).mono ?_
  rintro e w6 ⟨rfl, hb6⟩
  go_wp2_with fail
  go_ret
  exact ⟨rfl, bl_tr (bl_drewN U5.out k3) hb6⟩
end Go.Proofs.YtilifijfmdielaaDoor

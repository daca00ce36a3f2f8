/-
  PROVED HERE: the walk of ReadFraction: the program and the reference agree. CONDITIONS: what the library's listed variables read as.
-/
import Derived.Test.YtilifijfmdielaaDoorRFI
namespace Go.Proofs.YtilifijfmdielaaDoor
open Go.RowKit

set_option maxHeartbeats 2000000 in
theorem law_ReadFraction (s : ByteArray) (_ws : s.size ≤ maxLen) (w : World) (htab : Tab w) (hE : ErrV w) (hM : ∃ m, w.cell? ⟨3, 0, none⟩ = some (.int .i64 m)) :
    Calls Tryd.prog 6 #[.string s] w fun e w' => e = .returned (.bool true) ∧ Below w.heap.size w w' := by
  by_cases b0 : 1048576 < (s.size : Int)
  · have b0' : decide (1048576 < (s.size : Int)) = true := by simpa using b0
    clear htab hE hM
    go_enter Tryd.func6, Tryd.ntmps6
    go_wp2
    go_ret
    exact ⟨rfl, Below.refl _ _⟩
  have b0' : decide (1048576 < (s.size : Int)) = false := by simpa using b0
  have HT := Lib.hid (tabB_of htab)
  have HE := Lib.hid hE
  have HM := Lib.hid hM
  have hsz : s.size ≤ 1048576 := by omega
  have c1 := fun W => lRF_any s W hsz
  have c2 := fun W (h : Tab W) (h' : ErrV W) h3 => RF_any s W hsz h h' h3
  obtain ⟨n, hn⟩ : ∃ n, n = (rfT s.data.toList).1 := ⟨_, rfl⟩
  obtain ⟨d, hd⟩ : ∃ n, n = (rfT s.data.toList).2.1 := ⟨_, rfl⟩
  obtain ⟨b, hb⟩ : ∃ b, b = (rfT s.data.toList).2.2 := ⟨_, rfl⟩
  rw [← hn, ← hd, ← hb] at c1 c2
  have C1 := Lib.hid c1
  have C2 := Lib.hid c2
  clear hn hd hb c1 c2 htab hE hM
  go_enter Tryd.func6, Tryd.ntmps6
  go_wp2_with fail
  refine (C1.out _).mono ?_
  rintro e w1 ⟨rfl, hb1⟩
  have HB1 := Lib.hid (show Below w.heap.size w w1 from by
    repeat (first | exact Below.refl _ _ | assumption | refine bl_drewN ?_ _ | refine Below.drew ?_ | refine bl_al ?_ _ | (refine Below.setCell ?_ (by simp <;> omega) _) | refine bl_tr ?_ (by assumption)))
  clear hb1
  go_wp2_with fail
  have HW := Lib.hid (show ∃ w', w' = w1 from ⟨_, rfl⟩)
  refine (C2.out _ (HT.out _ (by (have hB := HB1.out; repeat (first | exact Below.refl _ _ | assumption | refine bl_drewN ?_ _ | refine Below.drew ?_ | refine bl_al ?_ _ | (refine Below.setCell ?_ (by simp <;> omega) _) | refine bl_tr ?_ (by assumption))))) (HE.out.below (by (have hB := HB1.out; repeat (first | exact Below.refl _ _ | assumption | refine bl_drewN ?_ _ | refine Below.drew ?_ | refine bl_al ?_ _ | (refine Below.setCell ?_ (by simp <;> omega) _) | refine bl_tr ?_ (by assumption))))) (by obtain ⟨m, hm⟩ := HM.out; exact ⟨m, bcell_of (W := w) (by (have hB := HB1.out; repeat (first | exact Below.refl _ _ | assumption | refine bl_drewN ?_ _ | refine Below.drew ?_ | refine bl_al ?_ _ | (refine Below.setCell ?_ (by simp <;> omega) _) | refine bl_tr ?_ (by assumption)))) hm⟩)).mono ?_
  rintro e w2 ⟨rfl, hb2⟩
  have HB2 := Lib.hid (show Below w.heap.size w w2 from by
    have hB := HB1.out
    repeat (first | exact Below.refl _ _ | assumption | refine bl_drewN ?_ _ | refine Below.drew ?_ | refine bl_al ?_ _ | (refine Below.setCell ?_ (by simp <;> omega) _) | refine bl_tr ?_ (by assumption)))
  have y0 : w2.cell? ⟨w1.heap.size, 0, none⟩ = some (.int .i64 n) := bcell_of hb2 (by simp [go_sem])
  have y1 : w2.cell? ⟨w1.heap.size, 1, none⟩ = some (.int .i64 d) := bcell_of hb2 (by simp [go_sem])
  have yz : w1.heap.size < w2.heap.size := World.block_lt_of_cell? _ _ y0
  have yn : ¬ w1.heap.size = w2.heap.size := by omega
  clear hb2 HW
  go_wp2_with (go_at_call 17; refine (eqFraction_any _ _ _).mono ?_; rintro e w' ⟨rfl, o1, o2, k1, rfl⟩)
  go_ret
  refine ⟨rfl, ?_⟩
  have hB := HB2.out
  repeat (first | exact Below.refl _ _ | assumption | refine bl_drewN ?_ _ | refine Below.drew ?_ | refine bl_al ?_ _ | (refine Below.setCell ?_ (by simp <;> omega) _) | refine bl_tr ?_ (by assumption))
end Go.Proofs.YtilifijfmdielaaDoor

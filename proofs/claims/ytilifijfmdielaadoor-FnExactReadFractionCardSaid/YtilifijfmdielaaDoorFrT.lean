/-
  PROVED HERE: the walk of FractionText: the program and the reference agree. CONDITIONS: what the library's listed table reads as.
-/
import Derived.Test.YtilifijfmdielaaDoorNumI
import Derived.Test.YtilifijfmdielaaDoorFracA
namespace Go.Proofs.YtilifijfmdielaaDoor
open Go.RowKit

def ftS (n d : Int) : ByteArray := if d = 1 then ⟨(Lib.itoa n).toArray⟩ else (⟨(Lib.itoa n).toArray⟩ ++ ⟨#[47]⟩) ++ ⟨(Lib.itoa d).toArray⟩
def frS (n d : Int) : ByteArray := if vf n d then ftS n d else ⟨#[]⟩
theorem itoa_len {n : Int} (h1 : -9223372036854775808 ≤ n) (h2 : n ≤ 9223372036854775807) : (Lib.itoa n).length ≤ 20 := by
  have := dgs_len20 h1 h2
  rcases Int.lt_trichotomy n 0 with h | h | h
  · rw [itoa_neg h, List.length_cons]; omega
  · subst h; rw [itoa_zero]; decide
  · rw [itoa_pos h]; omega
theorem ft_parts {n d : Int} (hd : ¬ d = 1) (n1 : -1000000 ≤ n) (n2 : n ≤ 1000000) (d1 : 1 ≤ d) (d2 : d ≤ 1000000) : ∃ M E D F : ByteArray, F = ftS n d ∧ M = ⟨(Lib.itoa n).toArray⟩ ∧ D = ⟨(Lib.itoa d).toArray⟩ ∧ M ++ ⟨#[47]⟩ = E ∧ E ++ D = F ∧ M.size ≤ 20 ∧ E.size ≤ 21 ∧ D.size ≤ 20 := by
  have l1 := itoa_len (n := n) (by omega) (by omega)
  have l2 := itoa_len (n := d) (by omega) (by omega)
  have e1 : (ByteArray.mk (Lib.itoa n).toArray).size = (Lib.itoa n).length := by show (Lib.itoa n).toArray.size = _; simp
  have e2 : (ByteArray.mk (Lib.itoa d).toArray).size = (Lib.itoa d).length := by show (Lib.itoa d).toArray.size = _; simp
  have e3 : (ByteArray.mk #[47]).size = 1 := rfl
  have e4 : (ByteArray.mk (Lib.itoa n).toArray ++ ByteArray.mk #[47]).size = (Lib.itoa n).length + 1 := by rw [ByteArray.size_append, e1, e3]
  exact ⟨_, _, _, _, rfl, rfl, rfl, rfl, (if_neg hd).symm, by omega, by omega, by omega⟩
set_option maxHeartbeats 2000000 in
theorem l02Text_any (n d : Int) (w : World) (n1 : -1000000 ≤ n) (n2 : n ≤ 1000000) (d1 : 1 ≤ d) (d2 : d ≤ 1000000) :
    Calls Tryd.prog 29 #[.agg #[.int .i64 n, .int .i64 d]] w fun e w' => e = .returned (.string (ftS n d)) ∧ Below w.heap.size w w' := by
  by_cases hd : d = 1
  · subst hd
    have ef : ftS n 1 = ⟨(Lib.itoa n).toArray⟩ := if_pos rfl
    rw [ef]
    have C1 := Lib.hid (fun W => l01Dec_any n W (by omega) (by omega))
    go_enter Tryd.func29, Tryd.ntmps29
    go_wp2_with (go_at_call 23; refine (C1.out _).mono ?_; rintro e w1 ⟨rfl, hb1⟩)
    go_ret
    exact ⟨rfl, bl_tr (bl_al (Below.refl _ _) _) hb1⟩
  · obtain ⟨M, E, D, F, hF, hM, hD, hE1, hE2, z1, z2, z3⟩ := ft_parts hd n1 n2 d1 d2
    have hd1 : (d == 1) = false := by simpa using hd
    have c1 := fun W => l01Dec_any n W (by omega) (by omega)
    have c2 := fun W => l01Dec_any d W (by omega) (by omega)
    rw [← hF]
    rw [← hM] at c1
    rw [← hD] at c2
    have C1 := Lib.hid c1
    have C2 := Lib.hid c2
    have hs1 : ¬ (9223372036854775807 < M.size + 1) := by omega
    have hs2 : ¬ (9223372036854775807 < E.size + D.size) := by omega
    clear hF hM hD c1 c2
    go_enter Tryd.func29, Tryd.ntmps29
    go_wp2_with fail
    go_region_held3 (fun w' => w'.cell? ⟨w.heap.size, 0, none⟩ = some (.int .i64 n) ∧ w'.cell? ⟨w.heap.size, 1, none⟩ = some (.int .i64 d)) (((try dsimp only); (refine ⟨?_, ?_⟩ <;> (first | ((with_reducible (repeat (first | assumption | refine keepD ?_ | refine keepN ?_ _ | refine keepA ?_))); done) | (simp [go_sem]; done) | (refine bcell_of (by assumption) ?_; first | ((with_reducible (repeat (first | assumption | refine keepD ?_ | refine keepN ?_ _ | refine keepA ?_))); done) | (simp [go_sem]; done) | (refine bcell_of (by assumption) ?_; first | ((with_reducible (repeat (first | assumption | refine keepD ?_ | refine keepN ?_ _ | refine keepA ?_))); done) | (simp [go_sem]; done)))))))
      (first | (go_at_call 23; first | (with_reducible refine (C1.out _).mono ?_; rintro e w1 ⟨rfl, hb1⟩) | (with_reducible refine (C2.out _).mono ?_; rintro e w1 ⟨rfl, hb1⟩)))
    all_goals
      go_wp2
      go_ret
      refine ⟨rfl, ?_⟩
      repeat (first | exact Below.refl _ _ | assumption | refine bl_drewN ?_ _ | refine Below.drew ?_ | refine bl_al ?_ _ | (refine Below.setCell ?_ (by simp <;> omega) _) | refine bl_tr ?_ (by assumption))
set_option maxHeartbeats 2000000 in
theorem lFT_any (n d : Int) (w : World) :
    Calls Tryd.prog 12 #[.agg #[.int .i64 n, .int .i64 d]] w fun e w' => e = .returned (.string (frS n d)) ∧ Below w.heap.size w w' := by
  cases h0 : vf n d
  case false =>
    have e1 : frS n d = ⟨#[]⟩ := by simp [frS, h0]
    rw [e1]
    go_enter Tryd.func12, Tryd.ntmps12
    go_wp2_with (go_at_call 28; refine (l02Ok_any _ _ _).mono ?_; rintro e w' ⟨rfl, o1, k1, rfl⟩; simp only [h0])
    go_ret
    refine ⟨rfl, ?_⟩
    repeat (first | exact Below.refl _ _ | assumption | refine bl_drewN ?_ _ | refine Below.drew ?_ | refine bl_al ?_ _ | (refine Below.setCell ?_ (by simp <;> omega) _) | refine bl_tr ?_ (by assumption))
  have e1 : frS n d = ftS n d := by simp [frS, h0]
  obtain ⟨⟨d1, d2⟩, n1, n2⟩ := vf_t h0
  have c1 := fun W => l02Text_any n d W n1 n2 d1 d2
  obtain ⟨F, hF⟩ : ∃ F, F = ftS n d := ⟨_, rfl⟩
  rw [e1, ← hF]
  rw [← hF] at c1
  have C1 := Lib.hid c1
  clear hF e1 c1
  go_enter Tryd.func12, Tryd.ntmps12
  go_wp2_with (first | (go_at_call 28; refine (l02Ok_any _ _ _).mono ?_; rintro e w' ⟨rfl, o1, k1, rfl⟩; simp only [h0]) | (go_at_call 29; refine (C1.out _).mono ?_; rintro e w2 ⟨rfl, hb2⟩))
  go_ret
  refine ⟨rfl, ?_⟩
  repeat (first | exact Below.refl _ _ | assumption | refine bl_drewN ?_ _ | refine Below.drew ?_ | refine bl_al ?_ _ | (refine Below.setCell ?_ (by simp <;> omega) _) | refine bl_tr ?_ (by assumption))
theorem tab_keep {w : World} (h : TabB w.heap.size w) {w' : World} (hb : Below w.heap.size w w') : Tab w' := h _ hb
set_option maxHeartbeats 4000000 in
theorem FT_any (n d : Int) (w : World) (htab : Tab w) :
    Calls Tryd.prog 14 #[.agg #[.int .i64 n, .int .i64 d]] w fun e w' => e = .returned (.string (frS n d)) ∧ Below w.heap.size w w' := by
  have HT := Lib.hid (tabB_of htab)
  clear htab
  cases h0 : vf n d
  case false =>
    have e1 : frS n d = ⟨#[]⟩ := by simp [frS, h0]
    rw [e1]
    go_enter Tryd.func14, Tryd.ntmps14
    go_wp2_with (go_at_call 30; refine (ValidFraction_any _ _ _).mono ?_; rintro e w' ⟨rfl, o1, k1, rfl⟩; simp only [h0])
    go_ret
    refine ⟨rfl, ?_⟩
    repeat (first | exact Below.refl _ _ | assumption | refine bl_drewN ?_ _ | refine Below.drew ?_ | refine bl_al ?_ _ | (refine Below.setCell ?_ (by simp <;> omega) _) | refine bl_tr ?_ (by assumption))
  have e1 : frS n d = ftS n d := by simp [frS, h0]
  obtain ⟨⟨d1, d2⟩, n1, n2⟩ := vf_t h0
  rw [e1]
  clear e1
  by_cases hd : d = 1
  · subst hd
    have ef : ftS n 1 = ⟨(Lib.itoa n).toArray⟩ := if_pos rfl
    rw [ef]
    have C1 := Lib.hid (fun W (h : Tab W) => Decimal_any n W (by omega) (by omega) h)
    go_enter Tryd.func14, Tryd.ntmps14
    go_wp2_with (first | (go_at_call 30; refine (ValidFraction_any _ _ _).mono ?_; rintro e w' ⟨rfl, o1, k1, rfl⟩; simp only [h0]) | (go_at_call 9; refine (C1.out _ (tab_keep HT.out (by (repeat (first | exact Below.refl _ _ | assumption | refine bl_drewN ?_ _ | refine Below.drew ?_ | refine bl_al ?_ _ | (refine Below.setCell ?_ (by simp <;> omega) _) | refine bl_tr ?_ (by assumption)))))).mono ?_; rintro e w2 ⟨rfl, hb2⟩))
    go_ret
    refine ⟨rfl, ?_⟩
    repeat (first | exact Below.refl _ _ | assumption | refine bl_drewN ?_ _ | refine Below.drew ?_ | refine bl_al ?_ _ | (refine Below.setCell ?_ (by simp <;> omega) _) | refine bl_tr ?_ (by assumption))
  · obtain ⟨M, E, D, F, hF, hM, hD, hE1, hE2, z1, z2, z3⟩ := ft_parts hd n1 n2 d1 d2
    have hd1 : (d == 1) = false := by simpa using hd
    have c1 := fun W (h : Tab W) => Decimal_any n W (by omega) (by omega) h
    have c2 := fun W (h : Tab W) => Decimal_any d W (by omega) (by omega) h
    rw [← hF]
    rw [← hM] at c1
    rw [← hD] at c2
    have C1 := Lib.hid c1
    have C2 := Lib.hid c2
    have hs1 : ¬ (9223372036854775807 < M.size + 1) := by omega
    have hs2 : ¬ (9223372036854775807 < E.size + D.size) := by omega
    clear hF hM hD c1 c2
    go_enter Tryd.func14, Tryd.ntmps14
    go_wp2_with (go_at_call 30; refine (ValidFraction_any _ _ _).mono ?_; rintro e w' ⟨rfl, o1, k1, rfl⟩; simp only [h0])
    go_region_held3 (fun w' => w'.cell? ⟨w.heap.size, 0, none⟩ = some (.int .i64 n) ∧ w'.cell? ⟨w.heap.size, 1, none⟩ = some (.int .i64 d)) (((try dsimp only); (refine ⟨?_, ?_⟩ <;> (first | ((with_reducible (repeat (first | assumption | refine keepD ?_ | refine keepN ?_ _ | refine keepA ?_))); done) | (simp [go_sem]; done) | (refine bcell_of (by assumption) ?_; first | ((with_reducible (repeat (first | assumption | refine keepD ?_ | refine keepN ?_ _ | refine keepA ?_))); done) | (simp [go_sem]; done) | (refine bcell_of (by assumption) ?_; first | ((with_reducible (repeat (first | assumption | refine keepD ?_ | refine keepN ?_ _ | refine keepA ?_))); done) | (simp [go_sem]; done)))))))
      (first | (go_at_call 9; first | (with_reducible refine (C1.out _ ?_).mono ?_; rotate_left; (rintro e w1 ⟨rfl, hb1⟩); rotate_left; exact tab_keep HT.out (by (repeat (first | exact Below.refl _ _ | assumption | refine bl_drewN ?_ _ | refine Below.drew ?_ | refine bl_al ?_ _ | (refine Below.setCell ?_ (by simp <;> omega) _) | refine bl_tr ?_ (by assumption))))) | (with_reducible refine (C2.out _ ?_).mono ?_; rotate_left; (rintro e w1 ⟨rfl, hb1⟩); rotate_left; exact tab_keep HT.out (by (repeat (first | exact Below.refl _ _ | assumption | refine bl_drewN ?_ _ | refine Below.drew ?_ | refine bl_al ?_ _ | (refine Below.setCell ?_ (by simp <;> omega) _) | refine bl_tr ?_ (by assumption)))))))
    all_goals
      go_wp2
      go_ret
      refine ⟨rfl, ?_⟩
      repeat (first | exact Below.refl _ _ | assumption | refine bl_drewN ?_ _ | refine Below.drew ?_ | refine bl_al ?_ _ | (refine Below.setCell ?_ (by simp <;> omega) _) | refine bl_tr ?_ (by assumption))
set_option maxHeartbeats 2000000 in
theorem law_FractionText (n : Int) (_wn : (Lit.int .i64 n).wf = true) (d : Int) (_wd : (Lit.int .i64 d).wf = true) (w : World) (htab : Tab w) :
    Calls Tryd.prog 5 #[.agg #[.int .i64 n, .int .i64 d]] w fun e w' => e = .returned (.bool true) ∧ Below w.heap.size w w' := by
  have HT := Lib.hid (tabB_of htab)
  have c1 := fun W => lFT_any n d W
  have c2 := fun W (h : Tab W) => FT_any n d W h
  obtain ⟨F, hF⟩ : ∃ F, F = frS n d := ⟨_, rfl⟩
  rw [← hF] at c1 c2
  have C1 := Lib.hid c1
  have C2 := Lib.hid c2
  clear hF c1 c2 htab _wn _wd
  go_enter Tryd.func5, Tryd.ntmps5
  go_wp2_with (go_at_call 13; refine (toFraction_any _ _ _).mono ?_; rintro e w' ⟨rfl, o1, o2, o3, rfl⟩)
  refine (C1.out _).mono ?_
  rintro e w2 ⟨rfl, hb2⟩
  have g0 : w2.cell? ⟨w.heap.size, 0, none⟩ = some (.int .i64 n) := bcell_of hb2 (by simp [go_sem])
  have g1 : w2.cell? ⟨w.heap.size, 1, none⟩ = some (.int .i64 d) := bcell_of hb2 (by simp [go_sem])
  have HB2 := Lib.hid (show Below w.heap.size w w2 from by
    repeat (first | exact Below.refl _ _ | assumption | refine bl_drewN ?_ _ | refine Below.drew ?_ | refine bl_al ?_ _ | (refine Below.setCell ?_ (by simp <;> omega) _) | refine bl_tr ?_ (by assumption)))
  clear hb2
  go_wp2_with (go_at_call 13; refine (toFraction_any _ _ _).mono ?_; rintro e w' ⟨rfl, p1, p2, p3, rfl⟩)
  refine (C2.out _ (tab_keep HT.out (bl_al (bl_al (bl_al HB2.out _) _) _))).mono ?_
  rintro e w4 ⟨rfl, hb4⟩
  go_wp2
  go_ret
  exact ⟨rfl, bl_tr (bl_al (bl_al (bl_al HB2.out _) _) _) hb4⟩
end Go.Proofs.YtilifijfmdielaaDoor

/-
  PROVED HERE: the walk of SlitPlaces: the program and the reference agree. CONDITIONS: none beyond that each number is an int64.
-/
import Derived.Test.YtdmiieijflochaaPl
import Derived.Test.YtdmiieijflochaaDrum
namespace Go.Proofs.Ytdmiieijflochaa
open Go.RowKit

theorem own_base {w : World} {base base' e size n : Nat} {v : Value} {xs : List Value} (h : w.ownsRow base e size v n xs) (hb : base' ≤ base) : w.ownsRow base' e size v n xs := h.mono hb
def spK (a0 a1 a2 : Int) : Int := if vd a0 a1 a2 then 0 else 1
def spX (a0 a1 a2 : Int) : List Int := if vd a0 a1 a2 then plI a0 a2 a2.toNat else []
theorem spX_le (a0 a1 a2 : Int) : (spX a0 a1 a2).length ≤ 1000000 := by
  unfold spX
  split
  · rename_i h; have := vd_t h; rw [plI_len]; omega
  · simp
set_option maxHeartbeats 1000000 in
theorem SlitPlaces_any (a0 a1 a2 : Int) (w : World) :
    Calls Try.prog 23 #[.agg #[.int .i64 a0, .int .i64 a1, .int .i64 a2]] w (SlC w.heap.size (spX a0 a1 a2) (spK a0 a1 a2) w) := by
  cases h0 : vd a0 a1 a2
  case false =>
    have e1 : spX a0 a1 a2 = [] := by simp [spX, h0]
    have e2 : spK a0 a1 a2 = 1 := by simp [spK, h0]
    rw [e1, e2]
    clear e1 e2
    go_enter Try.func23, Try.ntmps23
    go_wp2_with (first | (go_at_call 46; refine (ValidDrum_any _ _ _ _).mono ?_; rintro e w' ⟨rfl, o1, rfl⟩) | (go_at_call 52; refine (l07Ok_any _ a0 a1 a2 _ (by simp [go_sem]) (by simp [go_sem]) (by simp [go_sem])).mono ?_; rintro e w' ⟨rfl, rfl⟩) | (go_at_call 47; refine (within_any _ _ _ _).mono ?_; rintro e w' ⟨rfl, rfl⟩) | (go_at_call 45; refine (l00In_any _ _ _ _).mono ?_; rintro e w' ⟨rfl, rfl⟩) | go_in)
    go_ret2
    exact SlC.none_ (by
      repeat (first | exact Below.refl _ _ | assumption | refine bl_drewN ?_ _ | refine Below.drew ?_ | refine bl_al ?_ _ | (refine Below.setCell ?_ (by simp <;> omega) _) | refine bl_tr ?_ (by assumption)))
  case true =>
    obtain ⟨⟨_, _⟩, ⟨_, _⟩, _, _⟩ := vd_t h0
    have e1 : spX a0 a1 a2 = plI a0 a2 (a2).toNat := by simp [spX, h0]
    have e2 : spK a0 a1 a2 = 0 := by simp [spK, h0]
    rw [e1, e2]
    clear e1 e2
    go_enter Try.func23, Try.ntmps23
    go_wp2_with (first | (go_at_call 54; refine (placesOf_any _ _ _ _ _ (by omega) (by omega) (by omega) (by omega)).mono ?_; rintro e w1 ⟨A, c, rfl, ho, hb⟩) | (first | (go_at_call 46; refine (ValidDrum_any _ _ _ _).mono ?_; rintro e w' ⟨rfl, o1, rfl⟩) | (go_at_call 52; refine (l07Ok_any _ a0 a1 a2 _ (by simp [go_sem]) (by simp [go_sem]) (by simp [go_sem])).mono ?_; rintro e w' ⟨rfl, rfl⟩) | (go_at_call 47; refine (within_any _ _ _ _).mono ?_; rintro e w' ⟨rfl, rfl⟩) | (go_at_call 45; refine (l00In_any _ _ _ _).mono ?_; rintro e w' ⟨rfl, rfl⟩) | go_in))
    go_ret2
    exact ⟨A, c, rfl, own_base ho (by simp <;> omega), by
      repeat (first | exact Below.refl _ _ | assumption | refine bl_drewN ?_ _ | refine Below.drew ?_ | refine bl_al ?_ _ | (refine Below.setCell ?_ (by simp <;> omega) _) | refine bl_tr ?_ (by assumption))⟩
set_option maxHeartbeats 1000000 in
theorem lSlitPlaces_any (a0 a1 a2 : Int) (w : World) :
    Calls Try.prog 22 #[.agg #[.int .i64 a0, .int .i64 a1, .int .i64 a2]] w (SlC w.heap.size (spX a0 a1 a2) (spK a0 a1 a2) w) := by
  cases h0 : vd a0 a1 a2
  case false =>
    have e1 : spX a0 a1 a2 = [] := by simp [spX, h0]
    have e2 : spK a0 a1 a2 = 1 := by simp [spK, h0]
    rw [e1, e2]
    clear e1 e2
    go_enter Try.func22, Try.ntmps22
    go_wp2_with (first | (go_at_call 46; refine (ValidDrum_any _ _ _ _).mono ?_; rintro e w' ⟨rfl, o1, rfl⟩) | (go_at_call 52; refine (l07Ok_any _ a0 a1 a2 _ (by simp [go_sem]) (by simp [go_sem]) (by simp [go_sem])).mono ?_; rintro e w' ⟨rfl, rfl⟩) | (go_at_call 47; refine (within_any _ _ _ _).mono ?_; rintro e w' ⟨rfl, rfl⟩) | (go_at_call 45; refine (l00In_any _ _ _ _).mono ?_; rintro e w' ⟨rfl, rfl⟩) | go_in)
    go_ret2
    exact SlC.none_ (by
      repeat (first | exact Below.refl _ _ | assumption | refine bl_drewN ?_ _ | refine Below.drew ?_ | refine bl_al ?_ _ | (refine Below.setCell ?_ (by simp <;> omega) _) | refine bl_tr ?_ (by assumption)))
  case true =>
    obtain ⟨⟨_, _⟩, ⟨_, _⟩, _, _⟩ := vd_t h0
    have e1 : spX a0 a1 a2 = plI a0 a2 (a2).toNat := by simp [spX, h0]
    have e2 : spK a0 a1 a2 = 0 := by simp [spK, h0]
    rw [e1, e2]
    clear e1 e2
    go_enter Try.func22, Try.ntmps22
    go_wp2_with (first | (go_at_call 53; refine (l07Places_any _ a0 _ _ (by simp [go_sem]) (by omega) (by omega) (by omega) (by omega)).mono ?_; rintro e w1 ⟨A, c, rfl, ho, hb⟩) | (first | (go_at_call 46; refine (ValidDrum_any _ _ _ _).mono ?_; rintro e w' ⟨rfl, o1, rfl⟩) | (go_at_call 52; refine (l07Ok_any _ a0 a1 a2 _ (by simp [go_sem]) (by simp [go_sem]) (by simp [go_sem])).mono ?_; rintro e w' ⟨rfl, rfl⟩) | (go_at_call 47; refine (within_any _ _ _ _).mono ?_; rintro e w' ⟨rfl, rfl⟩) | (go_at_call 45; refine (l00In_any _ _ _ _).mono ?_; rintro e w' ⟨rfl, rfl⟩) | go_in))
    go_ret2
    exact ⟨A, c, rfl, own_base ho (by simp <;> omega), by
      repeat (first | exact Below.refl _ _ | assumption | refine bl_drewN ?_ _ | refine Below.drew ?_ | refine bl_al ?_ _ | (refine Below.setCell ?_ (by simp <;> omega) _) | refine bl_tr ?_ (by assumption))⟩
set_option maxHeartbeats 2000000 in
theorem law_SlitPlaces (a0 : Int) (_wa0 : (Lit.int .i64 a0).wf = true) (a1 : Int) (_wa1 : (Lit.int .i64 a1).wf = true) (a2 : Int) (_wa2 : (Lit.int .i64 a2).wf = true) (w : World) :
    Calls Try.prog 6 #[.agg #[.int .i64 a0, .int .i64 a1, .int .i64 a2]] w fun e w' => e = .returned (.bool true) ∧ Below w.heap.size w w' := by
  have hn := spX_le a0 a1 a2
  have hn2 : (spX a0 a1 a2).length ≤ 1152921504606846976 := by omega
  go_enter Try.func6, Try.ntmps6
  go_wp2_with (first | (go_at_call 16; refine (toDrum_any _ _ _ _).mono ?_; rintro e w' ⟨rfl, o1, o2, o3, rfl⟩) | fail)
  refine (lSlitPlaces_any _ _ _ _).mono ?_
  rintro e w1 ⟨A0, c0, rfl, own0, hb0⟩
  have T1 : Below w.heap.size w w1 := by
    repeat (first | exact Below.refl _ _ | assumption | refine bl_drewN ?_ _ | refine Below.drew ?_ | refine bl_al ?_ _ | (refine Below.setCell ?_ (by simp <;> omega) _) | refine bl_tr ?_ (by assumption))
  have f0 : w1.cell? ⟨w.heap.size, 0, none⟩ = some (.int .i64 a0) := bcell_of hb0 (by first | (with_reducible assumption) | (simp [go_sem]; done) | (with_reducible (repeat (first | assumption | refine keepD ?_ | refine keepN ?_ _ | refine keepA ?_))))
  have f1 : w1.cell? ⟨w.heap.size, 1, none⟩ = some (.int .i64 a1) := bcell_of hb0 (by first | (with_reducible assumption) | (simp [go_sem]; done) | (with_reducible (repeat (first | assumption | refine keepD ?_ | refine keepN ?_ _ | refine keepA ?_))))
  have f2 : w1.cell? ⟨w.heap.size, 2, none⟩ = some (.int .i64 a2) := bcell_of hb0 (by first | (with_reducible assumption) | (simp [go_sem]; done) | (with_reducible (repeat (first | assumption | refine keepD ?_ | refine keepN ?_ _ | refine keepA ?_))))
  have q1 : w.heap.size < w1.heap.size := World.block_lt_of_cell? w1 _ f0
  have OWN0 := Lib.hid own0
  have R0 := Lib.hid (RI.of_own own0)
  have L0 := Lib.hid (own_lt own0)
  have U1 := Lib.hid T1
  clear own0 hb0 T1
  go_wp2_with (first | (go_at_call 16; refine (toDrum_any _ _ _ _).mono ?_; rintro e w' ⟨rfl, o1, o2, o3, rfl⟩) | fail)
  refine (SlitPlaces_any _ _ _ _).mono ?_
  rintro e w2 ⟨A1, c1, rfl, own1, hb1⟩
  have M1 := Lib.hid (show Below w1.heap.size w1 w2 from by
    repeat (first | exact Below.refl _ _ | assumption | refine bl_drewN ?_ _ | refine Below.drew ?_ | refine bl_al ?_ _ | (refine Below.setCell ?_ (by simp <;> omega) _) | refine bl_tr ?_ (by assumption)))
  have T2 : Below w.heap.size w w2 := bl_tr U1.out M1.out
  have g0 : w2.cell? ⟨w.heap.size, 0, none⟩ = some (.int .i64 a0) := bcell_of hb1 (by first | (with_reducible assumption) | (simp [go_sem]; done) | (with_reducible (repeat (first | assumption | refine keepD ?_ | refine keepN ?_ _ | refine keepA ?_))))
  have g1 : w2.cell? ⟨w.heap.size, 1, none⟩ = some (.int .i64 a1) := bcell_of hb1 (by first | (with_reducible assumption) | (simp [go_sem]; done) | (with_reducible (repeat (first | assumption | refine keepD ?_ | refine keepN ?_ _ | refine keepA ?_))))
  have g2 : w2.cell? ⟨w.heap.size, 2, none⟩ = some (.int .i64 a2) := bcell_of hb1 (by first | (with_reducible assumption) | (simp [go_sem]; done) | (with_reducible (repeat (first | assumption | refine keepD ?_ | refine keepN ?_ _ | refine keepA ?_))))
  have q2 : w.heap.size < w2.heap.size := World.block_lt_of_cell? w2 _ g0
  have OWN1 := Lib.hid own1
  have R1 := Lib.hid (RI.of_own own1)
  have R02 := Lib.hid (R0.out.below M1.out)
  have U2 := Lib.hid T2
  have LB := Lib.hid (show ∀ k, (Value.slice A1 (spX a0 a1 a2).length c1).ownBlock = some k → w1.heap.size ≤ k from fun k hk => Nat.le_trans (by first | exact Nat.le_refl _ | (simp; omega) | (simp; done)) (own1.lt k hk).1)
  clear own1 hb1 T2
  go_wp2_with fail
  refine (eqInt64S_same _ _ _ _ _ (spX a0 a1 a2) _ hn2 R1.out R02.out).mono ?_
  rintro e w' ⟨rfl, k1, rfl⟩
  go_wp2_with fail
  refine (markInt64S_any _ _ _ _ _ 1 _ hn2 (by omega) (by omega) (own_drewN OWN1.out _)).mono ?_
  rintro e w3 ⟨rfl, own3, hg3⟩
  have R13 := Lib.hid (RI.of_own own3)
  have T3 : Below w.heap.size w w3 := (bl_drewN U2.out _).grown hg3 U2.out.size (fun k hk => Nat.le_trans U1.out.size (LB.out k hk))
  have R03 := Lib.hid (RI.grown (R02.out.drewN k1) (fun b off hA => (L0.out b off hA).2) hg3 (fun k hk => LB.out k hk))
  have h0 : w3.cell? ⟨w.heap.size, 0, none⟩ = some (.int .i64 a0) := hg3.cell (a := ⟨w.heap.size, 0, none⟩) (w := w2.drewN k1) g0 (fun e1 => by have hx : w1.heap.size ≤ w.heap.size := LB.out _ e1.symm; omega)
  have h1 : w3.cell? ⟨w.heap.size, 1, none⟩ = some (.int .i64 a1) := hg3.cell (a := ⟨w.heap.size, 1, none⟩) (w := w2.drewN k1) g1 (fun e1 => by have hx : w1.heap.size ≤ w.heap.size := LB.out _ e1.symm; omega)
  have h2 : w3.cell? ⟨w.heap.size, 2, none⟩ = some (.int .i64 a2) := hg3.cell (a := ⟨w.heap.size, 2, none⟩) (w := w2.drewN k1) g2 (fun e1 => by have hx : w1.heap.size ≤ w.heap.size := LB.out _ e1.symm; omega)
  have q3 : w.heap.size < w3.heap.size := World.block_lt_of_cell? w3 _ h0
  have U3 := Lib.hid T3
  clear own3 hg3 T3
  have p1 : (0 : Int) ≤ 1 + ((spX a0 a1 a2).length : Int) := by omega
  have p2 : (1 : Int) + ((spX a0 a1 a2).length : Int) ≤ 2000000 := by omega
  go_wp2_with fail
  refine (heldInt64S_same _ _ _ 1 _ hn2 (by omega) (by omega) R13.out).mono ?_
  rintro e w' ⟨rfl, k2, rfl⟩
  go_wp2_with (first | (go_at_call 16; refine (toDrum_any _ _ _ _).mono ?_; rintro e w' ⟨rfl, o1, o2, o3, rfl⟩) | fail)
  refine (SlitPlaces_any _ _ _ _).mono ?_
  rintro e w4 ⟨A2, c2, rfl, own4, hb4⟩
  have M3 := Lib.hid (show Below w3.heap.size w3 w4 from by
    repeat (first | exact Below.refl _ _ | assumption | refine bl_drewN ?_ _ | refine Below.drew ?_ | refine bl_al ?_ _ | (refine Below.setCell ?_ (by simp <;> omega) _) | refine bl_tr ?_ (by assumption)))
  have U4 := Lib.hid (bl_tr U3.out M3.out)
  have R24 := Lib.hid (RI.of_own own4)
  have R04 := Lib.hid (R03.out.below M3.out)
  have R14 := Lib.hid (R13.out.below M3.out)
  clear own4 hb4
  go_wp2_with fail
  refine (eqInt64S_same _ _ _ _ _ (spX a0 a1 a2) _ hn2 R24.out R04.out).mono ?_
  rintro e w' ⟨rfl, k3, rfl⟩
  go_wp2_with fail
  refine (heldInt64S_same _ _ _ 1 _ hn2 (by omega) (by omega) (R14.out.drewN k3)).mono ?_
  rintro e w' ⟨rfl, k4, rfl⟩
  go_wp2_with fail
  go_ret
  exact ⟨rfl, bl_drewN U4.out _⟩
end Go.Proofs.Ytdmiieijflochaa

/-
  PROVED HERE: the walks of WidestPicture, StripsFrom and PiecesFor: the program and the reference agree. CONDITIONS: none beyond that each number is an int64.
-/
import Derived.Test.YtdmiieijflochaaDrum
namespace Go.Proofs.Ytdmiieijflochaa
open Go.RowKit

theorem dmul_bd (x y A B : Int) (hx : 0 ≤ x) (h2 : x ≤ A) (h3 : 0 ≤ y) (h4 : y ≤ B) : 0 ≤ x * y ∧ x * y ≤ A * B := by
  have e1 : x * y ≤ A * y := Int.mul_le_mul_of_nonneg_right h2 h3
  have e2 : A * y ≤ A * B := Int.mul_le_mul_of_nonneg_left h4 (by omega)
  exact ⟨Int.mul_nonneg hx h3, by omega⟩
theorem l07High_any (b : Nat) (h : Int) (w : World) (c1 : w.cell? ⟨b, 1, none⟩ = some (.int .i64 h)) (h1 : 0 ≤ h) (h2 : h ≤ 1000) :
    Calls Try.prog 50 #[.pointer (some ⟨b, 0, none⟩)] w fun e w' => e = .returned (.int .i64 (h / 2)) ∧ w = w' := by
  go_enter Try.func50, Try.ntmps50
  go_wp2
  go_ret
  exact ⟨rfl, rfl⟩
theorem l07Long_any (b : Nat) (r g : Int) (w : World) (c0 : w.cell? ⟨b, 0, none⟩ = some (.int .i64 r)) (h1 : 0 ≤ r) (h2 : r ≤ 10000) (h3 : 0 ≤ g) (h4 : g ≤ 100) :
    Calls Try.prog 49 #[.pointer (some ⟨b, 0, none⟩), .int .i64 g] w fun e w' => e = .returned (.int .i64 (r + g)) ∧ w = w' := by
  go_enter Try.func49, Try.ntmps49
  go_wp2
  go_ret
  exact ⟨rfl, rfl⟩
theorem ddiv_bd (x y : Int) (hx : 0 ≤ x) (hy : 0 ≤ y) : 0 ≤ x / y ∧ x / y ≤ x := ⟨Int.ediv_nonneg hx hy, Int.ediv_le_self _ hx⟩
set_option maxHeartbeats 2000000 in
theorem law_WidestPicture (a0 : Int) (_wa0 : (Lit.int .i64 a0).wf = true) (a1 : Int) (_wa1 : (Lit.int .i64 a1).wf = true) (a2 : Int) (_wa2 : (Lit.int .i64 a2).wf = true) (x : Int) (_wx : (Lit.int .i64 x).wf = true) (y : Int) (_wy : (Lit.int .i64 y).wf = true) (w : World) :
    Calls Try.prog 3 #[.agg #[.int .i64 a0, .int .i64 a1, .int .i64 a2], .int .i64 x, .int .i64 y] w fun e w' => e = .returned (.bool true) ∧ Below w.heap.size w w' := by
  cases h0 : vd a0 a1 a2
  case false =>
    go_enter Try.func3, Try.ntmps3
    go_wp2_with (first | (go_at_call 16; refine (toDrum_any _ _ _ _).mono ?_; rintro e w' ⟨rfl, o1, o2, o3, rfl⟩) | (go_at_call 46; refine (ValidDrum_any _ _ _ _).mono ?_; rintro e w' ⟨rfl, o1, rfl⟩) | (go_at_call 52; refine (l07Ok_any _ a0 a1 a2 _ (by simp [go_sem]) (by simp [go_sem]) (by simp [go_sem])).mono ?_; rintro e w' ⟨rfl, rfl⟩) | (go_at_call 47; refine (within_any _ _ _ _).mono ?_; rintro e w' ⟨rfl, rfl⟩) | (go_at_call 45; refine (l00In_any _ _ _ _).mono ?_; rintro e w' ⟨rfl, rfl⟩) | go_quiet (fail) | go_in)
    all_goals
      go_ret
      refine ⟨rfl, ?_⟩
      repeat (first | exact Below.refl _ _ | assumption | refine bl_drewN ?_ _ | refine Below.drew ?_ | refine bl_al ?_ _ | (refine Below.setCell ?_ (by simp <;> omega) _) | refine bl_tr ?_ (by assumption))
  case true =>
    cases h1 : inB x 1 48
    case false =>
      obtain ⟨⟨_, _⟩, ⟨_, _⟩, _, _⟩ := vd_t h0
      go_enter Try.func3, Try.ntmps3
      go_wp2_with (first | (go_at_call 16; refine (toDrum_any _ _ _ _).mono ?_; rintro e w' ⟨rfl, o1, o2, o3, rfl⟩) | (go_at_call 46; refine (ValidDrum_any _ _ _ _).mono ?_; rintro e w' ⟨rfl, o1, rfl⟩) | (go_at_call 52; refine (l07Ok_any _ a0 a1 a2 _ (by simp [go_sem]) (by simp [go_sem]) (by simp [go_sem])).mono ?_; rintro e w' ⟨rfl, rfl⟩) | (go_at_call 47; refine (within_any _ _ _ _).mono ?_; rintro e w' ⟨rfl, rfl⟩) | (go_at_call 45; refine (l00In_any _ _ _ _).mono ?_; rintro e w' ⟨rfl, rfl⟩) | go_quiet (fail) | go_in)
      all_goals
        go_ret
        refine ⟨rfl, ?_⟩
        repeat (first | exact Below.refl _ _ | assumption | refine bl_drewN ?_ _ | refine Below.drew ?_ | refine bl_al ?_ _ | (refine Below.setCell ?_ (by simp <;> omega) _) | refine bl_tr ?_ (by assumption))
    case true =>
      cases h2 : inB y 0 10000
      case false =>
        obtain ⟨⟨_, _⟩, ⟨_, _⟩, _, _⟩ := vd_t h0
        obtain ⟨_, _⟩ := inB_t h1
        go_enter Try.func3, Try.ntmps3
        go_wp2_with (first | (go_at_call 16; refine (toDrum_any _ _ _ _).mono ?_; rintro e w' ⟨rfl, o1, o2, o3, rfl⟩) | (go_at_call 46; refine (ValidDrum_any _ _ _ _).mono ?_; rintro e w' ⟨rfl, o1, rfl⟩) | (go_at_call 52; refine (l07Ok_any _ a0 a1 a2 _ (by simp [go_sem]) (by simp [go_sem]) (by simp [go_sem])).mono ?_; rintro e w' ⟨rfl, rfl⟩) | (go_at_call 47; refine (within_any _ _ _ _).mono ?_; rintro e w' ⟨rfl, rfl⟩) | (go_at_call 45; refine (l00In_any _ _ _ _).mono ?_; rintro e w' ⟨rfl, rfl⟩) | go_quiet (fail) | go_in)
        all_goals
          go_ret
          refine ⟨rfl, ?_⟩
          repeat (first | exact Below.refl _ _ | assumption | refine bl_drewN ?_ _ | refine Below.drew ?_ | refine bl_al ?_ _ | (refine Below.setCell ?_ (by simp <;> omega) _) | refine bl_tr ?_ (by assumption))
      case true =>
        obtain ⟨⟨_, _⟩, ⟨_, _⟩, _, _⟩ := vd_t h0
        obtain ⟨_, _⟩ := inB_t h1
        obtain ⟨_, _⟩ := inB_t h2
        obtain ⟨_, _⟩ := ddiv_bd a0 x (by omega) (by omega)
        by_cases hn : a0 / x - y < 1
        · go_enter Try.func3, Try.ntmps3
          go_wp2_with (first | (go_at_call 16; refine (toDrum_any _ _ _ _).mono ?_; rintro e w' ⟨rfl, o1, o2, o3, rfl⟩) | (go_at_call 46; refine (ValidDrum_any _ _ _ _).mono ?_; rintro e w' ⟨rfl, o1, rfl⟩) | (go_at_call 52; refine (l07Ok_any _ a0 a1 a2 _ (by simp [go_sem]) (by simp [go_sem]) (by simp [go_sem])).mono ?_; rintro e w' ⟨rfl, rfl⟩) | (go_at_call 47; refine (within_any _ _ _ _).mono ?_; rintro e w' ⟨rfl, rfl⟩) | (go_at_call 45; refine (l00In_any _ _ _ _).mono ?_; rintro e w' ⟨rfl, rfl⟩) | go_quiet (fail) | go_in)
          all_goals
            go_ret
            refine ⟨rfl, ?_⟩
            repeat (first | exact Below.refl _ _ | assumption | refine bl_drewN ?_ _ | refine Below.drew ?_ | refine bl_al ?_ _ | (refine Below.setCell ?_ (by simp <;> omega) _) | refine bl_tr ?_ (by assumption))
        · go_enter Try.func3, Try.ntmps3
          go_wp2_with (first | (go_at_call 16; refine (toDrum_any _ _ _ _).mono ?_; rintro e w' ⟨rfl, o1, o2, o3, rfl⟩) | (go_at_call 46; refine (ValidDrum_any _ _ _ _).mono ?_; rintro e w' ⟨rfl, o1, rfl⟩) | (go_at_call 52; refine (l07Ok_any _ a0 a1 a2 _ (by simp [go_sem]) (by simp [go_sem]) (by simp [go_sem])).mono ?_; rintro e w' ⟨rfl, rfl⟩) | (go_at_call 47; refine (within_any _ _ _ _).mono ?_; rintro e w' ⟨rfl, rfl⟩) | (go_at_call 45; refine (l00In_any _ _ _ _).mono ?_; rintro e w' ⟨rfl, rfl⟩) | go_quiet (fail) | go_in)
          all_goals
            go_ret
            refine ⟨rfl, ?_⟩
            repeat (first | exact Below.refl _ _ | assumption | refine bl_drewN ?_ _ | refine Below.drew ?_ | refine bl_al ?_ _ | (refine Below.setCell ?_ (by simp <;> omega) _) | refine bl_tr ?_ (by assumption))
set_option maxHeartbeats 2000000 in
theorem law_StripsFrom (a0 : Int) (_wa0 : (Lit.int .i64 a0).wf = true) (a1 : Int) (_wa1 : (Lit.int .i64 a1).wf = true) (a2 : Int) (_wa2 : (Lit.int .i64 a2).wf = true) (x : Int) (_wx : (Lit.int .i64 x).wf = true) (y : Int) (_wy : (Lit.int .i64 y).wf = true) (z : Int) (_wz : (Lit.int .i64 z).wf = true) (w : World) :
    Calls Try.prog 4 #[.agg #[.int .i64 a0, .int .i64 a1, .int .i64 a2], .int .i64 x, .int .i64 y, .int .i64 z] w fun e w' => e = .returned (.bool true) ∧ Below w.heap.size w w' := by
  cases h0 : vd a0 a1 a2
  case false =>
    go_enter Try.func4, Try.ntmps4
    go_wp2_with (first | (go_at_call 49; refine (l07Long_any _ a0 _ _ (by simp [go_sem]) (by omega) (by omega) (by omega) (by omega)).mono ?_; rintro e w' ⟨rfl, rfl⟩) | go_quiet ((go_at_call 50; first | exact quiet_left (l07High_any _ a1 _ (by simp [go_sem]) (by omega) (by omega)) | exact quiet_add_left (l07High_any _ a1 _ (by simp [go_sem]) (by omega) (by omega)))) | (first | (go_at_call 16; refine (toDrum_any _ _ _ _).mono ?_; rintro e w' ⟨rfl, o1, o2, o3, rfl⟩) | (go_at_call 46; refine (ValidDrum_any _ _ _ _).mono ?_; rintro e w' ⟨rfl, o1, rfl⟩) | (go_at_call 52; refine (l07Ok_any _ a0 a1 a2 _ (by simp [go_sem]) (by simp [go_sem]) (by simp [go_sem])).mono ?_; rintro e w' ⟨rfl, rfl⟩) | (go_at_call 47; refine (within_any _ _ _ _).mono ?_; rintro e w' ⟨rfl, rfl⟩) | (go_at_call 45; refine (l00In_any _ _ _ _).mono ?_; rintro e w' ⟨rfl, rfl⟩) | go_quiet (fail) | go_in))
    all_goals
      go_ret
      refine ⟨rfl, ?_⟩
      repeat (first | exact Below.refl _ _ | assumption | refine bl_drewN ?_ _ | refine Below.drew ?_ | refine bl_al ?_ _ | (refine Below.setCell ?_ (by simp <;> omega) _) | refine bl_tr ?_ (by assumption))
  case true =>
    cases h1 : inB x 0 100
    case false =>
      obtain ⟨⟨_, _⟩, ⟨_, _⟩, _, _⟩ := vd_t h0
      go_enter Try.func4, Try.ntmps4
      go_wp2_with (first | (go_at_call 49; refine (l07Long_any _ a0 _ _ (by simp [go_sem]) (by omega) (by omega) (by omega) (by omega)).mono ?_; rintro e w' ⟨rfl, rfl⟩) | go_quiet ((go_at_call 50; first | exact quiet_left (l07High_any _ a1 _ (by simp [go_sem]) (by omega) (by omega)) | exact quiet_add_left (l07High_any _ a1 _ (by simp [go_sem]) (by omega) (by omega)))) | (first | (go_at_call 16; refine (toDrum_any _ _ _ _).mono ?_; rintro e w' ⟨rfl, o1, o2, o3, rfl⟩) | (go_at_call 46; refine (ValidDrum_any _ _ _ _).mono ?_; rintro e w' ⟨rfl, o1, rfl⟩) | (go_at_call 52; refine (l07Ok_any _ a0 a1 a2 _ (by simp [go_sem]) (by simp [go_sem]) (by simp [go_sem])).mono ?_; rintro e w' ⟨rfl, rfl⟩) | (go_at_call 47; refine (within_any _ _ _ _).mono ?_; rintro e w' ⟨rfl, rfl⟩) | (go_at_call 45; refine (l00In_any _ _ _ _).mono ?_; rintro e w' ⟨rfl, rfl⟩) | go_quiet (fail) | go_in))
      all_goals
        go_ret
        refine ⟨rfl, ?_⟩
        repeat (first | exact Below.refl _ _ | assumption | refine bl_drewN ?_ _ | refine Below.drew ?_ | refine bl_al ?_ _ | (refine Below.setCell ?_ (by simp <;> omega) _) | refine bl_tr ?_ (by assumption))
    case true =>
      cases h2 : inB y 1 5000
      case false =>
        obtain ⟨⟨_, _⟩, ⟨_, _⟩, _, _⟩ := vd_t h0
        obtain ⟨_, _⟩ := inB_t h1
        go_enter Try.func4, Try.ntmps4
        go_wp2_with (first | (go_at_call 49; refine (l07Long_any _ a0 _ _ (by simp [go_sem]) (by omega) (by omega) (by omega) (by omega)).mono ?_; rintro e w' ⟨rfl, rfl⟩) | go_quiet ((go_at_call 50; first | exact quiet_left (l07High_any _ a1 _ (by simp [go_sem]) (by omega) (by omega)) | exact quiet_add_left (l07High_any _ a1 _ (by simp [go_sem]) (by omega) (by omega)))) | (first | (go_at_call 16; refine (toDrum_any _ _ _ _).mono ?_; rintro e w' ⟨rfl, o1, o2, o3, rfl⟩) | (go_at_call 46; refine (ValidDrum_any _ _ _ _).mono ?_; rintro e w' ⟨rfl, o1, rfl⟩) | (go_at_call 52; refine (l07Ok_any _ a0 a1 a2 _ (by simp [go_sem]) (by simp [go_sem]) (by simp [go_sem])).mono ?_; rintro e w' ⟨rfl, rfl⟩) | (go_at_call 47; refine (within_any _ _ _ _).mono ?_; rintro e w' ⟨rfl, rfl⟩) | (go_at_call 45; refine (l00In_any _ _ _ _).mono ?_; rintro e w' ⟨rfl, rfl⟩) | go_quiet (fail) | go_in))
        all_goals
          go_ret
          refine ⟨rfl, ?_⟩
          repeat (first | exact Below.refl _ _ | assumption | refine bl_drewN ?_ _ | refine Below.drew ?_ | refine bl_al ?_ _ | (refine Below.setCell ?_ (by simp <;> omega) _) | refine bl_tr ?_ (by assumption))
      case true =>
        cases h3 : inB z 1 5000
        case false =>
          obtain ⟨⟨_, _⟩, ⟨_, _⟩, _, _⟩ := vd_t h0
          obtain ⟨_, _⟩ := inB_t h1
          obtain ⟨_, _⟩ := inB_t h2
          go_enter Try.func4, Try.ntmps4
          go_wp2_with (first | (go_at_call 49; refine (l07Long_any _ a0 _ _ (by simp [go_sem]) (by omega) (by omega) (by omega) (by omega)).mono ?_; rintro e w' ⟨rfl, rfl⟩) | go_quiet ((go_at_call 50; first | exact quiet_left (l07High_any _ a1 _ (by simp [go_sem]) (by omega) (by omega)) | exact quiet_add_left (l07High_any _ a1 _ (by simp [go_sem]) (by omega) (by omega)))) | (first | (go_at_call 16; refine (toDrum_any _ _ _ _).mono ?_; rintro e w' ⟨rfl, o1, o2, o3, rfl⟩) | (go_at_call 46; refine (ValidDrum_any _ _ _ _).mono ?_; rintro e w' ⟨rfl, o1, rfl⟩) | (go_at_call 52; refine (l07Ok_any _ a0 a1 a2 _ (by simp [go_sem]) (by simp [go_sem]) (by simp [go_sem])).mono ?_; rintro e w' ⟨rfl, rfl⟩) | (go_at_call 47; refine (within_any _ _ _ _).mono ?_; rintro e w' ⟨rfl, rfl⟩) | (go_at_call 45; refine (l00In_any _ _ _ _).mono ?_; rintro e w' ⟨rfl, rfl⟩) | go_quiet (fail) | go_in))
          all_goals
            go_ret
            refine ⟨rfl, ?_⟩
            repeat (first | exact Below.refl _ _ | assumption | refine bl_drewN ?_ _ | refine Below.drew ?_ | refine bl_al ?_ _ | (refine Below.setCell ?_ (by simp <;> omega) _) | refine bl_tr ?_ (by assumption))
        case true =>
          obtain ⟨⟨_, _⟩, ⟨_, _⟩, _, _⟩ := vd_t h0
          obtain ⟨_, _⟩ := inB_t h1
          obtain ⟨_, _⟩ := inB_t h2
          obtain ⟨_, _⟩ := inB_t h3
          obtain ⟨_, _⟩ := ddiv_bd y (a0 + x) (by omega) (by omega)
          obtain ⟨_, _⟩ := ddiv_bd z (a0 + x) (by omega) (by omega)
          obtain ⟨_, _⟩ := ddiv_bd y (a1 / 2) (by omega) (by omega)
          obtain ⟨_, _⟩ := ddiv_bd z (a1 / 2) (by omega) (by omega)
          obtain ⟨_, _⟩ := dmul_bd (y / (a0 + x)) (z / (a1 / 2)) 5000 5000 (by omega) (by omega) (by omega) (by omega)
          obtain ⟨_, _⟩ := dmul_bd (z / (a0 + x)) (y / (a1 / 2)) 5000 5000 (by omega) (by omega) (by omega) (by omega)
          by_cases hm : z / (a0 + x) * (y / (a1 / 2)) < y / (a0 + x) * (z / (a1 / 2))
          · go_enter Try.func4, Try.ntmps4
            go_wp2_with (first | (go_at_call 49; refine (l07Long_any _ a0 _ _ (by simp [go_sem]) (by omega) (by omega) (by omega) (by omega)).mono ?_; rintro e w' ⟨rfl, rfl⟩) | go_quiet ((go_at_call 50; first | exact quiet_left (l07High_any _ a1 _ (by simp [go_sem]) (by omega) (by omega)) | exact quiet_add_left (l07High_any _ a1 _ (by simp [go_sem]) (by omega) (by omega)))) | (first | (go_at_call 16; refine (toDrum_any _ _ _ _).mono ?_; rintro e w' ⟨rfl, o1, o2, o3, rfl⟩) | (go_at_call 46; refine (ValidDrum_any _ _ _ _).mono ?_; rintro e w' ⟨rfl, o1, rfl⟩) | (go_at_call 52; refine (l07Ok_any _ a0 a1 a2 _ (by simp [go_sem]) (by simp [go_sem]) (by simp [go_sem])).mono ?_; rintro e w' ⟨rfl, rfl⟩) | (go_at_call 47; refine (within_any _ _ _ _).mono ?_; rintro e w' ⟨rfl, rfl⟩) | (go_at_call 45; refine (l00In_any _ _ _ _).mono ?_; rintro e w' ⟨rfl, rfl⟩) | go_quiet (fail) | go_in))
            all_goals
              go_ret
              refine ⟨rfl, ?_⟩
              repeat (first | exact Below.refl _ _ | assumption | refine bl_drewN ?_ _ | refine Below.drew ?_ | refine bl_al ?_ _ | (refine Below.setCell ?_ (by simp <;> omega) _) | refine bl_tr ?_ (by assumption))
          · by_cases he : y / (a0 + x) * (z / (a1 / 2)) < z / (a0 + x) * (y / (a1 / 2))
            · go_enter Try.func4, Try.ntmps4
              go_wp2_with (first | (go_at_call 49; refine (l07Long_any _ a0 _ _ (by simp [go_sem]) (by omega) (by omega) (by omega) (by omega)).mono ?_; rintro e w' ⟨rfl, rfl⟩) | go_quiet ((go_at_call 50; first | exact quiet_left (l07High_any _ a1 _ (by simp [go_sem]) (by omega) (by omega)) | exact quiet_add_left (l07High_any _ a1 _ (by simp [go_sem]) (by omega) (by omega)))) | (first | (go_at_call 16; refine (toDrum_any _ _ _ _).mono ?_; rintro e w' ⟨rfl, o1, o2, o3, rfl⟩) | (go_at_call 46; refine (ValidDrum_any _ _ _ _).mono ?_; rintro e w' ⟨rfl, o1, rfl⟩) | (go_at_call 52; refine (l07Ok_any _ a0 a1 a2 _ (by simp [go_sem]) (by simp [go_sem]) (by simp [go_sem])).mono ?_; rintro e w' ⟨rfl, rfl⟩) | (go_at_call 47; refine (within_any _ _ _ _).mono ?_; rintro e w' ⟨rfl, rfl⟩) | (go_at_call 45; refine (l00In_any _ _ _ _).mono ?_; rintro e w' ⟨rfl, rfl⟩) | go_quiet (fail) | go_in))
              all_goals
                go_ret
                refine ⟨rfl, ?_⟩
                repeat (first | exact Below.refl _ _ | assumption | refine bl_drewN ?_ _ | refine Below.drew ?_ | refine bl_al ?_ _ | (refine Below.setCell ?_ (by simp <;> omega) _) | refine bl_tr ?_ (by assumption))
            · have hq : z / (a0 + x) * (y / (a1 / 2)) = y / (a0 + x) * (z / (a1 / 2)) := by omega
              go_enter Try.func4, Try.ntmps4
              go_wp2_with (first | (go_at_call 49; refine (l07Long_any _ a0 _ _ (by simp [go_sem]) (by omega) (by omega) (by omega) (by omega)).mono ?_; rintro e w' ⟨rfl, rfl⟩) | go_quiet ((go_at_call 50; first | exact quiet_left (l07High_any _ a1 _ (by simp [go_sem]) (by omega) (by omega)) | exact quiet_add_left (l07High_any _ a1 _ (by simp [go_sem]) (by omega) (by omega)))) | (first | (go_at_call 16; refine (toDrum_any _ _ _ _).mono ?_; rintro e w' ⟨rfl, o1, o2, o3, rfl⟩) | (go_at_call 46; refine (ValidDrum_any _ _ _ _).mono ?_; rintro e w' ⟨rfl, o1, rfl⟩) | (go_at_call 52; refine (l07Ok_any _ a0 a1 a2 _ (by simp [go_sem]) (by simp [go_sem]) (by simp [go_sem])).mono ?_; rintro e w' ⟨rfl, rfl⟩) | (go_at_call 47; refine (within_any _ _ _ _).mono ?_; rintro e w' ⟨rfl, rfl⟩) | (go_at_call 45; refine (l00In_any _ _ _ _).mono ?_; rintro e w' ⟨rfl, rfl⟩) | go_quiet (fail) | go_in))
              all_goals
                go_ret
                refine ⟨rfl, ?_⟩
                repeat (first | exact Below.refl _ _ | assumption | refine bl_drewN ?_ _ | refine Below.drew ?_ | refine bl_al ?_ _ | (refine Below.setCell ?_ (by simp <;> omega) _) | refine bl_tr ?_ (by assumption))
set_option maxHeartbeats 2000000 in
theorem law_PiecesFor (a0 : Int) (_wa0 : (Lit.int .i64 a0).wf = true) (a1 : Int) (_wa1 : (Lit.int .i64 a1).wf = true) (a2 : Int) (_wa2 : (Lit.int .i64 a2).wf = true) (x : Int) (_wx : (Lit.int .i64 x).wf = true) (y : Int) (_wy : (Lit.int .i64 y).wf = true) (w : World) :
    Calls Try.prog 5 #[.agg #[.int .i64 a0, .int .i64 a1, .int .i64 a2], .int .i64 x, .int .i64 y] w fun e w' => e = .returned (.bool true) ∧ Below w.heap.size w w' := by
  cases h0 : vd a0 a1 a2
  case false =>
    go_enter Try.func5, Try.ntmps5
    go_wp2_with (first | (go_at_call 16; refine (toDrum_any _ _ _ _).mono ?_; rintro e w' ⟨rfl, o1, o2, o3, rfl⟩) | (go_at_call 46; refine (ValidDrum_any _ _ _ _).mono ?_; rintro e w' ⟨rfl, o1, rfl⟩) | (go_at_call 52; refine (l07Ok_any _ a0 a1 a2 _ (by simp [go_sem]) (by simp [go_sem]) (by simp [go_sem])).mono ?_; rintro e w' ⟨rfl, rfl⟩) | (go_at_call 47; refine (within_any _ _ _ _).mono ?_; rintro e w' ⟨rfl, rfl⟩) | (go_at_call 45; refine (l00In_any _ _ _ _).mono ?_; rintro e w' ⟨rfl, rfl⟩) | go_quiet (fail) | go_in)
    all_goals
      go_ret
      refine ⟨rfl, ?_⟩
      repeat (first | exact Below.refl _ _ | assumption | refine bl_drewN ?_ _ | refine Below.drew ?_ | refine bl_al ?_ _ | (refine Below.setCell ?_ (by simp <;> omega) _) | refine bl_tr ?_ (by assumption))
  case true =>
    cases h1 : inB x 0 100
    case false =>
      obtain ⟨⟨_, _⟩, ⟨_, _⟩, _, _⟩ := vd_t h0
      go_enter Try.func5, Try.ntmps5
      go_wp2_with (first | (go_at_call 16; refine (toDrum_any _ _ _ _).mono ?_; rintro e w' ⟨rfl, o1, o2, o3, rfl⟩) | (go_at_call 46; refine (ValidDrum_any _ _ _ _).mono ?_; rintro e w' ⟨rfl, o1, rfl⟩) | (go_at_call 52; refine (l07Ok_any _ a0 a1 a2 _ (by simp [go_sem]) (by simp [go_sem]) (by simp [go_sem])).mono ?_; rintro e w' ⟨rfl, rfl⟩) | (go_at_call 47; refine (within_any _ _ _ _).mono ?_; rintro e w' ⟨rfl, rfl⟩) | (go_at_call 45; refine (l00In_any _ _ _ _).mono ?_; rintro e w' ⟨rfl, rfl⟩) | go_quiet (fail) | go_in)
      all_goals
        go_ret
        refine ⟨rfl, ?_⟩
        repeat (first | exact Below.refl _ _ | assumption | refine bl_drewN ?_ _ | refine Below.drew ?_ | refine bl_al ?_ _ | (refine Below.setCell ?_ (by simp <;> omega) _) | refine bl_tr ?_ (by assumption))
    case true =>
      cases h2 : inB y 1 10000
      case false =>
        obtain ⟨⟨_, _⟩, ⟨_, _⟩, _, _⟩ := vd_t h0
        obtain ⟨_, _⟩ := inB_t h1
        go_enter Try.func5, Try.ntmps5
        go_wp2_with (first | (go_at_call 16; refine (toDrum_any _ _ _ _).mono ?_; rintro e w' ⟨rfl, o1, o2, o3, rfl⟩) | (go_at_call 46; refine (ValidDrum_any _ _ _ _).mono ?_; rintro e w' ⟨rfl, o1, rfl⟩) | (go_at_call 52; refine (l07Ok_any _ a0 a1 a2 _ (by simp [go_sem]) (by simp [go_sem]) (by simp [go_sem])).mono ?_; rintro e w' ⟨rfl, rfl⟩) | (go_at_call 47; refine (within_any _ _ _ _).mono ?_; rintro e w' ⟨rfl, rfl⟩) | (go_at_call 45; refine (l00In_any _ _ _ _).mono ?_; rintro e w' ⟨rfl, rfl⟩) | go_quiet (fail) | go_in)
        all_goals
          go_ret
          refine ⟨rfl, ?_⟩
          repeat (first | exact Below.refl _ _ | assumption | refine bl_drewN ?_ _ | refine Below.drew ?_ | refine bl_al ?_ _ | (refine Below.setCell ?_ (by simp <;> omega) _) | refine bl_tr ?_ (by assumption))
      case true =>
        obtain ⟨⟨_, _⟩, ⟨_, _⟩, _, _⟩ := vd_t h0
        obtain ⟨_, _⟩ := inB_t h1
        obtain ⟨_, _⟩ := inB_t h2
        by_cases hl : y ≤ x
        · go_enter Try.func5, Try.ntmps5
          go_wp2_with (first | (go_at_call 16; refine (toDrum_any _ _ _ _).mono ?_; rintro e w' ⟨rfl, o1, o2, o3, rfl⟩) | (go_at_call 46; refine (ValidDrum_any _ _ _ _).mono ?_; rintro e w' ⟨rfl, o1, rfl⟩) | (go_at_call 52; refine (l07Ok_any _ a0 a1 a2 _ (by simp [go_sem]) (by simp [go_sem]) (by simp [go_sem])).mono ?_; rintro e w' ⟨rfl, rfl⟩) | (go_at_call 47; refine (within_any _ _ _ _).mono ?_; rintro e w' ⟨rfl, rfl⟩) | (go_at_call 45; refine (l00In_any _ _ _ _).mono ?_; rintro e w' ⟨rfl, rfl⟩) | go_quiet (fail) | go_in)
          all_goals
            go_ret
            refine ⟨rfl, ?_⟩
            repeat (first | exact Below.refl _ _ | assumption | refine bl_drewN ?_ _ | refine Below.drew ?_ | refine bl_al ?_ _ | (refine Below.setCell ?_ (by simp <;> omega) _) | refine bl_tr ?_ (by assumption))
        · have he : a0 + (y - x) - 1 = a0 + y - x - 1 := by omega
          go_enter Try.func5, Try.ntmps5
          go_wp2_with (first | (go_at_call 16; refine (toDrum_any _ _ _ _).mono ?_; rintro e w' ⟨rfl, o1, o2, o3, rfl⟩) | (go_at_call 46; refine (ValidDrum_any _ _ _ _).mono ?_; rintro e w' ⟨rfl, o1, rfl⟩) | (go_at_call 52; refine (l07Ok_any _ a0 a1 a2 _ (by simp [go_sem]) (by simp [go_sem]) (by simp [go_sem])).mono ?_; rintro e w' ⟨rfl, rfl⟩) | (go_at_call 47; refine (within_any _ _ _ _).mono ?_; rintro e w' ⟨rfl, rfl⟩) | (go_at_call 45; refine (l00In_any _ _ _ _).mono ?_; rintro e w' ⟨rfl, rfl⟩) | go_quiet (fail) | go_in)
          all_goals
            go_ret
            refine ⟨rfl, ?_⟩
            repeat (first | exact Below.refl _ _ | assumption | refine bl_drewN ?_ _ | refine Below.drew ?_ | refine bl_al ?_ _ | (refine Below.setCell ?_ (by simp <;> omega) _) | refine bl_tr ?_ (by assumption))
end Go.Proofs.Ytdmiieijflochaa

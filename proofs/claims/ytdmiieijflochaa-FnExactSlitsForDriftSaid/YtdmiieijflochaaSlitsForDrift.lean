/-
  PROVED HERE: the walk of SlitsForDrift: the program and the reference agree. CONDITIONS: none beyond that each number is an int64.
-/
import Derived.Test.YtdmiieijflochaaSl
import Derived.Test.YtdmiieijflochaaFracD
namespace Go.Proofs.Ytdmiieijflochaa
open Go.RowKit

/-- Is the drift of x pictures over s slits a / b? -/
def sdB (x a b s : Int) : Bool := lowN (drf x s) s == a && lowD (drf x s) s == b
def sdI (x a b : Int) : Nat → List Int
  | 0 => []
  | k + 1 => if sdB x a b ((k : Int) + 1) then sdI x a b k ++ [(k : Int) + 1] else sdI x a b k
theorem sdI_t {x a b : Int} {k : Nat} (h : sdB x a b ((k : Int) + 1) = true) : sdI x a b (k + 1) = sdI x a b k ++ [(k : Int) + 1] := by simp [sdI, h]
theorem sdI_f {x a b : Int} {k : Nat} (h : sdB x a b ((k : Int) + 1) = false) : sdI x a b (k + 1) = sdI x a b k := by simp [sdI, h]
theorem sdI_len (x a b : Int) (k : Nat) : (sdI x a b k).length ≤ k := by
  induction k with
  | zero => simp [sdI]
  | succ k ih =>
    cases h : sdB x a b ((k : Int) + 1)
    · rw [sdI_f h]; omega
    · rw [sdI_t h, List.length_append]; simp; omega
def sdK (x a b : Int) : Int := if vf a b then (if inB x 1 48 then 0 else 2) else 1
def sdX (x a b : Int) : List Int := if vf a b then (if inB x 1 48 then sdI x a b 48 else []) else []
theorem sdX_le (x a b : Int) : (sdX x a b).length ≤ 1000000 := by
  unfold sdX
  split
  · split
    · have := sdI_len x a b 48; omega
    · simp
  · simp
theorem cell_one_new2 (w : World) (o1 o2 : Obj) (v : Value) (t : TypeId) (k : Nat) : ∀ j u, [v][j]? = some u → ((((w.alloc o1).alloc o2).alloc (.cells #[v] t)).drewN k).cell? ((⟨w.heap.size + 1 + 1, 0, none⟩ : Addr).add j) = some u := fun j u h => by
  have := cell_one_new ((w.alloc o1).alloc o2) v t j u h
  simpa using this
theorem discOk_v {x : Int} {b : Bool} (h : inB x 1 48 = b) (w : World) :
    Calls Try.prog 60 #[.int .i64 x, .int .i64 1] w fun e w' => e = .returned (.bool b) ∧ w = w' := by
  have h1 : inB 1 1 48 = true := by decide
  cases b
  all_goals
    go_enter Try.func60, Try.ntmps60
    go_wp2_with (first | (go_at_call 47; refine (within_any _ _ _ _).mono ?_; rintro e w' ⟨rfl, rfl⟩) | (go_at_call 45; refine (l00In_any _ _ _ _).mono ?_; rintro e w' ⟨rfl, rfl⟩) | go_in)
    go_ret
    exact ⟨rfl, rfl⟩
theorem l03Many_v {x : Int} {b : Bool} (h : inB x 1 48 = b) (w : World) :
    Calls Try.prog 64 #[.int .i64 x] w fun e w' => e = .returned (.bool b) ∧ w = w' := by
  go_enter Try.func64, Try.ntmps64
  go_wp2_with (go_at_call 45; refine (l00In_v h _).mono ?_; rintro e w' ⟨rfl, rfl⟩)
  go_ret
  exact ⟨rfl, rfl⟩
set_option maxHeartbeats 1000000 in
theorem SlitsForDrift_any (x a b : Int) (w : World) :
    Calls Try.prog 37 #[.int .i64 x, .agg #[.int .i64 a, .int .i64 b]] w (SlC w.heap.size (sdX x a b) (sdK x a b) w) := by
  cases h0 : vf a b
  case false =>
    have e1 : sdX x a b = [] := by simp [sdX, h0]
    have e2 : sdK x a b = 1 := by simp [sdK, h0]
    rw [e1, e2]
    clear e1 e2
    go_enter Try.func37, Try.ntmps37
    go_wp2_with (first | (go_at_call 66; refine (ValidFraction_any _ _ _).mono ?_; rintro e w' ⟨rfl, o1, k1, rfl⟩) | (go_at_call 63; refine (l02Ok_any _ _ _).mono ?_; rintro e w' ⟨rfl, o1, k1, rfl⟩) | (go_at_call 81; refine (lowest_any _ _ _ (by omega) (by omega) (by omega) (by omega)).mono ?_; rintro e w' ⟨rfl, o1, k1, rfl⟩) | (go_at_call 79; refine (l02Make_any _ _ _ (by omega) (by omega) (by omega) (by omega)).mono ?_; rintro e w' ⟨rfl, o1, k1, rfl⟩) | (go_at_call 47; refine (within_any _ _ _ _).mono ?_; rintro e w' ⟨rfl, rfl⟩) | (go_at_call 45; refine (l00In_any _ _ _ _).mono ?_; rintro e w' ⟨rfl, rfl⟩) | go_in)
    go_ret2
    exact SlC.none_ (by
      repeat (first | exact Below.refl _ _ | assumption | refine bl_drewN ?_ _ | refine Below.drew ?_ | refine bl_al ?_ _ | (refine Below.setCell ?_ (by simp <;> omega) _) | refine bl_tr ?_ (by assumption)))
  case true =>
    cases h1 : inB x 1 48
    case false =>
      have e1 : sdX x a b = [] := by simp [sdX, h0, h1]
      have e2 : sdK x a b = 2 := by simp [sdK, h0, h1]
      rw [e1, e2]
      clear e1 e2
      go_enter Try.func37, Try.ntmps37
      go_wp2_with (first | (go_at_call 66; refine (ValidFraction_any _ _ _).mono ?_; rintro e w' ⟨rfl, o1, k1, rfl⟩) | (go_at_call 63; refine (l02Ok_any _ _ _).mono ?_; rintro e w' ⟨rfl, o1, k1, rfl⟩) | (go_at_call 81; refine (lowest_any _ _ _ (by omega) (by omega) (by omega) (by omega)).mono ?_; rintro e w' ⟨rfl, o1, k1, rfl⟩) | (go_at_call 79; refine (l02Make_any _ _ _ (by omega) (by omega) (by omega) (by omega)).mono ?_; rintro e w' ⟨rfl, o1, k1, rfl⟩) | (go_at_call 47; refine (within_any _ _ _ _).mono ?_; rintro e w' ⟨rfl, rfl⟩) | (go_at_call 45; refine (l00In_any _ _ _ _).mono ?_; rintro e w' ⟨rfl, rfl⟩) | go_in)
      go_ret2
      exact SlC.none_ (by
        repeat (first | exact Below.refl _ _ | assumption | refine bl_drewN ?_ _ | refine Below.drew ?_ | refine bl_al ?_ _ | (refine Below.setCell ?_ (by simp <;> omega) _) | refine bl_tr ?_ (by assumption)))
    case true =>
      obtain ⟨x1, x2⟩ := inB_t h1
      have e1 : sdX x a b = sdI x a b 48 := by simp [sdX, h0, h1]
      have e2 : sdK x a b = 0 := by simp [sdK, h0, h1]
      rw [e1, e2]
      clear e1 e2
      obtain ⟨i0, hi, hz0, hz1, hz2⟩ := info_parts info_int64
      go_enter Try.func37, Try.ntmps37
      go_wp2_with (first | (go_at_call 60; refine (discOk_v h1 _).mono ?_; rintro e w' ⟨rfl, rfl⟩) | (go_at_call 64; refine (l03Many_v h1 _).mono ?_; rintro e w' ⟨rfl, rfl⟩) | (first | (go_at_call 66; refine (ValidFraction_any _ _ _).mono ?_; rintro e w' ⟨rfl, o1, k1, rfl⟩) | (go_at_call 63; refine (l02Ok_any _ _ _).mono ?_; rintro e w' ⟨rfl, o1, k1, rfl⟩) | (go_at_call 81; refine (lowest_any _ _ _ (by omega) (by omega) (by omega) (by omega)).mono ?_; rintro e w' ⟨rfl, o1, k1, rfl⟩) | (go_at_call 79; refine (l02Make_any _ _ _ (by omega) (by omega) (by omega) (by omega)).mono ?_; rintro e w' ⟨rfl, o1, k1, rfl⟩) | (go_at_call 47; refine (within_any _ _ _ _).mono ?_; rintro e w' ⟨rfl, rfl⟩) | (go_at_call 45; refine (l00In_any _ _ _ _).mono ?_; rintro e w' ⟨rfl, rfl⟩) | go_in))
      go_loopw [6, 7] (fun v i wr => ∃ k : Nat, k ≤ 48 ∧ i = .int .i64 ((k : Int) + 1) ∧ wr.ownsRow (w.heap.size + 1) 2 1 v (sdI x a b k).length ((sdI x a b k).map (Value.int .i64)) ∧ Below w.heap.size w wr ∧ wr.cell? ⟨w.heap.size, 0, none⟩ = some (.int .i64 a) ∧ wr.cell? ⟨w.heap.size, 1, none⟩ = some (.int .i64 b)) (fun _ i _ => 49 - (intOf i).toNat)
      case atStart => exact ⟨0, Nat.zero_le _, by go_num, (by have := World.ownsRow_lit (base := w.heap.size + 1) (e := 2) (size := 1) ((w.alloc (.cells #[.int .i64 a, .int .i64 b] 46)).alloc (.cells o1 46)) #[] 0 (by simp) (Nat.zero_le _) (by simp); simpa [sdI] using own_drewN this k1), (by
        repeat (first | exact Below.refl _ _ | assumption | refine bl_drewN ?_ _ | refine Below.drew ?_ | refine bl_al ?_ _ | (refine Below.setCell ?_ (by simp <;> omega) _) | refine bl_tr ?_ (by assumption))), by simp [go_sem], by simp [go_sem]⟩
      case round =>
        obtain ⟨k, hk, rfl, ho, hb, c0, c1⟩ := hrel
        have hsz := World.block_lt_of_cell? wr _ c0
        have hz : w.heap.size + 1 ≤ wr.heap.size := hsz
        have hl := sdI_len x a b k
        have HO := Lib.hid ho
        have HB := Lib.hid hb
        clear ho hb
        by_cases hlt : k < 48
        · have s1 : (1 : Int) ≤ (k : Int) + 1 := by omega
          have s2 : (k : Int) + 1 ≤ 48 := by omega
          cases hq1 : (lowN (drf x ((k : Int) + 1)) ((k : Int) + 1) == a) <;> cases hq2 : (lowD (drf x ((k : Int) + 1)) ((k : Int) + 1) == b)
          case true.true =>
            have hs := sdI_t (x := x) (a := a) (b := b) (k := k) (by simp only [sdB, hq1, hq2, Bool.and_true])
            have hl1 : (sdI x a b (k + 1)).length = (sdI x a b k).length + 1 := by rw [hs]; simp
            have HS := Lib.hid hs
            have HL := Lib.hid hl1
            clear hs hl1
            go_wp2
            go_region_held3 (fun w' => w'.cell? ⟨w.heap.size, 0, none⟩ = some (.int .i64 a) ∧ w'.cell? ⟨w.heap.size, 1, none⟩ = some (.int .i64 b)) (((try dsimp only); (refine ⟨?_, ?_⟩ <;> (with_reducible (repeat (first | assumption | refine keepD ?_ | refine keepN ?_ _ | refine keepA ?_))))))
              (first | (go_at_call 67; refine (driftOf_any _ _ _ (by omega) (by omega) (by omega) (by omega)).mono ?_; rintro e w' ⟨rfl, o1, o2, k1, rfl⟩))
            go_wp2_with (at_builtin; refine wpList_append_own _ rfl _ _ 31 rfl (w.heap.size + 1) 2 i0 (.int .i64 0) 1 8 Try.underlying31 hi hz0 hz1 hz2 rfl (by decide) _ _ _ rfl (own_drewN (((HO.out.alloc (.cells o1 46)).alloc (.cells o2 46)).alloc (.cells #[.int .i64 ((k : Int) + 1)] 2)) _) ⟨wr.heap.size + 1 + 1, 0, none⟩ 1 1 [.int .i64 ((k : Int) + 1)] rfl rfl (cell_one_new2 _ _ _ _ _ _) (one_int _ _) (by unfold maxLen; omega) (by omega) (by simp; omega) ?_; intro v' w1 hown' hgrow _)
            have hb2 := (bl_drewN (((HB.out.alloc (by omega) (.cells o1 46)).alloc (by simp; omega) (.cells o2 46)).alloc (by simp; omega) (.cells #[.int .i64 ((k : Int) + 1)] 2)) _).grown hgrow (by simp; omega) (fun j hj => Nat.le_trans (Nat.le_succ _) (HO.out.lt j hj).1)
            have hc0 := hgrow.cell (a := ⟨w.heap.size, 0, none⟩) (keepN (keepA (keepA (keepA c0))) _) (fun e1 => absurd (HO.out.lt _ e1.symm).1 (Nat.not_succ_le_self w.heap.size))
            have hc1 := hgrow.cell (a := ⟨w.heap.size, 1, none⟩) (keepN (keepA (keepA (keepA c1))) _) (fun e1 => absurd (HO.out.lt _ e1.symm).1 (Nat.not_succ_le_self w.heap.size))
            go_roundw
            case rel => exact ⟨k + 1, by omega, by go_num, by rw [HL.out, HS.out, List.map_append]; exact hown', hb2, hc0, hc1⟩
            case measure => simp [intOf]; omega
          all_goals
            have hs := sdI_f (x := x) (a := a) (b := b) (k := k) (by simp only [sdB, hq1, hq2, Bool.and_true, Bool.and_false])
            have HS := Lib.hid hs
            clear hs
            go_wp2
            go_region_held3 (fun w' => w'.cell? ⟨w.heap.size, 0, none⟩ = some (.int .i64 a) ∧ w'.cell? ⟨w.heap.size, 1, none⟩ = some (.int .i64 b)) (((try dsimp only); (refine ⟨?_, ?_⟩ <;> (with_reducible (repeat (first | assumption | refine keepD ?_ | refine keepN ?_ _ | refine keepA ?_))))))
              (first | (go_at_call 67; refine (driftOf_any _ _ _ (by omega) (by omega) (by omega) (by omega)).mono ?_; rintro e w' ⟨rfl, o1, o2, k1, rfl⟩))
            go_wp2
            go_roundw
            case rel => exact ⟨k + 1, by omega, by go_num, by rw [HS.out]; exact own_drewN ((HO.out.alloc _).alloc _) _, bl_drewN ((HB.out.alloc (by omega) _).alloc (by simp; omega) _) _, keepN (keepA (keepA c0)) _, keepN (keepA (keepA c1)) _⟩
            case measure => simp [intOf]; omega
        · have e : k = 48 := by omega
          subst e
          go_wp2
          go_ret2
          obtain ⟨A1, c1, h1, h2, h3⟩ := SlR.mk rfl (HO.out.mono (Nat.le_succ _)) HB.out
          simp only [Ending.returned.injEq] at h1
          rw [h1]
          exact ⟨A1, c1, rfl, h2, h3⟩
set_option maxHeartbeats 1000000 in
theorem lSlitsForDrift_any (x a b : Int) (w : World) :
    Calls Try.prog 35 #[.int .i64 x, .agg #[.int .i64 a, .int .i64 b]] w (SlC w.heap.size (sdX x a b) (sdK x a b) w) := by
  cases h0 : vf a b
  case false =>
    have e1 : sdX x a b = [] := by simp [sdX, h0]
    have e2 : sdK x a b = 1 := by simp [sdK, h0]
    rw [e1, e2]
    clear e1 e2
    go_enter Try.func35, Try.ntmps35
    go_wp2_with (first | (go_at_call 66; refine (ValidFraction_any _ _ _).mono ?_; rintro e w' ⟨rfl, o1, k1, rfl⟩) | (go_at_call 63; refine (l02Ok_any _ _ _).mono ?_; rintro e w' ⟨rfl, o1, k1, rfl⟩) | (go_at_call 81; refine (lowest_any _ _ _ (by omega) (by omega) (by omega) (by omega)).mono ?_; rintro e w' ⟨rfl, o1, k1, rfl⟩) | (go_at_call 79; refine (l02Make_any _ _ _ (by omega) (by omega) (by omega) (by omega)).mono ?_; rintro e w' ⟨rfl, o1, k1, rfl⟩) | (go_at_call 47; refine (within_any _ _ _ _).mono ?_; rintro e w' ⟨rfl, rfl⟩) | (go_at_call 45; refine (l00In_any _ _ _ _).mono ?_; rintro e w' ⟨rfl, rfl⟩) | go_in)
    go_ret2
    exact SlC.none_ (by
      repeat (first | exact Below.refl _ _ | assumption | refine bl_drewN ?_ _ | refine Below.drew ?_ | refine bl_al ?_ _ | (refine Below.setCell ?_ (by simp <;> omega) _) | refine bl_tr ?_ (by assumption)))
  case true =>
    cases h1 : inB x 1 48
    case false =>
      have e1 : sdX x a b = [] := by simp [sdX, h0, h1]
      have e2 : sdK x a b = 2 := by simp [sdK, h0, h1]
      rw [e1, e2]
      clear e1 e2
      go_enter Try.func35, Try.ntmps35
      go_wp2_with (first | (go_at_call 66; refine (ValidFraction_any _ _ _).mono ?_; rintro e w' ⟨rfl, o1, k1, rfl⟩) | (go_at_call 63; refine (l02Ok_any _ _ _).mono ?_; rintro e w' ⟨rfl, o1, k1, rfl⟩) | (go_at_call 81; refine (lowest_any _ _ _ (by omega) (by omega) (by omega) (by omega)).mono ?_; rintro e w' ⟨rfl, o1, k1, rfl⟩) | (go_at_call 79; refine (l02Make_any _ _ _ (by omega) (by omega) (by omega) (by omega)).mono ?_; rintro e w' ⟨rfl, o1, k1, rfl⟩) | (go_at_call 47; refine (within_any _ _ _ _).mono ?_; rintro e w' ⟨rfl, rfl⟩) | (go_at_call 45; refine (l00In_any _ _ _ _).mono ?_; rintro e w' ⟨rfl, rfl⟩) | go_in)
      go_ret2
      exact SlC.none_ (by
        repeat (first | exact Below.refl _ _ | assumption | refine bl_drewN ?_ _ | refine Below.drew ?_ | refine bl_al ?_ _ | (refine Below.setCell ?_ (by simp <;> omega) _) | refine bl_tr ?_ (by assumption)))
    case true =>
      obtain ⟨x1, x2⟩ := inB_t h1
      have e1 : sdX x a b = sdI x a b 48 := by simp [sdX, h0, h1]
      have e2 : sdK x a b = 0 := by simp [sdK, h0, h1]
      rw [e1, e2]
      clear e1 e2
      obtain ⟨i0, hi, hz0, hz1, hz2⟩ := info_parts info_int64
      go_enter Try.func35, Try.ntmps35
      go_wp2_with (first | (go_at_call 60; refine (discOk_v h1 _).mono ?_; rintro e w' ⟨rfl, rfl⟩) | (go_at_call 64; refine (l03Many_v h1 _).mono ?_; rintro e w' ⟨rfl, rfl⟩) | (first | (go_at_call 66; refine (ValidFraction_any _ _ _).mono ?_; rintro e w' ⟨rfl, o1, k1, rfl⟩) | (go_at_call 63; refine (l02Ok_any _ _ _).mono ?_; rintro e w' ⟨rfl, o1, k1, rfl⟩) | (go_at_call 81; refine (lowest_any _ _ _ (by omega) (by omega) (by omega) (by omega)).mono ?_; rintro e w' ⟨rfl, o1, k1, rfl⟩) | (go_at_call 79; refine (l02Make_any _ _ _ (by omega) (by omega) (by omega) (by omega)).mono ?_; rintro e w' ⟨rfl, o1, k1, rfl⟩) | (go_at_call 47; refine (within_any _ _ _ _).mono ?_; rintro e w' ⟨rfl, rfl⟩) | (go_at_call 45; refine (l00In_any _ _ _ _).mono ?_; rintro e w' ⟨rfl, rfl⟩) | go_in))
      go_loopw [6, 7] (fun v i wr => ∃ k : Nat, k ≤ 48 ∧ i = .int .i64 ((k : Int) + 1) ∧ wr.ownsRow (w.heap.size + 1) 2 1 v (sdI x a b k).length ((sdI x a b k).map (Value.int .i64)) ∧ Below w.heap.size w wr ∧ wr.cell? ⟨w.heap.size, 0, none⟩ = some (.int .i64 a) ∧ wr.cell? ⟨w.heap.size, 1, none⟩ = some (.int .i64 b)) (fun _ i _ => 49 - (intOf i).toNat)
      case atStart => exact ⟨0, Nat.zero_le _, by go_num, (by have := World.ownsRow_lit (base := w.heap.size + 1) (e := 2) (size := 1) ((w.alloc (.cells #[.int .i64 a, .int .i64 b] 46)).alloc (.cells o1 46)) #[] 0 (by simp) (Nat.zero_le _) (by simp); simpa [sdI] using own_drewN this k1), (by
        repeat (first | exact Below.refl _ _ | assumption | refine bl_drewN ?_ _ | refine Below.drew ?_ | refine bl_al ?_ _ | (refine Below.setCell ?_ (by simp <;> omega) _) | refine bl_tr ?_ (by assumption))), by simp [go_sem], by simp [go_sem]⟩
      case round =>
        obtain ⟨k, hk, rfl, ho, hb, c0, c1⟩ := hrel
        have hsz := World.block_lt_of_cell? wr _ c0
        have hz : w.heap.size + 1 ≤ wr.heap.size := hsz
        have hl := sdI_len x a b k
        have HO := Lib.hid ho
        have HB := Lib.hid hb
        clear ho hb
        by_cases hlt : k < 48
        · have s1 : (1 : Int) ≤ (k : Int) + 1 := by omega
          have s2 : (k : Int) + 1 ≤ 48 := by omega
          cases hq1 : (lowN (drf x ((k : Int) + 1)) ((k : Int) + 1) == a) <;> cases hq2 : (lowD (drf x ((k : Int) + 1)) ((k : Int) + 1) == b)
          case true.true =>
            have hs := sdI_t (x := x) (a := a) (b := b) (k := k) (by simp only [sdB, hq1, hq2, Bool.and_true])
            have hl1 : (sdI x a b (k + 1)).length = (sdI x a b k).length + 1 := by rw [hs]; simp
            have HS := Lib.hid hs
            have HL := Lib.hid hl1
            clear hs hl1
            go_wp2
            go_region_held3 (fun w' => w'.cell? ⟨w.heap.size, 0, none⟩ = some (.int .i64 a) ∧ w'.cell? ⟨w.heap.size, 1, none⟩ = some (.int .i64 b)) (((try dsimp only); (refine ⟨?_, ?_⟩ <;> (with_reducible (repeat (first | assumption | refine keepD ?_ | refine keepN ?_ _ | refine keepA ?_))))))
              (first | (go_at_call 65; refine (l03Drift_any _ _ _ (by omega) (by omega) (by omega) (by omega)).mono ?_; rintro e w' ⟨rfl, o1, o2, k1, rfl⟩))
            go_wp2_with (at_builtin; refine wpList_append_own _ rfl _ _ 31 rfl (w.heap.size + 1) 2 i0 (.int .i64 0) 1 8 Try.underlying31 hi hz0 hz1 hz2 rfl (by decide) _ _ _ rfl (own_drewN (((HO.out.alloc (.cells o1 46)).alloc (.cells o2 46)).alloc (.cells #[.int .i64 ((k : Int) + 1)] 2)) _) ⟨wr.heap.size + 1 + 1, 0, none⟩ 1 1 [.int .i64 ((k : Int) + 1)] rfl rfl (cell_one_new2 _ _ _ _ _ _) (one_int _ _) (by unfold maxLen; omega) (by omega) (by simp; omega) ?_; intro v' w1 hown' hgrow _)
            have hb2 := (bl_drewN (((HB.out.alloc (by omega) (.cells o1 46)).alloc (by simp; omega) (.cells o2 46)).alloc (by simp; omega) (.cells #[.int .i64 ((k : Int) + 1)] 2)) _).grown hgrow (by simp; omega) (fun j hj => Nat.le_trans (Nat.le_succ _) (HO.out.lt j hj).1)
            have hc0 := hgrow.cell (a := ⟨w.heap.size, 0, none⟩) (keepN (keepA (keepA (keepA c0))) _) (fun e1 => absurd (HO.out.lt _ e1.symm).1 (Nat.not_succ_le_self w.heap.size))
            have hc1 := hgrow.cell (a := ⟨w.heap.size, 1, none⟩) (keepN (keepA (keepA (keepA c1))) _) (fun e1 => absurd (HO.out.lt _ e1.symm).1 (Nat.not_succ_le_self w.heap.size))
            go_roundw
            case rel => exact ⟨k + 1, by omega, by go_num, by rw [HL.out, HS.out, List.map_append]; exact hown', hb2, hc0, hc1⟩
            case measure => simp [intOf]; omega
          all_goals
            have hs := sdI_f (x := x) (a := a) (b := b) (k := k) (by simp only [sdB, hq1, hq2, Bool.and_true, Bool.and_false])
            have HS := Lib.hid hs
            clear hs
            go_wp2
            go_region_held3 (fun w' => w'.cell? ⟨w.heap.size, 0, none⟩ = some (.int .i64 a) ∧ w'.cell? ⟨w.heap.size, 1, none⟩ = some (.int .i64 b)) (((try dsimp only); (refine ⟨?_, ?_⟩ <;> (with_reducible (repeat (first | assumption | refine keepD ?_ | refine keepN ?_ _ | refine keepA ?_))))))
              (first | (go_at_call 65; refine (l03Drift_any _ _ _ (by omega) (by omega) (by omega) (by omega)).mono ?_; rintro e w' ⟨rfl, o1, o2, k1, rfl⟩))
            go_wp2
            go_roundw
            case rel => exact ⟨k + 1, by omega, by go_num, by rw [HS.out]; exact own_drewN ((HO.out.alloc _).alloc _) _, bl_drewN ((HB.out.alloc (by omega) _).alloc (by simp; omega) _) _, keepN (keepA (keepA c0)) _, keepN (keepA (keepA c1)) _⟩
            case measure => simp [intOf]; omega
        · have e : k = 48 := by omega
          subst e
          go_wp2
          go_ret2
          obtain ⟨A1, c1, h1, h2, h3⟩ := SlR.mk rfl (HO.out.mono (Nat.le_succ _)) HB.out
          simp only [Ending.returned.injEq] at h1
          rw [h1]
          exact ⟨A1, c1, rfl, h2, h3⟩
set_option maxHeartbeats 2000000 in
theorem law_SlitsForDrift (x : Int) (_wx : (Lit.int .i64 x).wf = true) (a : Int) (_wa : (Lit.int .i64 a).wf = true) (b : Int) (_wb : (Lit.int .i64 b).wf = true) (w : World) :
    Calls Try.prog 11 #[.int .i64 x, .agg #[.int .i64 a, .int .i64 b]] w fun e w' => e = .returned (.bool true) ∧ Below w.heap.size w w' := by
  have hn := sdX_le x a b
  have hn2 : (sdX x a b).length ≤ 1152921504606846976 := by omega
  go_enter Try.func11, Try.ntmps11
  go_wp2_with (first | (go_at_call 36; refine (toFraction_any _ _ _).mono ?_; rintro e w' ⟨rfl, o1, o2, o3, rfl⟩) | fail)
  refine (lSlitsForDrift_any _ _ _ _).mono ?_
  rintro e w1 ⟨A0, c0, rfl, own0, hb0⟩
  have T1 : Below w.heap.size w w1 := by
    repeat (first | exact Below.refl _ _ | assumption | refine bl_drewN ?_ _ | refine Below.drew ?_ | refine bl_al ?_ _ | (refine Below.setCell ?_ (by simp <;> omega) _) | refine bl_tr ?_ (by assumption))
  have f0 : w1.cell? ⟨w.heap.size, 0, none⟩ = some (.int .i64 a) := bcell_of hb0 (by first | (with_reducible assumption) | (simp [go_sem]; done) | (with_reducible (repeat (first | assumption | refine keepD ?_ | refine keepN ?_ _ | refine keepA ?_))))
  have f1 : w1.cell? ⟨w.heap.size, 1, none⟩ = some (.int .i64 b) := bcell_of hb0 (by first | (with_reducible assumption) | (simp [go_sem]; done) | (with_reducible (repeat (first | assumption | refine keepD ?_ | refine keepN ?_ _ | refine keepA ?_))))
  have q1 : w.heap.size < w1.heap.size := World.block_lt_of_cell? w1 _ f0
  have OWN0 := Lib.hid own0
  have R0 := Lib.hid (RI.of_own own0)
  have L0 := Lib.hid (own_lt own0)
  have U1 := Lib.hid T1
  clear own0 hb0 T1
  go_wp2_with (first | (go_at_call 36; refine (toFraction_any _ _ _).mono ?_; rintro e w' ⟨rfl, o1, o2, o3, rfl⟩) | fail)
  refine (SlitsForDrift_any _ _ _ _).mono ?_
  rintro e w2 ⟨A1, c1, rfl, own1, hb1⟩
  have M1 := Lib.hid (show Below w1.heap.size w1 w2 from by
    repeat (first | exact Below.refl _ _ | assumption | refine bl_drewN ?_ _ | refine Below.drew ?_ | refine bl_al ?_ _ | (refine Below.setCell ?_ (by simp <;> omega) _) | refine bl_tr ?_ (by assumption)))
  have T2 : Below w.heap.size w w2 := bl_tr U1.out M1.out
  have g0 : w2.cell? ⟨w.heap.size, 0, none⟩ = some (.int .i64 a) := bcell_of hb1 (by first | (with_reducible assumption) | (simp [go_sem]; done) | (with_reducible (repeat (first | assumption | refine keepD ?_ | refine keepN ?_ _ | refine keepA ?_))))
  have g1 : w2.cell? ⟨w.heap.size, 1, none⟩ = some (.int .i64 b) := bcell_of hb1 (by first | (with_reducible assumption) | (simp [go_sem]; done) | (with_reducible (repeat (first | assumption | refine keepD ?_ | refine keepN ?_ _ | refine keepA ?_))))
  have q2 : w.heap.size < w2.heap.size := World.block_lt_of_cell? w2 _ g0
  have OWN1 := Lib.hid own1
  have R1 := Lib.hid (RI.of_own own1)
  have R02 := Lib.hid (R0.out.below M1.out)
  have U2 := Lib.hid T2
  have LB := Lib.hid (show ∀ k, (Value.slice A1 (sdX x a b).length c1).ownBlock = some k → w1.heap.size ≤ k from fun k hk => Nat.le_trans (by first | exact Nat.le_refl _ | (simp; omega) | (simp; done)) (own1.lt k hk).1)
  clear own1 hb1 T2
  go_wp2_with fail
  refine (eqInt64S_same _ _ _ _ _ (sdX x a b) _ hn2 R1.out R02.out).mono ?_
  rintro e w' ⟨rfl, k1, rfl⟩
  go_wp2_with fail
  refine (markInt64S_any _ _ _ _ _ 1 _ hn2 (by omega) (by omega) (own_drewN OWN1.out _)).mono ?_
  rintro e w3 ⟨rfl, own3, hg3⟩
  have R13 := Lib.hid (RI.of_own own3)
  have T3 : Below w.heap.size w w3 := (bl_drewN U2.out _).grown hg3 U2.out.size (fun k hk => Nat.le_trans U1.out.size (LB.out k hk))
  have R03 := Lib.hid (RI.grown (R02.out.drewN k1) (fun b off hA => (L0.out b off hA).2) hg3 (fun k hk => LB.out k hk))
  have h0 : w3.cell? ⟨w.heap.size, 0, none⟩ = some (.int .i64 a) := hg3.cell (a := ⟨w.heap.size, 0, none⟩) (w := w2.drewN k1) g0 (fun e1 => by have hx : w1.heap.size ≤ w.heap.size := LB.out _ e1.symm; omega)
  have h1 : w3.cell? ⟨w.heap.size, 1, none⟩ = some (.int .i64 b) := hg3.cell (a := ⟨w.heap.size, 1, none⟩) (w := w2.drewN k1) g1 (fun e1 => by have hx : w1.heap.size ≤ w.heap.size := LB.out _ e1.symm; omega)
  have q3 : w.heap.size < w3.heap.size := World.block_lt_of_cell? w3 _ h0
  have U3 := Lib.hid T3
  clear own3 hg3 T3
  have p1 : (0 : Int) ≤ 1 + ((sdX x a b).length : Int) := by omega
  have p2 : (1 : Int) + ((sdX x a b).length : Int) ≤ 2000000 := by omega
  go_wp2_with fail
  refine (heldInt64S_same _ _ _ 1 _ hn2 (by omega) (by omega) R13.out).mono ?_
  rintro e w' ⟨rfl, k2, rfl⟩
  go_wp2_with (first | (go_at_call 36; refine (toFraction_any _ _ _).mono ?_; rintro e w' ⟨rfl, o1, o2, o3, rfl⟩) | fail)
  refine (SlitsForDrift_any _ _ _ _).mono ?_
  rintro e w4 ⟨A2, c2, rfl, own4, hb4⟩
  have M3 := Lib.hid (show Below w3.heap.size w3 w4 from by
    repeat (first | exact Below.refl _ _ | assumption | refine bl_drewN ?_ _ | refine Below.drew ?_ | refine bl_al ?_ _ | (refine Below.setCell ?_ (by simp <;> omega) _) | refine bl_tr ?_ (by assumption)))
  have U4 := Lib.hid (bl_tr U3.out M3.out)
  have R24 := Lib.hid (RI.of_own own4)
  have R04 := Lib.hid (R03.out.below M3.out)
  have R14 := Lib.hid (R13.out.below M3.out)
  clear own4 hb4
  go_wp2_with fail
  refine (eqInt64S_same _ _ _ _ _ (sdX x a b) _ hn2 R24.out R04.out).mono ?_
  rintro e w' ⟨rfl, k3, rfl⟩
  go_wp2_with fail
  refine (heldInt64S_same _ _ _ 1 _ hn2 (by omega) (by omega) (R14.out.drewN k3)).mono ?_
  rintro e w' ⟨rfl, k4, rfl⟩
  go_wp2_with fail
  go_ret
  exact ⟨rfl, bl_drewN U4.out _⟩
end Go.Proofs.Ytdmiieijflochaa

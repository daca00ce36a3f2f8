/-
  PROVED HERE: the walks of laws over fractions: the program and the reference agree. CONDITIONS: none beyond that each number is an int64.
-/
import Derived.Test.YtgbfnlhldkgmoaaFracA
import Derived.Deep.DeepCutAuto
namespace Go.Proofs.Ytgbfnlhldkgmoaa
open Go.RowKit

/-- What a sum, a product .. hands back: k is the code of the arguments; p over q what is put in lowest terms. -/
def rN (k p q : Int) : Int := if k = 0 then cN (lowN p q) (lowD p q) else 0
def rD (k p q : Int) : Int := if k = 0 then cD (lowN p q) (lowD p q) else 0
def rC (k p q : Int) : Int := if k = 0 then cC (lowN p q) (lowD p q) else k
theorem r_no {k p q : Int} (h : k ≠ 0) : rN k p q = 0 ∧ rD k p q = 0 ∧ rC k p q = k := by simp [rN, rD, rC, h]
theorem r_ok {p q : Int} : rN 0 p q = cN (lowN p q) (lowD p q) ∧ rD 0 p q = cD (lowN p q) (lowD p q) ∧ rC 0 p q = cC (lowN p q) (lowD p q) := by simp [rN, rD, rC]
theorem mul_bd (x y A B : Int) (hA : 0 ≤ A) (h1 : -A ≤ x) (h2 : x ≤ A) (h3 : 0 ≤ y) (h4 : y ≤ B) : -(A * B) ≤ x * y ∧ x * y ≤ A * B := by
  constructor
  · have e1 : -A * y ≤ x * y := Int.mul_le_mul_of_nonneg_right h1 h3
    have e2 : A * y ≤ A * B := Int.mul_le_mul_of_nonneg_left h4 hA
    have e3 : -A * y = -(A * y) := by rw [Int.neg_mul]
    omega
  · have e1 : x * y ≤ A * y := Int.mul_le_mul_of_nonneg_right h2 h3
    have e2 : A * y ≤ A * B := Int.mul_le_mul_of_nonneg_left h4 hA
    omega
theorem mul_bd2 (x y A B : Int) (hA : 0 ≤ A) (_hB : 0 ≤ B) (h1 : -A ≤ x) (h2 : x ≤ A) (h3 : -B ≤ y) (h4 : y ≤ B) : -(A * B) ≤ x * y ∧ x * y ≤ A * B := by
  by_cases hy : 0 ≤ y
  · exact mul_bd x y A B hA h1 h2 hy h4
  · obtain ⟨e1, e2⟩ := mul_bd x (-y) A B hA h1 h2 (by omega) (by omega)
    have e3 : x * (-y) = -(x * y) := by rw [Int.mul_neg]
    omega
theorem mul_pos_bd (x y : Int) (h1 : 1 ≤ x) (h2 : 1 ≤ y) : 1 ≤ x * y := by
  have := Int.mul_le_mul_of_nonneg_right h1 (show (0:Int) ≤ y by omega)
  omega
theorem lowD_bd2 (b d : Int) (h : 1 ≤ b) : 1 ≤ b / G b d ∧ b / G b d ≤ b := by
  have e : G b d = G d b := by unfold G; rw [Int.gcd_comm]
  rw [e]
  exact lowD_bd d b h
def mkN (x y : Int) : Int := if y < 0 then -x else x
def mkD (_x y : Int) : Int := if y < 0 then -y else y
theorem mkN_pos {x y : Int} (h : ¬ y < 0) : mkN x y = x := if_neg h
theorem mkD_pos {x y : Int} (h : ¬ y < 0) : mkD x y = y := if_neg h
theorem mkN_neg {x y : Int} (h : -y < 0) : mkN (-x) (-y) = x := by rw [mkN, if_pos h]; omega
theorem mkD_neg {x y : Int} (h : -y < 0) : mkD (-x) (-y) = y := by rw [mkD, if_pos h]; omega
theorem keepW {w : World} {a p : Addr} {v u : Value} (h : w.cell? a = some v) (hne : p.block ≠ a.block) : (w.setCell p u).cell? a = some v := by
  rw [World.cell?_setCell_other w p a u (fun e => hne (by rw [e]))]; exact h
theorem byhave {p q : Prop} (h : p) (k : p → q) : q := k h
theorem bfroz_of {W w1 : World} (hb : Below W.heap.size W w1) {b o : Nat} {v : Value} (h : W.cell? ⟨b, o, none⟩ = some v) (hf : W.frozen? ⟨b, o, none⟩ = false) : w1.frozen? ⟨b, o, none⟩ = false :=
  (hb.frozen (p := ⟨b, o, none⟩) (World.block_lt_of_cell? W _ h)).trans hf

def kMakeFraction (x y : Int) : Int := if inB x (-1000000000000) 1000000000000 then (if inB y (-1000000000000) 1000000000000 then (if decide (y ≠ 0) then (0) else 2) else 2) else 2
set_option maxHeartbeats 1000000 in
theorem MakeFraction_any (x y : Int) (w : World) :
    Calls Try.prog 19 #[.int .i64 x, .int .i64 y] w fun e w' => e = .returned (.tuple #[.agg #[.int .i64 (rN (kMakeFraction x y) (mkN x y) (mkD x y)), .int .i64 (rD (kMakeFraction x y) (mkN x y) (mkD x y))], .int .i64 (rC (kMakeFraction x y) (mkN x y) (mkD x y))]) ∧ Below w.heap.size w w' := by
  cases h0 : inB x (-1000000000000) 1000000000000
  case false =>
    have hk : (kMakeFraction x y) = 2 := by simp [kMakeFraction, h0]
    obtain ⟨e1, e2, e3⟩ := r_no (k := (kMakeFraction x y)) (p := mkN x y) (q := mkD x y) (by rw [hk]; decide)
    rw [e1, e2, e3, hk]
    clear e1 e2 e3 hk
    go_enter Try.func19, Try.ntmps19
    go_wp2_with (first | (go_at_call 42; refine (ValidFraction_any _ _ _).mono ?_; rintro e w' ⟨rfl, o1, k1, rfl⟩) | (go_at_call 49; refine (l02Ok_any _ _ _).mono ?_; rintro e w' ⟨rfl, o1, k1, rfl⟩) | (go_at_call 48; refine (lowest_any _ _ _ (by omega) (by omega) (by omega) (by omega)).mono ?_; rintro e w' ⟨rfl, o1, k1, rfl⟩) | (go_at_call 47; refine (checked_any _ _ _).mono ?_; rintro e w' ⟨rfl, o1, o2, o3, k1, rfl⟩) | (go_at_call 45; refine (l02Full_any _ _ _ (by omega) (by omega) (by omega) (by omega)).mono ?_; rintro e w' ⟨rfl, o1, o2, o3, o4, k1, rfl⟩) | (go_at_call 58; refine (l02Make_any _ _ _ (by omega) (by omega) (by omega) (by omega)).mono ?_; rintro e w' ⟨rfl, o1, k1, rfl⟩) | (go_at_call 46; refine (within_any _ _ _ _).mono ?_; rintro e w' ⟨rfl, rfl⟩) | (go_at_call 44; refine (l00In_any _ _ _ _).mono ?_; rintro e w' ⟨rfl, rfl⟩) | (go_at_call 52; refine (gcd_any _ _ _ (by omega) (by omega) (by omega) (by omega)).mono ?_; rintro e w' ⟨rfl, ng, rfl⟩) | (go_at_call 51; refine (lgcd_any _ _ _ (by omega) (by omega) (by omega) (by omega)).mono ?_; rintro e w' ⟨rfl, rfl⟩) | (go_at_call 50; refine (l00Size_any _ _ (by omega) (by omega)).mono ?_; rintro e w' ⟨rfl, rfl⟩) | (go_at_call 57; refine (driftOf_any _ _ _ (by omega) (by omega) (by omega) (by omega)).mono ?_; rintro e w' ⟨rfl, o1, o2, k1, rfl⟩) | (go_at_call 56; refine (l03Drift_any _ _ _ (by omega) (by omega) (by omega) (by omega)).mono ?_; rintro e w' ⟨rfl, o1, o2, k1, rfl⟩) | go_in)
    refine bodyPost_ret (v := .tuple #[.agg #[.int .i64 0, .int .i64 0], .int .i64 2]) (by simp [results, Try.results19, go_sem]) rfl ⟨rfl, ?_⟩
    repeat (first | (with_reducible exact Below.refl _ _) | (with_reducible assumption) | (with_reducible refine bl_drewN ?_ _) | (with_reducible refine Below.drew ?_) | (with_reducible refine bl_al ?_ _) | (with_reducible refine Below.setCell ?_ (by first | (simp; done) | (simp; omega)) _) | (with_reducible refine bl_tr ?_ (by assumption)))
  case true =>
    cases h1 : inB y (-1000000000000) 1000000000000
    case false =>
      have hk : (kMakeFraction x y) = 2 := by simp [kMakeFraction, h0, h1]
      obtain ⟨e1, e2, e3⟩ := r_no (k := (kMakeFraction x y)) (p := mkN x y) (q := mkD x y) (by rw [hk]; decide)
      rw [e1, e2, e3, hk]
      clear e1 e2 e3 hk
      obtain ⟨_, _⟩ := inB_t h0
      go_enter Try.func19, Try.ntmps19
      go_wp2_with (first | (go_at_call 42; refine (ValidFraction_any _ _ _).mono ?_; rintro e w' ⟨rfl, o1, k1, rfl⟩) | (go_at_call 49; refine (l02Ok_any _ _ _).mono ?_; rintro e w' ⟨rfl, o1, k1, rfl⟩) | (go_at_call 48; refine (lowest_any _ _ _ (by omega) (by omega) (by omega) (by omega)).mono ?_; rintro e w' ⟨rfl, o1, k1, rfl⟩) | (go_at_call 47; refine (checked_any _ _ _).mono ?_; rintro e w' ⟨rfl, o1, o2, o3, k1, rfl⟩) | (go_at_call 45; refine (l02Full_any _ _ _ (by omega) (by omega) (by omega) (by omega)).mono ?_; rintro e w' ⟨rfl, o1, o2, o3, o4, k1, rfl⟩) | (go_at_call 58; refine (l02Make_any _ _ _ (by omega) (by omega) (by omega) (by omega)).mono ?_; rintro e w' ⟨rfl, o1, k1, rfl⟩) | (go_at_call 46; refine (within_any _ _ _ _).mono ?_; rintro e w' ⟨rfl, rfl⟩) | (go_at_call 44; refine (l00In_any _ _ _ _).mono ?_; rintro e w' ⟨rfl, rfl⟩) | (go_at_call 52; refine (gcd_any _ _ _ (by omega) (by omega) (by omega) (by omega)).mono ?_; rintro e w' ⟨rfl, ng, rfl⟩) | (go_at_call 51; refine (lgcd_any _ _ _ (by omega) (by omega) (by omega) (by omega)).mono ?_; rintro e w' ⟨rfl, rfl⟩) | (go_at_call 50; refine (l00Size_any _ _ (by omega) (by omega)).mono ?_; rintro e w' ⟨rfl, rfl⟩) | (go_at_call 57; refine (driftOf_any _ _ _ (by omega) (by omega) (by omega) (by omega)).mono ?_; rintro e w' ⟨rfl, o1, o2, k1, rfl⟩) | (go_at_call 56; refine (l03Drift_any _ _ _ (by omega) (by omega) (by omega) (by omega)).mono ?_; rintro e w' ⟨rfl, o1, o2, k1, rfl⟩) | go_in)
      refine bodyPost_ret (v := .tuple #[.agg #[.int .i64 0, .int .i64 0], .int .i64 2]) (by simp [results, Try.results19, go_sem]) rfl ⟨rfl, ?_⟩
      repeat (first | (with_reducible exact Below.refl _ _) | (with_reducible assumption) | (with_reducible refine bl_drewN ?_ _) | (with_reducible refine Below.drew ?_) | (with_reducible refine bl_al ?_ _) | (with_reducible refine Below.setCell ?_ (by first | (simp; done) | (simp; omega)) _) | (with_reducible refine bl_tr ?_ (by assumption)))
    case true =>
      cases h2 : decide (y ≠ 0)
      case false =>
        have hk : (kMakeFraction x y) = 2 := by simp [kMakeFraction, h0, h1, h2]
        obtain ⟨e1, e2, e3⟩ := r_no (k := (kMakeFraction x y)) (p := mkN x y) (q := mkD x y) (by rw [hk]; decide)
        rw [e1, e2, e3, hk]
        clear e1 e2 e3 hk
        obtain ⟨_, _⟩ := inB_t h0
        obtain ⟨_, _⟩ := inB_t h1
        have hy : y = 0 := by have := of_decide_eq_false h2; omega
        subst hy
        clear h2
        go_enter Try.func19, Try.ntmps19
        go_wp2_with (first | (go_at_call 42; refine (ValidFraction_any _ _ _).mono ?_; rintro e w' ⟨rfl, o1, k1, rfl⟩) | (go_at_call 49; refine (l02Ok_any _ _ _).mono ?_; rintro e w' ⟨rfl, o1, k1, rfl⟩) | (go_at_call 48; refine (lowest_any _ _ _ (by omega) (by omega) (by omega) (by omega)).mono ?_; rintro e w' ⟨rfl, o1, k1, rfl⟩) | (go_at_call 47; refine (checked_any _ _ _).mono ?_; rintro e w' ⟨rfl, o1, o2, o3, k1, rfl⟩) | (go_at_call 45; refine (l02Full_any _ _ _ (by omega) (by omega) (by omega) (by omega)).mono ?_; rintro e w' ⟨rfl, o1, o2, o3, o4, k1, rfl⟩) | (go_at_call 58; refine (l02Make_any _ _ _ (by omega) (by omega) (by omega) (by omega)).mono ?_; rintro e w' ⟨rfl, o1, k1, rfl⟩) | (go_at_call 46; refine (within_any _ _ _ _).mono ?_; rintro e w' ⟨rfl, rfl⟩) | (go_at_call 44; refine (l00In_any _ _ _ _).mono ?_; rintro e w' ⟨rfl, rfl⟩) | (go_at_call 52; refine (gcd_any _ _ _ (by omega) (by omega) (by omega) (by omega)).mono ?_; rintro e w' ⟨rfl, ng, rfl⟩) | (go_at_call 51; refine (lgcd_any _ _ _ (by omega) (by omega) (by omega) (by omega)).mono ?_; rintro e w' ⟨rfl, rfl⟩) | (go_at_call 50; refine (l00Size_any _ _ (by omega) (by omega)).mono ?_; rintro e w' ⟨rfl, rfl⟩) | (go_at_call 57; refine (driftOf_any _ _ _ (by omega) (by omega) (by omega) (by omega)).mono ?_; rintro e w' ⟨rfl, o1, o2, k1, rfl⟩) | (go_at_call 56; refine (l03Drift_any _ _ _ (by omega) (by omega) (by omega) (by omega)).mono ?_; rintro e w' ⟨rfl, o1, o2, k1, rfl⟩) | go_in)
        refine bodyPost_ret (v := .tuple #[.agg #[.int .i64 0, .int .i64 0], .int .i64 2]) (by simp [results, Try.results19, go_sem]) rfl ⟨rfl, ?_⟩
        repeat (first | (with_reducible exact Below.refl _ _) | (with_reducible assumption) | (with_reducible refine bl_drewN ?_ _) | (with_reducible refine Below.drew ?_) | (with_reducible refine bl_al ?_ _) | (with_reducible refine Below.setCell ?_ (by first | (simp; done) | (simp; omega)) _) | (with_reducible refine bl_tr ?_ (by assumption)))
      case true =>
        have hk : (kMakeFraction x y) = 0 := by simp [kMakeFraction, h0, h1, h2]
        obtain ⟨e1, e2, e3⟩ := r_ok (p := mkN x y) (q := mkD x y)
        rw [hk, e1, e2, e3]
        clear e1 e2 e3 hk
        obtain ⟨_, _⟩ := inB_t h0
        obtain ⟨_, _⟩ := inB_t h1
        have hy : y ≠ 0 := of_decide_eq_true h2
        clear h2
        by_cases hs : 0 < y
        · have e1 : mkN x y = x := mkN_pos (by omega)
          have e2 : mkD x y = y := mkD_pos (by omega)
          rw [e1, e2]
          clear e1 e2
          go_enter Try.func19, Try.ntmps19
          go_wp2_with (first | (go_at_call 42; refine (ValidFraction_any _ _ _).mono ?_; rintro e w' ⟨rfl, o1, k1, rfl⟩) | (go_at_call 49; refine (l02Ok_any _ _ _).mono ?_; rintro e w' ⟨rfl, o1, k1, rfl⟩) | (go_at_call 48; refine (lowest_any _ _ _ (by omega) (by omega) (by omega) (by omega)).mono ?_; rintro e w' ⟨rfl, o1, k1, rfl⟩) | (go_at_call 47; refine (checked_any _ _ _).mono ?_; rintro e w' ⟨rfl, o1, o2, o3, k1, rfl⟩) | (go_at_call 45; refine (l02Full_any _ _ _ (by omega) (by omega) (by omega) (by omega)).mono ?_; rintro e w' ⟨rfl, o1, o2, o3, o4, k1, rfl⟩) | (go_at_call 58; refine (l02Make_any _ _ _ (by omega) (by omega) (by omega) (by omega)).mono ?_; rintro e w' ⟨rfl, o1, k1, rfl⟩) | (go_at_call 46; refine (within_any _ _ _ _).mono ?_; rintro e w' ⟨rfl, rfl⟩) | (go_at_call 44; refine (l00In_any _ _ _ _).mono ?_; rintro e w' ⟨rfl, rfl⟩) | go_in)
          refine bodyPost_ret (v := .tuple #[.agg #[.int .i64 (cN (lowN x y) (lowD x y)), .int .i64 (cD (lowN x y) (lowD x y))], .int .i64 (cC (lowN x y) (lowD x y))]) (by simp [results, Try.results19, go_sem]) rfl ⟨rfl, ?_⟩
          repeat (first | (with_reducible exact Below.refl _ _) | (with_reducible assumption) | (with_reducible refine bl_drewN ?_ _) | (with_reducible refine Below.drew ?_) | (with_reducible refine bl_al ?_ _) | (with_reducible refine Below.setCell ?_ (by first | (simp; done) | (simp; omega)) _) | (with_reducible refine bl_tr ?_ (by assumption)))
        · obtain ⟨x, rfl⟩ : ∃ x', x = -x' := ⟨-x, by omega⟩
          obtain ⟨y, rfl⟩ : ∃ y', y = -y' := ⟨-y, by omega⟩
          have e1 : mkN (-x) (-y) = x := mkN_neg (by omega)
          have e2 : mkD (-x) (-y) = y := mkD_neg (by omega)
          rw [e1, e2]
          clear e1 e2
          have hd : decide (-y < 0) = true := decide_eq_true (by omega)
          have hz : (-y == 0) = false := by rw [beq_eq_false_iff_ne]; omega
          go_enter Try.func19, Try.ntmps19
          go_wp2_with (first | (go_at_call 46; refine (within_any _ _ _ _).mono ?_; rintro e w' ⟨rfl, rfl⟩) | (go_at_call 48; refine (lowest_neg x y _ (by omega) (by omega) (by omega) (by omega)).mono ?_; rintro e w' ⟨rfl, o1, k1, rfl⟩) | (go_at_call 47; refine (checked_any _ _ _).mono ?_; rintro e w' ⟨rfl, o1, o2, o3, k1, rfl⟩) | go_in)
          refine bodyPost_ret (v := .tuple #[.agg #[.int .i64 (cN (lowN x y) (lowD x y)), .int .i64 (cD (lowN x y) (lowD x y))], .int .i64 (cC (lowN x y) (lowD x y))]) (by simp [results, Try.results19, go_sem]) rfl ⟨rfl, ?_⟩
          repeat (first | (with_reducible exact Below.refl _ _) | (with_reducible assumption) | (with_reducible refine bl_drewN ?_ _) | (with_reducible refine Below.drew ?_) | (with_reducible refine bl_al ?_ _) | (with_reducible refine Below.setCell ?_ (by first | (simp; done) | (simp; omega)) _) | (with_reducible refine bl_tr ?_ (by assumption)))
set_option maxHeartbeats 1000000 in
theorem lMakeFraction_any (x y : Int) (w : World) :
    Calls Try.prog 18 #[.int .i64 x, .int .i64 y] w fun e w' => e = .returned (.tuple #[.agg #[.int .i64 (rN (kMakeFraction x y) (mkN x y) (mkD x y)), .int .i64 (rD (kMakeFraction x y) (mkN x y) (mkD x y))], .int .i64 (rC (kMakeFraction x y) (mkN x y) (mkD x y))]) ∧ Below w.heap.size w w' := by
  cases h0 : inB x (-1000000000000) 1000000000000
  case false =>
    have hk : (kMakeFraction x y) = 2 := by simp [kMakeFraction, h0]
    obtain ⟨e1, e2, e3⟩ := r_no (k := (kMakeFraction x y)) (p := mkN x y) (q := mkD x y) (by rw [hk]; decide)
    rw [e1, e2, e3, hk]
    clear e1 e2 e3 hk
    go_enter Try.func18, Try.ntmps18
    go_wp2_with (first | (go_at_call 42; refine (ValidFraction_any _ _ _).mono ?_; rintro e w' ⟨rfl, o1, k1, rfl⟩) | (go_at_call 49; refine (l02Ok_any _ _ _).mono ?_; rintro e w' ⟨rfl, o1, k1, rfl⟩) | (go_at_call 48; refine (lowest_any _ _ _ (by omega) (by omega) (by omega) (by omega)).mono ?_; rintro e w' ⟨rfl, o1, k1, rfl⟩) | (go_at_call 47; refine (checked_any _ _ _).mono ?_; rintro e w' ⟨rfl, o1, o2, o3, k1, rfl⟩) | (go_at_call 45; refine (l02Full_any _ _ _ (by omega) (by omega) (by omega) (by omega)).mono ?_; rintro e w' ⟨rfl, o1, o2, o3, o4, k1, rfl⟩) | (go_at_call 58; refine (l02Make_any _ _ _ (by omega) (by omega) (by omega) (by omega)).mono ?_; rintro e w' ⟨rfl, o1, k1, rfl⟩) | (go_at_call 46; refine (within_any _ _ _ _).mono ?_; rintro e w' ⟨rfl, rfl⟩) | (go_at_call 44; refine (l00In_any _ _ _ _).mono ?_; rintro e w' ⟨rfl, rfl⟩) | (go_at_call 52; refine (gcd_any _ _ _ (by omega) (by omega) (by omega) (by omega)).mono ?_; rintro e w' ⟨rfl, ng, rfl⟩) | (go_at_call 51; refine (lgcd_any _ _ _ (by omega) (by omega) (by omega) (by omega)).mono ?_; rintro e w' ⟨rfl, rfl⟩) | (go_at_call 50; refine (l00Size_any _ _ (by omega) (by omega)).mono ?_; rintro e w' ⟨rfl, rfl⟩) | (go_at_call 57; refine (driftOf_any _ _ _ (by omega) (by omega) (by omega) (by omega)).mono ?_; rintro e w' ⟨rfl, o1, o2, k1, rfl⟩) | (go_at_call 56; refine (l03Drift_any _ _ _ (by omega) (by omega) (by omega) (by omega)).mono ?_; rintro e w' ⟨rfl, o1, o2, k1, rfl⟩) | go_in)
    refine bodyPost_ret (v := .tuple #[.agg #[.int .i64 0, .int .i64 0], .int .i64 2]) (by simp [results, Try.results18, go_sem]) rfl ⟨rfl, ?_⟩
    repeat (first | (with_reducible exact Below.refl _ _) | (with_reducible assumption) | (with_reducible refine bl_drewN ?_ _) | (with_reducible refine Below.drew ?_) | (with_reducible refine bl_al ?_ _) | (with_reducible refine Below.setCell ?_ (by first | (simp; done) | (simp; omega)) _) | (with_reducible refine bl_tr ?_ (by assumption)))
  case true =>
    cases h1 : inB y (-1000000000000) 1000000000000
    case false =>
      have hk : (kMakeFraction x y) = 2 := by simp [kMakeFraction, h0, h1]
      obtain ⟨e1, e2, e3⟩ := r_no (k := (kMakeFraction x y)) (p := mkN x y) (q := mkD x y) (by rw [hk]; decide)
      rw [e1, e2, e3, hk]
      clear e1 e2 e3 hk
      obtain ⟨_, _⟩ := inB_t h0
      go_enter Try.func18, Try.ntmps18
      go_wp2_with (first | (go_at_call 42; refine (ValidFraction_any _ _ _).mono ?_; rintro e w' ⟨rfl, o1, k1, rfl⟩) | (go_at_call 49; refine (l02Ok_any _ _ _).mono ?_; rintro e w' ⟨rfl, o1, k1, rfl⟩) | (go_at_call 48; refine (lowest_any _ _ _ (by omega) (by omega) (by omega) (by omega)).mono ?_; rintro e w' ⟨rfl, o1, k1, rfl⟩) | (go_at_call 47; refine (checked_any _ _ _).mono ?_; rintro e w' ⟨rfl, o1, o2, o3, k1, rfl⟩) | (go_at_call 45; refine (l02Full_any _ _ _ (by omega) (by omega) (by omega) (by omega)).mono ?_; rintro e w' ⟨rfl, o1, o2, o3, o4, k1, rfl⟩) | (go_at_call 58; refine (l02Make_any _ _ _ (by omega) (by omega) (by omega) (by omega)).mono ?_; rintro e w' ⟨rfl, o1, k1, rfl⟩) | (go_at_call 46; refine (within_any _ _ _ _).mono ?_; rintro e w' ⟨rfl, rfl⟩) | (go_at_call 44; refine (l00In_any _ _ _ _).mono ?_; rintro e w' ⟨rfl, rfl⟩) | (go_at_call 52; refine (gcd_any _ _ _ (by omega) (by omega) (by omega) (by omega)).mono ?_; rintro e w' ⟨rfl, ng, rfl⟩) | (go_at_call 51; refine (lgcd_any _ _ _ (by omega) (by omega) (by omega) (by omega)).mono ?_; rintro e w' ⟨rfl, rfl⟩) | (go_at_call 50; refine (l00Size_any _ _ (by omega) (by omega)).mono ?_; rintro e w' ⟨rfl, rfl⟩) | (go_at_call 57; refine (driftOf_any _ _ _ (by omega) (by omega) (by omega) (by omega)).mono ?_; rintro e w' ⟨rfl, o1, o2, k1, rfl⟩) | (go_at_call 56; refine (l03Drift_any _ _ _ (by omega) (by omega) (by omega) (by omega)).mono ?_; rintro e w' ⟨rfl, o1, o2, k1, rfl⟩) | go_in)
      refine bodyPost_ret (v := .tuple #[.agg #[.int .i64 0, .int .i64 0], .int .i64 2]) (by simp [results, Try.results18, go_sem]) rfl ⟨rfl, ?_⟩
      repeat (first | (with_reducible exact Below.refl _ _) | (with_reducible assumption) | (with_reducible refine bl_drewN ?_ _) | (with_reducible refine Below.drew ?_) | (with_reducible refine bl_al ?_ _) | (with_reducible refine Below.setCell ?_ (by first | (simp; done) | (simp; omega)) _) | (with_reducible refine bl_tr ?_ (by assumption)))
    case true =>
      cases h2 : decide (y ≠ 0)
      case false =>
        have hk : (kMakeFraction x y) = 2 := by simp [kMakeFraction, h0, h1, h2]
        obtain ⟨e1, e2, e3⟩ := r_no (k := (kMakeFraction x y)) (p := mkN x y) (q := mkD x y) (by rw [hk]; decide)
        rw [e1, e2, e3, hk]
        clear e1 e2 e3 hk
        obtain ⟨_, _⟩ := inB_t h0
        obtain ⟨_, _⟩ := inB_t h1
        have hy : y = 0 := by have := of_decide_eq_false h2; omega
        subst hy
        clear h2
        go_enter Try.func18, Try.ntmps18
        go_wp2_with (first | (go_at_call 42; refine (ValidFraction_any _ _ _).mono ?_; rintro e w' ⟨rfl, o1, k1, rfl⟩) | (go_at_call 49; refine (l02Ok_any _ _ _).mono ?_; rintro e w' ⟨rfl, o1, k1, rfl⟩) | (go_at_call 48; refine (lowest_any _ _ _ (by omega) (by omega) (by omega) (by omega)).mono ?_; rintro e w' ⟨rfl, o1, k1, rfl⟩) | (go_at_call 47; refine (checked_any _ _ _).mono ?_; rintro e w' ⟨rfl, o1, o2, o3, k1, rfl⟩) | (go_at_call 45; refine (l02Full_any _ _ _ (by omega) (by omega) (by omega) (by omega)).mono ?_; rintro e w' ⟨rfl, o1, o2, o3, o4, k1, rfl⟩) | (go_at_call 58; refine (l02Make_any _ _ _ (by omega) (by omega) (by omega) (by omega)).mono ?_; rintro e w' ⟨rfl, o1, k1, rfl⟩) | (go_at_call 46; refine (within_any _ _ _ _).mono ?_; rintro e w' ⟨rfl, rfl⟩) | (go_at_call 44; refine (l00In_any _ _ _ _).mono ?_; rintro e w' ⟨rfl, rfl⟩) | (go_at_call 52; refine (gcd_any _ _ _ (by omega) (by omega) (by omega) (by omega)).mono ?_; rintro e w' ⟨rfl, ng, rfl⟩) | (go_at_call 51; refine (lgcd_any _ _ _ (by omega) (by omega) (by omega) (by omega)).mono ?_; rintro e w' ⟨rfl, rfl⟩) | (go_at_call 50; refine (l00Size_any _ _ (by omega) (by omega)).mono ?_; rintro e w' ⟨rfl, rfl⟩) | (go_at_call 57; refine (driftOf_any _ _ _ (by omega) (by omega) (by omega) (by omega)).mono ?_; rintro e w' ⟨rfl, o1, o2, k1, rfl⟩) | (go_at_call 56; refine (l03Drift_any _ _ _ (by omega) (by omega) (by omega) (by omega)).mono ?_; rintro e w' ⟨rfl, o1, o2, k1, rfl⟩) | go_in)
        refine bodyPost_ret (v := .tuple #[.agg #[.int .i64 0, .int .i64 0], .int .i64 2]) (by simp [results, Try.results18, go_sem]) rfl ⟨rfl, ?_⟩
        repeat (first | (with_reducible exact Below.refl _ _) | (with_reducible assumption) | (with_reducible refine bl_drewN ?_ _) | (with_reducible refine Below.drew ?_) | (with_reducible refine bl_al ?_ _) | (with_reducible refine Below.setCell ?_ (by first | (simp; done) | (simp; omega)) _) | (with_reducible refine bl_tr ?_ (by assumption)))
      case true =>
        have hk : (kMakeFraction x y) = 0 := by simp [kMakeFraction, h0, h1, h2]
        obtain ⟨e1, e2, e3⟩ := r_ok (p := mkN x y) (q := mkD x y)
        rw [hk, e1, e2, e3]
        clear e1 e2 e3 hk
        obtain ⟨_, _⟩ := inB_t h0
        obtain ⟨_, _⟩ := inB_t h1
        have hy : y ≠ 0 := of_decide_eq_true h2
        clear h2
        by_cases hs : 0 < y
        · have e1 : mkN x y = x := mkN_pos (by omega)
          have e2 : mkD x y = y := mkD_pos (by omega)
          rw [e1, e2]
          clear e1 e2
          go_enter Try.func18, Try.ntmps18
          go_wp2_with (first | (go_at_call 42; refine (ValidFraction_any _ _ _).mono ?_; rintro e w' ⟨rfl, o1, k1, rfl⟩) | (go_at_call 49; refine (l02Ok_any _ _ _).mono ?_; rintro e w' ⟨rfl, o1, k1, rfl⟩) | (go_at_call 48; refine (lowest_any _ _ _ (by omega) (by omega) (by omega) (by omega)).mono ?_; rintro e w' ⟨rfl, o1, k1, rfl⟩) | (go_at_call 47; refine (checked_any _ _ _).mono ?_; rintro e w' ⟨rfl, o1, o2, o3, k1, rfl⟩) | (go_at_call 45; refine (l02Full_any _ _ _ (by omega) (by omega) (by omega) (by omega)).mono ?_; rintro e w' ⟨rfl, o1, o2, o3, o4, k1, rfl⟩) | (go_at_call 58; refine (l02Make_any _ _ _ (by omega) (by omega) (by omega) (by omega)).mono ?_; rintro e w' ⟨rfl, o1, k1, rfl⟩) | (go_at_call 46; refine (within_any _ _ _ _).mono ?_; rintro e w' ⟨rfl, rfl⟩) | (go_at_call 44; refine (l00In_any _ _ _ _).mono ?_; rintro e w' ⟨rfl, rfl⟩) | go_in)
          refine bodyPost_ret (v := .tuple #[.agg #[.int .i64 (cN (lowN x y) (lowD x y)), .int .i64 (cD (lowN x y) (lowD x y))], .int .i64 (cC (lowN x y) (lowD x y))]) (by simp [results, Try.results18, go_sem]) rfl ⟨rfl, ?_⟩
          repeat (first | (with_reducible exact Below.refl _ _) | (with_reducible assumption) | (with_reducible refine bl_drewN ?_ _) | (with_reducible refine Below.drew ?_) | (with_reducible refine bl_al ?_ _) | (with_reducible refine Below.setCell ?_ (by first | (simp; done) | (simp; omega)) _) | (with_reducible refine bl_tr ?_ (by assumption)))
        · obtain ⟨x, rfl⟩ : ∃ x', x = -x' := ⟨-x, by omega⟩
          obtain ⟨y, rfl⟩ : ∃ y', y = -y' := ⟨-y, by omega⟩
          have e1 : mkN (-x) (-y) = x := mkN_neg (by omega)
          have e2 : mkD (-x) (-y) = y := mkD_neg (by omega)
          rw [e1, e2]
          clear e1 e2
          have hd : decide (-y < 0) = true := decide_eq_true (by omega)
          have hz : (-y == 0) = false := by rw [beq_eq_false_iff_ne]; omega
          go_enter Try.func18, Try.ntmps18
          go_wp2_with (first | (go_at_call 44; refine (l00In_any _ _ _ _).mono ?_; rintro e w' ⟨rfl, rfl⟩) | (go_at_call 45; refine (l02Full_any x y _ (by omega) (by omega) (by omega) (by omega)).mono ?_; rintro e w' ⟨rfl, o1, o2, o3, o4, k1, rfl⟩) | go_in)
          refine bodyPost_ret (v := .tuple #[.agg #[.int .i64 (cN (lowN x y) (lowD x y)), .int .i64 (cD (lowN x y) (lowD x y))], .int .i64 (cC (lowN x y) (lowD x y))]) (by simp [results, Try.results18, go_sem]) rfl ⟨rfl, ?_⟩
          repeat (first | (with_reducible exact Below.refl _ _) | (with_reducible assumption) | (with_reducible refine bl_drewN ?_ _) | (with_reducible refine Below.drew ?_) | (with_reducible refine bl_al ?_ _) | (with_reducible refine Below.setCell ?_ (by first | (simp; done) | (simp; omega)) _) | (with_reducible refine bl_tr ?_ (by assumption)))
set_option maxHeartbeats 2000000 in
theorem law_MakeFraction (x : Int) (_wx : (Lit.int .i64 x).wf = true) (y : Int) (_wy : (Lit.int .i64 y).wf = true) (w : World) :
    Calls Try.prog 4 #[.int .i64 x, .int .i64 y] w fun e w' => e = .returned (.bool true) ∧ Below w.heap.size w w' := by
  go_enter Try.func4, Try.ntmps4
  go_wp2_with (first | (go_at_call 18; refine (lMakeFraction_any _ _ _).mono ?_; rintro e w1 ⟨rfl, hb1⟩) | (go_at_call 19; refine (MakeFraction_any _ _ _).mono ?_; rintro e w2 ⟨rfl, hb2⟩; have d0 : w2.cell? ⟨w1.heap.size, 0, none⟩ = some (.int .i64 (rN (kMakeFraction x y) (mkN x y) (mkD x y))) := bcell_of hb2 (by first | (with_reducible (repeat (first | assumption | refine keepD ?_ | refine keepN ?_ _ | refine keepA ?_)); done) | (simp [go_sem]; done) | (simp [go_sem, World.cell?_alloc_past]; done)); have d1 : w2.cell? ⟨w1.heap.size, 1, none⟩ = some (.int .i64 (rD (kMakeFraction x y) (mkN x y) (mkD x y))) := bcell_of hb2 (by first | (with_reducible (repeat (first | assumption | refine keepD ?_ | refine keepN ?_ _ | refine keepA ?_)); done) | (simp [go_sem]; done) | (simp [go_sem, World.cell?_alloc_past]; done)); have l2 : w1.heap.size < w2.heap.size := World.block_lt_of_cell? w2 _ d0) | (go_at_call 20; refine (eqFraction_any _ _ _).mono ?_; rintro e w' ⟨rfl, o1, o2, k1, rfl⟩))
  go_ret
  refine ⟨rfl, ?_⟩
  repeat (first | (with_reducible exact Below.refl _ _) | (with_reducible assumption) | (with_reducible refine bl_drewN ?_ _) | (with_reducible refine Below.drew ?_) | (with_reducible refine bl_al ?_ _) | (with_reducible refine Below.setCell ?_ (by first | (simp; done) | (simp; omega)) _) | (with_reducible refine bl_tr ?_ (by assumption)))
end Go.Proofs.Ytgbfnlhldkgmoaa

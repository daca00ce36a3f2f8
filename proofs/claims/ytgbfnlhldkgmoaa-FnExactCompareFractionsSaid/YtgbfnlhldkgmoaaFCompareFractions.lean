/-
  PROVED HERE: the walks of CompareFractions: the program and the reference agree. CONDITIONS: none beyond that each number is an int64.
-/
import Derived.Test.YtgbfnlhldkgmoaaFracA
import Derived.Deep.DeepCutAuto
namespace Go.Proofs.Ytgbfnlhldkgmoaa
open Go.RowKit

/-- What a sum, a product .. hands back: k is the code of the arguments; p over q what is put in lowest terms. -/
def rN (k p q : Int) : Int := if k = 0 then cN (lowN p q) (lowD p q) else 0
def rD (k p q : Int) : Int := if k = 0 then cD (lowN p q) (lowD p q) else 0
def rC (k p q : Int) : Int := if k = 0 then cC (lowN p q) (lowD p q) else k
theorem r_no {k p q : Int} (h : k ≠ 0) : rN k p q = 0 ∧ rD k p q = 0 ∧ rC k p q = k := by simp [rN, rD, rC, h]
theorem r_ok {p q : Int} : rN 0 p q = cN (lowN p q) (lowD p q) ∧ rD 0 p q = cD (lowN p q) (lowD p q) ∧ rC 0 p q = cC (lowN p q) (lowD p q) := by simp [rN, rD, rC]
theorem mul_bd (x y A B : Int) (hA : 0 ≤ A) (h1 : -A ≤ x) (h2 : x ≤ A) (h3 : 0 ≤ y) (h4 : y ≤ B) : -(A * B) ≤ x * y ∧ x * y ≤ A * B := by
  constructor
  · have e1 : -A * y ≤ x * y := Int.mul_le_mul_of_nonneg_right h1 h3
    have e2 : A * y ≤ A * B := Int.mul_le_mul_of_nonneg_left h4 hA
    have e3 : -A * y = -(A * y) := by rw [Int.neg_mul]
    omega
  · have e1 : x * y ≤ A * y := Int.mul_le_mul_of_nonneg_right h2 h3
    have e2 : A * y ≤ A * B := Int.mul_le_mul_of_nonneg_left h4 hA
    omega
theorem mul_bd2 (x y A B : Int) (hA : 0 ≤ A) (_hB : 0 ≤ B) (h1 : -A ≤ x) (h2 : x ≤ A) (h3 : -B ≤ y) (h4 : y ≤ B) : -(A * B) ≤ x * y ∧ x * y ≤ A * B := by
  by_cases hy : 0 ≤ y
  · exact mul_bd x y A B hA h1 h2 hy h4
  · obtain ⟨e1, e2⟩ := mul_bd x (-y) A B hA h1 h2 (by omega) (by omega)
    have e3 : x * (-y) = -(x * y) := by rw [Int.mul_neg]
    omega
theorem mul_pos_bd (x y : Int) (h1 : 1 ≤ x) (h2 : 1 ≤ y) : 1 ≤ x * y := by
  have := Int.mul_le_mul_of_nonneg_right h1 (show (0:Int) ≤ y by omega)
  omega
theorem lowD_bd2 (b d : Int) (h : 1 ≤ b) : 1 ≤ b / G b d ∧ b / G b d ≤ b := by
  have e : G b d = G d b := by unfold G; rw [Int.gcd_comm]
  rw [e]
  exact lowD_bd d b h
def mkN (x y : Int) : Int := if y < 0 then -x else x
def mkD (_x y : Int) : Int := if y < 0 then -y else y
theorem mkN_pos {x y : Int} (h : ¬ y < 0) : mkN x y = x := if_neg h
theorem mkD_pos {x y : Int} (h : ¬ y < 0) : mkD x y = y := if_neg h
theorem mkN_neg {x y : Int} (h : -y < 0) : mkN (-x) (-y) = x := by rw [mkN, if_pos h]; omega
theorem mkD_neg {x y : Int} (h : -y < 0) : mkD (-x) (-y) = y := by rw [mkD, if_pos h]; omega
theorem keepW {w : World} {a p : Addr} {v u : Value} (h : w.cell? a = some v) (hne : p.block ≠ a.block) : (w.setCell p u).cell? a = some v := by
  rw [World.cell?_setCell_other w p a u (fun e => hne (by rw [e]))]; exact h
theorem byhave {p q : Prop} (h : p) (k : p → q) : q := k h
theorem bfroz_of {W w1 : World} (hb : Below W.heap.size W w1) {b o : Nat} {v : Value} (h : W.cell? ⟨b, o, none⟩ = some v) (hf : W.frozen? ⟨b, o, none⟩ = false) : w1.frozen? ⟨b, o, none⟩ = false :=
  (hb.frozen (p := ⟨b, o, none⟩) (World.block_lt_of_cell? W _ h)).trans hf

/-- The order of two numbers. -/
def cmpI (x y : Int) : Int := if x < y then -1 else if y < x then 1 else 0
def kCmp (a b c d : Int) : Int := if vf a b then (if vf c d then 0 else 1) else 1
def vCmp (a b c d : Int) : Int := if vf a b then (if vf c d then cmpI (a * d) (c * b) else 0) else 0
set_option maxHeartbeats 1000000 in
theorem compareFractions_any (a b c d : Int) (w : World) (m1 : -(1000000 * 1000000) ≤ a * d) (m2 : a * d ≤ 1000000 * 1000000) (m3 : -(1000000 * 1000000) ≤ c * b) (m4 : c * b ≤ 1000000 * 1000000) :
    Calls Try.prog 43 #[.agg #[.int .i64 a, .int .i64 b], .agg #[.int .i64 c, .int .i64 d]] w fun e w' => e = .returned (.int .i64 (cmpI (a * d) (c * b))) ∧ ∃ (c1 c2 : Array Value) (k : Nat), w' = ((w.alloc (.cells c1 26)).alloc (.cells c2 26)).drewN k := by
  by_cases hx : a * d < c * b
  · have e3 : cmpI (a * d) (c * b) = -1 := by unfold cmpI; rw [if_pos hx]
    rw [e3]
    clear e3
    have w1 : IntKind.i64.wrap (a * d) = a * d := IntWalk.i64_in _ ⟨by omega, by omega⟩
    have w2 : IntKind.i64.wrap (c * b) = c * b := IntWalk.i64_in _ ⟨by omega, by omega⟩
    go_enter Try.func43, Try.ntmps43
    go_wp2_with (go_quiet (fail))
    go_ret
    exact ⟨rfl, _, _, _, rfl⟩
  by_cases hy : c * b < a * d
  · have e3 : cmpI (a * d) (c * b) = 1 := by unfold cmpI; rw [if_neg (by omega), if_pos hy]
    rw [e3]
    clear e3
    have w1 : IntKind.i64.wrap (a * d) = a * d := IntWalk.i64_in _ ⟨by omega, by omega⟩
    have w2 : IntKind.i64.wrap (c * b) = c * b := IntWalk.i64_in _ ⟨by omega, by omega⟩
    go_enter Try.func43, Try.ntmps43
    go_wp2_with (go_quiet (fail))
    go_ret
    exact ⟨rfl, _, _, _, rfl⟩
  have e3 : cmpI (a * d) (c * b) = 0 := by unfold cmpI; rw [if_neg (by omega), if_neg (by omega)]
  rw [e3]
  clear e3
  have w1 : IntKind.i64.wrap (a * d) = a * d := IntWalk.i64_in _ ⟨by omega, by omega⟩
  have w2 : IntKind.i64.wrap (c * b) = c * b := IntWalk.i64_in _ ⟨by omega, by omega⟩
  go_enter Try.func43, Try.ntmps43
  go_wp2_with (go_quiet (fail))
  go_ret
  exact ⟨rfl, _, _, _, rfl⟩
set_option maxHeartbeats 1000000 in
theorem CompareFractions_any (a b c d : Int) (w : World) :
    Calls Try.prog 17 #[.agg #[.int .i64 a, .int .i64 b], .agg #[.int .i64 c, .int .i64 d]] w fun e w' => e = .returned (.tuple #[.int .i64 (vCmp a b c d), .int .i64 (kCmp a b c d)]) ∧ Below w.heap.size w w' := by
  cases h0 : vf a b
  case false =>
    have e1 : vCmp a b c d = 0 := by simp [vCmp, h0]
    have e2 : kCmp a b c d = 1 := by simp [kCmp, h0]
    rw [e1, e2]
    clear e1 e2
    go_enter Try.func17, Try.ntmps17
    go_wp2_with (first | (go_at_call 42; refine (ValidFraction_any _ _ _).mono ?_; rintro e w' ⟨rfl, o1, k1, rfl⟩) | (go_at_call 49; refine (l02Ok_any _ _ _).mono ?_; rintro e w' ⟨rfl, o1, k1, rfl⟩) | (go_at_call 48; refine (lowest_any _ _ _ (by omega) (by omega) (by omega) (by omega)).mono ?_; rintro e w' ⟨rfl, o1, k1, rfl⟩) | (go_at_call 47; refine (checked_any _ _ _).mono ?_; rintro e w' ⟨rfl, o1, o2, o3, k1, rfl⟩) | (go_at_call 45; refine (l02Full_any _ _ _ (by omega) (by omega) (by omega) (by omega)).mono ?_; rintro e w' ⟨rfl, o1, o2, o3, o4, k1, rfl⟩) | (go_at_call 58; refine (l02Make_any _ _ _ (by omega) (by omega) (by omega) (by omega)).mono ?_; rintro e w' ⟨rfl, o1, k1, rfl⟩) | go_in)
    go_ret2
    refine ⟨rfl, ?_⟩
    repeat (first | (with_reducible exact Below.refl _ _) | (with_reducible assumption) | (with_reducible refine bl_drewN ?_ _) | (with_reducible refine Below.drew ?_) | (with_reducible refine bl_al ?_ _) | (with_reducible refine Below.setCell ?_ (by first | (simp; done) | (simp; omega)) _) | (with_reducible refine bl_tr ?_ (by assumption)))
  case true =>
    obtain ⟨⟨_, _⟩, _, _⟩ := vf_t h0
    cases h1 : vf c d
    case false =>
      have e1 : vCmp a b c d = 0 := by simp [vCmp, h0, h1]
      have e2 : kCmp a b c d = 1 := by simp [kCmp, h0, h1]
      rw [e1, e2]
      clear e1 e2
      go_enter Try.func17, Try.ntmps17
      go_wp2_with (first | (go_at_call 42; refine (ValidFraction_any _ _ _).mono ?_; rintro e w' ⟨rfl, o1, k1, rfl⟩) | (go_at_call 49; refine (l02Ok_any _ _ _).mono ?_; rintro e w' ⟨rfl, o1, k1, rfl⟩) | (go_at_call 48; refine (lowest_any _ _ _ (by omega) (by omega) (by omega) (by omega)).mono ?_; rintro e w' ⟨rfl, o1, k1, rfl⟩) | (go_at_call 47; refine (checked_any _ _ _).mono ?_; rintro e w' ⟨rfl, o1, o2, o3, k1, rfl⟩) | (go_at_call 45; refine (l02Full_any _ _ _ (by omega) (by omega) (by omega) (by omega)).mono ?_; rintro e w' ⟨rfl, o1, o2, o3, o4, k1, rfl⟩) | (go_at_call 58; refine (l02Make_any _ _ _ (by omega) (by omega) (by omega) (by omega)).mono ?_; rintro e w' ⟨rfl, o1, k1, rfl⟩) | go_in)
      go_ret2
      refine ⟨rfl, ?_⟩
      repeat (first | (with_reducible exact Below.refl _ _) | (with_reducible assumption) | (with_reducible refine bl_drewN ?_ _) | (with_reducible refine Below.drew ?_) | (with_reducible refine bl_al ?_ _) | (with_reducible refine Below.setCell ?_ (by first | (simp; done) | (simp; omega)) _) | (with_reducible refine bl_tr ?_ (by assumption)))
    case true =>
      obtain ⟨⟨_, _⟩, _, _⟩ := vf_t h1
      obtain ⟨_, _⟩ := mul_bd (a) (d) 1000000 1000000 (by omega) (by omega) (by omega) (by omega) (by omega)
      obtain ⟨_, _⟩ := mul_bd (c) (b) 1000000 1000000 (by omega) (by omega) (by omega) (by omega) (by omega)
      have e1 : vCmp a b c d = cmpI (a * d) (c * b) := by simp [vCmp, h0, h1]
      have e2 : kCmp a b c d = 0 := by simp [kCmp, h0, h1]
      rw [e1, e2]
      clear e1 e2
      go_enter Try.func17, Try.ntmps17
      go_wp2_with (first | (go_at_call 43; refine (compareFractions_any _ _ _ _ _ (by assumption) (by assumption) (by assumption) (by assumption)).mono ?_; rintro e w' ⟨rfl, o1, o2, k1, rfl⟩) | (go_at_call 42; refine (ValidFraction_any _ _ _).mono ?_; rintro e w' ⟨rfl, o1, k1, rfl⟩))
      go_wp2
      go_ret2
      refine ⟨rfl, ?_⟩
      repeat (first | (with_reducible exact Below.refl _ _) | (with_reducible assumption) | (with_reducible refine bl_drewN ?_ _) | (with_reducible refine Below.drew ?_) | (with_reducible refine bl_al ?_ _) | (with_reducible refine Below.setCell ?_ (by first | (simp; done) | (simp; omega)) _) | (with_reducible refine bl_tr ?_ (by assumption)))
set_option maxHeartbeats 1000000 in
theorem lCompareFractions_any (a b c d : Int) (w : World) :
    Calls Try.prog 15 #[.agg #[.int .i64 a, .int .i64 b], .agg #[.int .i64 c, .int .i64 d]] w fun e w' => e = .returned (.tuple #[.int .i64 (vCmp a b c d), .int .i64 (kCmp a b c d)]) ∧ Below w.heap.size w w' := by
  cases h0 : vf a b
  case false =>
    have e1 : vCmp a b c d = 0 := by simp [vCmp, h0]
    have e2 : kCmp a b c d = 1 := by simp [kCmp, h0]
    rw [e1, e2]
    clear e1 e2
    go_enter Try.func15, Try.ntmps15
    go_wp2_with (first | (go_at_call 42; refine (ValidFraction_any _ _ _).mono ?_; rintro e w' ⟨rfl, o1, k1, rfl⟩) | (go_at_call 49; refine (l02Ok_any _ _ _).mono ?_; rintro e w' ⟨rfl, o1, k1, rfl⟩) | (go_at_call 48; refine (lowest_any _ _ _ (by omega) (by omega) (by omega) (by omega)).mono ?_; rintro e w' ⟨rfl, o1, k1, rfl⟩) | (go_at_call 47; refine (checked_any _ _ _).mono ?_; rintro e w' ⟨rfl, o1, o2, o3, k1, rfl⟩) | (go_at_call 45; refine (l02Full_any _ _ _ (by omega) (by omega) (by omega) (by omega)).mono ?_; rintro e w' ⟨rfl, o1, o2, o3, o4, k1, rfl⟩) | (go_at_call 58; refine (l02Make_any _ _ _ (by omega) (by omega) (by omega) (by omega)).mono ?_; rintro e w' ⟨rfl, o1, k1, rfl⟩) | go_in)
    go_ret2
    refine ⟨rfl, ?_⟩
    repeat (first | (with_reducible exact Below.refl _ _) | (with_reducible assumption) | (with_reducible refine bl_drewN ?_ _) | (with_reducible refine Below.drew ?_) | (with_reducible refine bl_al ?_ _) | (with_reducible refine Below.setCell ?_ (by first | (simp; done) | (simp; omega)) _) | (with_reducible refine bl_tr ?_ (by assumption)))
  case true =>
    obtain ⟨⟨_, _⟩, _, _⟩ := vf_t h0
    cases h1 : vf c d
    case false =>
      have e1 : vCmp a b c d = 0 := by simp [vCmp, h0, h1]
      have e2 : kCmp a b c d = 1 := by simp [kCmp, h0, h1]
      rw [e1, e2]
      clear e1 e2
      go_enter Try.func15, Try.ntmps15
      go_wp2_with (first | (go_at_call 42; refine (ValidFraction_any _ _ _).mono ?_; rintro e w' ⟨rfl, o1, k1, rfl⟩) | (go_at_call 49; refine (l02Ok_any _ _ _).mono ?_; rintro e w' ⟨rfl, o1, k1, rfl⟩) | (go_at_call 48; refine (lowest_any _ _ _ (by omega) (by omega) (by omega) (by omega)).mono ?_; rintro e w' ⟨rfl, o1, k1, rfl⟩) | (go_at_call 47; refine (checked_any _ _ _).mono ?_; rintro e w' ⟨rfl, o1, o2, o3, k1, rfl⟩) | (go_at_call 45; refine (l02Full_any _ _ _ (by omega) (by omega) (by omega) (by omega)).mono ?_; rintro e w' ⟨rfl, o1, o2, o3, o4, k1, rfl⟩) | (go_at_call 58; refine (l02Make_any _ _ _ (by omega) (by omega) (by omega) (by omega)).mono ?_; rintro e w' ⟨rfl, o1, k1, rfl⟩) | go_in)
      go_ret2
      refine ⟨rfl, ?_⟩
      repeat (first | (with_reducible exact Below.refl _ _) | (with_reducible assumption) | (with_reducible refine bl_drewN ?_ _) | (with_reducible refine Below.drew ?_) | (with_reducible refine bl_al ?_ _) | (with_reducible refine Below.setCell ?_ (by first | (simp; done) | (simp; omega)) _) | (with_reducible refine bl_tr ?_ (by assumption)))
    case true =>
      obtain ⟨⟨_, _⟩, _, _⟩ := vf_t h1
      obtain ⟨_, _⟩ := mul_bd (a) (d) 1000000 1000000 (by omega) (by omega) (by omega) (by omega) (by omega)
      obtain ⟨_, _⟩ := mul_bd (c) (b) 1000000 1000000 (by omega) (by omega) (by omega) (by omega) (by omega)
      have e1 : vCmp a b c d = cmpI (a * d) (c * b) := by simp [vCmp, h0, h1]
      have e2 : kCmp a b c d = 0 := by simp [kCmp, h0, h1]
      rw [e1, e2]
      clear e1 e2
      by_cases hx : a * d < c * b
      · have e3 : cmpI (a * d) (c * b) = -1 := by unfold cmpI; rw [if_pos hx]
        rw [e3]
        clear e3
        go_enter Try.func15, Try.ntmps15
        go_wp2_with (first | (go_at_call 42; refine (ValidFraction_any _ _ _).mono ?_; rintro e w' ⟨rfl, o1, k1, rfl⟩) | (go_at_call 49; refine (l02Ok_any _ _ _).mono ?_; rintro e w' ⟨rfl, o1, k1, rfl⟩) | (go_at_call 48; refine (lowest_any _ _ _ (by omega) (by omega) (by omega) (by omega)).mono ?_; rintro e w' ⟨rfl, o1, k1, rfl⟩) | (go_at_call 47; refine (checked_any _ _ _).mono ?_; rintro e w' ⟨rfl, o1, o2, o3, k1, rfl⟩) | (go_at_call 45; refine (l02Full_any _ _ _ (by omega) (by omega) (by omega) (by omega)).mono ?_; rintro e w' ⟨rfl, o1, o2, o3, o4, k1, rfl⟩) | (go_at_call 58; refine (l02Make_any _ _ _ (by omega) (by omega) (by omega) (by omega)).mono ?_; rintro e w' ⟨rfl, o1, k1, rfl⟩) | go_in)
        go_ret2
        refine ⟨rfl, ?_⟩
        repeat (first | (with_reducible exact Below.refl _ _) | (with_reducible assumption) | (with_reducible refine bl_drewN ?_ _) | (with_reducible refine Below.drew ?_) | (with_reducible refine bl_al ?_ _) | (with_reducible refine Below.setCell ?_ (by first | (simp; done) | (simp; omega)) _) | (with_reducible refine bl_tr ?_ (by assumption)))
      by_cases hy : c * b < a * d
      · have e3 : cmpI (a * d) (c * b) = 1 := by unfold cmpI; rw [if_neg (by omega), if_pos hy]
        rw [e3]
        clear e3
        go_enter Try.func15, Try.ntmps15
        go_wp2_with (first | (go_at_call 42; refine (ValidFraction_any _ _ _).mono ?_; rintro e w' ⟨rfl, o1, k1, rfl⟩) | (go_at_call 49; refine (l02Ok_any _ _ _).mono ?_; rintro e w' ⟨rfl, o1, k1, rfl⟩) | (go_at_call 48; refine (lowest_any _ _ _ (by omega) (by omega) (by omega) (by omega)).mono ?_; rintro e w' ⟨rfl, o1, k1, rfl⟩) | (go_at_call 47; refine (checked_any _ _ _).mono ?_; rintro e w' ⟨rfl, o1, o2, o3, k1, rfl⟩) | (go_at_call 45; refine (l02Full_any _ _ _ (by omega) (by omega) (by omega) (by omega)).mono ?_; rintro e w' ⟨rfl, o1, o2, o3, o4, k1, rfl⟩) | (go_at_call 58; refine (l02Make_any _ _ _ (by omega) (by omega) (by omega) (by omega)).mono ?_; rintro e w' ⟨rfl, o1, k1, rfl⟩) | go_in)
        go_ret2
        refine ⟨rfl, ?_⟩
        repeat (first | (with_reducible exact Below.refl _ _) | (with_reducible assumption) | (with_reducible refine bl_drewN ?_ _) | (with_reducible refine Below.drew ?_) | (with_reducible refine bl_al ?_ _) | (with_reducible refine Below.setCell ?_ (by first | (simp; done) | (simp; omega)) _) | (with_reducible refine bl_tr ?_ (by assumption)))
      have e3 : cmpI (a * d) (c * b) = 0 := by unfold cmpI; rw [if_neg (by omega), if_neg (by omega)]
      rw [e3]
      clear e3
      have e4 : ¬ a * d < c * b := by omega
      go_enter Try.func15, Try.ntmps15
      go_wp2_with (first | (go_at_call 42; refine (ValidFraction_any _ _ _).mono ?_; rintro e w' ⟨rfl, o1, k1, rfl⟩) | (go_at_call 49; refine (l02Ok_any _ _ _).mono ?_; rintro e w' ⟨rfl, o1, k1, rfl⟩) | (go_at_call 48; refine (lowest_any _ _ _ (by omega) (by omega) (by omega) (by omega)).mono ?_; rintro e w' ⟨rfl, o1, k1, rfl⟩) | (go_at_call 47; refine (checked_any _ _ _).mono ?_; rintro e w' ⟨rfl, o1, o2, o3, k1, rfl⟩) | (go_at_call 45; refine (l02Full_any _ _ _ (by omega) (by omega) (by omega) (by omega)).mono ?_; rintro e w' ⟨rfl, o1, o2, o3, o4, k1, rfl⟩) | (go_at_call 58; refine (l02Make_any _ _ _ (by omega) (by omega) (by omega) (by omega)).mono ?_; rintro e w' ⟨rfl, o1, k1, rfl⟩) | go_in)
      go_ret2
      refine ⟨rfl, ?_⟩
      repeat (first | (with_reducible exact Below.refl _ _) | (with_reducible assumption) | (with_reducible refine bl_drewN ?_ _) | (with_reducible refine Below.drew ?_) | (with_reducible refine bl_al ?_ _) | (with_reducible refine Below.setCell ?_ (by first | (simp; done) | (simp; omega)) _) | (with_reducible refine bl_tr ?_ (by assumption)))
set_option maxHeartbeats 2000000 in
theorem law_CompareFractions (a : Int) (_wa : (Lit.int .i64 a).wf = true) (b : Int) (_wb : (Lit.int .i64 b).wf = true) (c : Int) (_wc : (Lit.int .i64 c).wf = true) (d : Int) (_wd : (Lit.int .i64 d).wf = true) (w : World) :
    Calls Try.prog 3 #[.agg #[.int .i64 a, .int .i64 b], .agg #[.int .i64 c, .int .i64 d]] w fun e w' => e = .returned (.bool true) ∧ Below w.heap.size w w' := by
  go_enter Try.func3, Try.ntmps3
  go_wp2
  go_region_held3 (fun w' => w'.cell? ⟨w.heap.size, 0, none⟩ = some (.int .i64 (a)) ∧ w'.cell? ⟨w.heap.size, 1, none⟩ = some (.int .i64 (b)) ∧ w'.cell? ⟨w.heap.size + 1, 0, none⟩ = some (.int .i64 (c)) ∧ w'.cell? ⟨w.heap.size + 1, 1, none⟩ = some (.int .i64 (d))) (((try dsimp only); (refine ⟨?_, ?_, ?_, ?_⟩ <;> (first | ((with_reducible (repeat (first | assumption | refine keepD ?_ | refine keepN ?_ _ | refine keepA ?_ | refine keepW ?_ (by simp only [ne_eq]; omega)))); done) | (simp [go_sem]; done)))))
    (first | (go_at_call 16; refine (toFraction_any _ _ _).mono ?_; rintro e w' ⟨rfl, o1, o2, o3, rfl⟩) | (go_at_call 15; refine (lCompareFractions_any _ _ _ _ _).mono ?_; rintro e w1 ⟨rfl, hb1⟩; have c0 : w1.cell? ⟨w.heap.size, 0, none⟩ = some (.int .i64 (a)) := bcell_of hb1 (by first | (with_reducible (repeat (first | assumption | refine keepD ?_ | refine keepN ?_ _ | refine keepA ?_)); done) | (simp [go_sem]; done) | (simp [go_sem, World.cell?_alloc_past]; done)); have c1 : w1.cell? ⟨w.heap.size, 1, none⟩ = some (.int .i64 (b)) := bcell_of hb1 (by first | (with_reducible (repeat (first | assumption | refine keepD ?_ | refine keepN ?_ _ | refine keepA ?_)); done) | (simp [go_sem]; done) | (simp [go_sem, World.cell?_alloc_past]; done)); have c2 : w1.cell? ⟨w.heap.size + 1, 0, none⟩ = some (.int .i64 (c)) := bcell_of hb1 (by first | (with_reducible (repeat (first | assumption | refine keepD ?_ | refine keepN ?_ _ | refine keepA ?_)); done) | (simp [go_sem]; done) | (simp [go_sem, World.cell?_alloc_past]; done)); have c3 : w1.cell? ⟨w.heap.size + 1, 1, none⟩ = some (.int .i64 (d)) := bcell_of hb1 (by first | (with_reducible (repeat (first | assumption | refine keepD ?_ | refine keepN ?_ _ | refine keepA ?_)); done) | (simp [go_sem]; done) | (simp [go_sem, World.cell?_alloc_past]; done))))
  go_wp2
  go_region_held3 (fun w' => w'.cell? ⟨w.heap.size, 0, none⟩ = some (.int .i64 (a)) ∧ w'.cell? ⟨w.heap.size, 1, none⟩ = some (.int .i64 (b)) ∧ w'.cell? ⟨w.heap.size + 1, 0, none⟩ = some (.int .i64 (c)) ∧ w'.cell? ⟨w.heap.size + 1, 1, none⟩ = some (.int .i64 (d))) (((try dsimp only); (refine ⟨?_, ?_, ?_, ?_⟩ <;> (first | ((with_reducible (repeat (first | assumption | refine keepD ?_ | refine keepN ?_ _ | refine keepA ?_ | refine keepW ?_ (by simp only [ne_eq]; omega)))); done) | (simp [go_sem]; done)))))
    (first | (go_at_call 16; refine (toFraction_any _ _ _).mono ?_; rintro e w' ⟨rfl, o1, o2, o3, rfl⟩) | (go_at_call 17; refine (CompareFractions_any _ _ _ _ _).mono ?_; rintro e w2 ⟨rfl, hb2⟩; have c0 : w2.cell? ⟨w.heap.size, 0, none⟩ = some (.int .i64 (a)) := bcell_of hb2 (by first | (with_reducible (repeat (first | assumption | refine keepD ?_ | refine keepN ?_ _ | refine keepA ?_)); done) | (simp [go_sem]; done) | (simp [go_sem, World.cell?_alloc_past]; done)); have c1 : w2.cell? ⟨w.heap.size, 1, none⟩ = some (.int .i64 (b)) := bcell_of hb2 (by first | (with_reducible (repeat (first | assumption | refine keepD ?_ | refine keepN ?_ _ | refine keepA ?_)); done) | (simp [go_sem]; done) | (simp [go_sem, World.cell?_alloc_past]; done)); have c2 : w2.cell? ⟨w.heap.size + 1, 0, none⟩ = some (.int .i64 (c)) := bcell_of hb2 (by first | (with_reducible (repeat (first | assumption | refine keepD ?_ | refine keepN ?_ _ | refine keepA ?_)); done) | (simp [go_sem]; done) | (simp [go_sem, World.cell?_alloc_past]; done)); have c3 : w2.cell? ⟨w.heap.size + 1, 1, none⟩ = some (.int .i64 (d)) := bcell_of hb2 (by first | (with_reducible (repeat (first | assumption | refine keepD ?_ | refine keepN ?_ _ | refine keepA ?_)); done) | (simp [go_sem]; done) | (simp [go_sem, World.cell?_alloc_past]; done))))
  go_wp2
  go_ret
  refine ⟨rfl, ?_⟩
  repeat (first | (with_reducible exact Below.refl _ _) | (with_reducible assumption) | (with_reducible refine bl_drewN ?_ _) | (with_reducible refine Below.drew ?_) | (with_reducible refine bl_al ?_ _) | (with_reducible refine Below.setCell ?_ (by first | (simp; done) | (simp; omega)) _) | (with_reducible refine bl_tr ?_ (by assumption)))
end Go.Proofs.Ytgbfnlhldkgmoaa

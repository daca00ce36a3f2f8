/-
  PROVED HERE: the walks of laws over fractions: the program and the reference agree. CONDITIONS: none beyond that each number is an int64.
-/
import Derived.Test.YtgbfnlhldkgmoaaFracA
import Derived.Deep.DeepCutAuto
namespace Go.Proofs.Ytgbfnlhldkgmoaa
open Go.RowKit

/-- What a sum, a product .. hands back: k is the code of the arguments; p over q what is put in lowest terms. -/
def rN (k p q : Int) : Int := if k = 0 then cN (lowN p q) (lowD p q) else 0
def rD (k p q : Int) : Int := if k = 0 then cD (lowN p q) (lowD p q) else 0
def rC (k p q : Int) : Int := if k = 0 then cC (lowN p q) (lowD p q) else k
theorem r_no {k p q : Int} (h : k ≠ 0) : rN k p q = 0 ∧ rD k p q = 0 ∧ rC k p q = k := by simp [rN, rD, rC, h]
theorem r_ok {p q : Int} : rN 0 p q = cN (lowN p q) (lowD p q) ∧ rD 0 p q = cD (lowN p q) (lowD p q) ∧ rC 0 p q = cC (lowN p q) (lowD p q) := by simp [rN, rD, rC]
theorem mul_bd (x y A B : Int) (hA : 0 ≤ A) (h1 : -A ≤ x) (h2 : x ≤ A) (h3 : 0 ≤ y) (h4 : y ≤ B) : -(A * B) ≤ x * y ∧ x * y ≤ A * B := by
  constructor
  · have e1 : -A * y ≤ x * y := Int.mul_le_mul_of_nonneg_right h1 h3
    have e2 : A * y ≤ A * B := Int.mul_le_mul_of_nonneg_left h4 hA
    have e3 : -A * y = -(A * y) := by rw [Int.neg_mul]
    omega
  · have e1 : x * y ≤ A * y := Int.mul_le_mul_of_nonneg_right h2 h3
    have e2 : A * y ≤ A * B := Int.mul_le_mul_of_nonneg_left h4 hA
    omega
theorem mul_bd2 (x y A B : Int) (hA : 0 ≤ A) (_hB : 0 ≤ B) (h1 : -A ≤ x) (h2 : x ≤ A) (h3 : -B ≤ y) (h4 : y ≤ B) : -(A * B) ≤ x * y ∧ x * y ≤ A * B := by
  by_cases hy : 0 ≤ y
  · exact mul_bd x y A B hA h1 h2 hy h4
  · obtain ⟨e1, e2⟩ := mul_bd x (-y) A B hA h1 h2 (by omega) (by omega)
    have e3 : x * (-y) = -(x * y) := by rw [Int.mul_neg]
    omega
theorem mul_pos_bd (x y : Int) (h1 : 1 ≤ x) (h2 : 1 ≤ y) : 1 ≤ x * y := by
  have := Int.mul_le_mul_of_nonneg_right h1 (show (0:Int) ≤ y by omega)
  omega
theorem lowD_bd2 (b d : Int) (h : 1 ≤ b) : 1 ≤ b / G b d ∧ b / G b d ≤ b := by
  have e : G b d = G d b := by unfold G; rw [Int.gcd_comm]
  rw [e]
  exact lowD_bd d b h
theorem keepW {w : World} {a p : Addr} {v u : Value} (h : w.cell? a = some v) (hne : p.block ≠ a.block) : (w.setCell p u).cell? a = some v := by
  rw [World.cell?_setCell_other w p a u (fun e => hne (by rw [e]))]; exact h
theorem byhave {p q : Prop} (h : p) (k : p → q) : q := k h
theorem bfroz_of {W w1 : World} (hb : Below W.heap.size W w1) {b o : Nat} {v : Value} (h : W.cell? ⟨b, o, none⟩ = some v) (hf : W.frozen? ⟨b, o, none⟩ = false) : w1.frozen? ⟨b, o, none⟩ = false :=
  (hb.frozen (p := ⟨b, o, none⟩) (World.block_lt_of_cell? W _ h)).trans hf

def kBeatRate (a b c d : Int) : Int := if vf a b then (if vf c d then (0) else 1) else 1
set_option maxHeartbeats 1000000 in
theorem BeatRate_any (a b c d : Int) (w : World) :
    Calls Try.prog 30 #[.agg #[.int .i64 a, .int .i64 b], .agg #[.int .i64 c, .int .i64 d]] w fun e w' => e = .returned (.tuple #[.agg #[.int .i64 (rN (kBeatRate a b c d) (szI (a * d - c * b)) (b * d)), .int .i64 (rD (kBeatRate a b c d) (szI (a * d - c * b)) (b * d))], .int .i64 (rC (kBeatRate a b c d) (szI (a * d - c * b)) (b * d))]) ∧ Below w.heap.size w w' := by
  cases h0 : vf a b
  case false =>
    have hk : (kBeatRate a b c d) = 1 := by simp [kBeatRate, h0]
    obtain ⟨e1, e2, e3⟩ := r_no (k := (kBeatRate a b c d)) (p := szI (a * d - c * b)) (q := b * d) (by rw [hk]; decide)
    rw [e1, e2, e3, hk]
    clear e1 e2 e3 hk
    go_enter Try.func30, Try.ntmps30
    go_wp2_with (first | (go_at_call 42; refine (ValidFraction_any _ _ _).mono ?_; rintro e w' ⟨rfl, o1, k1, rfl⟩) | (go_at_call 49; refine (l02Ok_any _ _ _).mono ?_; rintro e w' ⟨rfl, o1, k1, rfl⟩) | (go_at_call 48; refine (lowest_any _ _ _ (by omega) (by omega) (by omega) (by omega)).mono ?_; rintro e w' ⟨rfl, o1, k1, rfl⟩) | (go_at_call 47; refine (checked_any _ _ _).mono ?_; rintro e w' ⟨rfl, o1, o2, o3, k1, rfl⟩) | (go_at_call 45; refine (l02Full_any _ _ _ (by omega) (by omega) (by omega) (by omega)).mono ?_; rintro e w' ⟨rfl, o1, o2, o3, o4, k1, rfl⟩) | (go_at_call 58; refine (l02Make_any _ _ _ (by omega) (by omega) (by omega) (by omega)).mono ?_; rintro e w' ⟨rfl, o1, k1, rfl⟩) | (go_at_call 46; refine (within_any _ _ _ _).mono ?_; rintro e w' ⟨rfl, rfl⟩) | (go_at_call 44; refine (l00In_any _ _ _ _).mono ?_; rintro e w' ⟨rfl, rfl⟩) | (go_at_call 52; refine (gcd_any _ _ _ (by omega) (by omega) (by omega) (by omega)).mono ?_; rintro e w' ⟨rfl, ng, rfl⟩) | (go_at_call 51; refine (lgcd_any _ _ _ (by omega) (by omega) (by omega) (by omega)).mono ?_; rintro e w' ⟨rfl, rfl⟩) | (go_at_call 50; refine (l00Size_any _ _ (by omega) (by omega)).mono ?_; rintro e w' ⟨rfl, rfl⟩) | go_in)
    refine bodyPost_ret (v := .tuple #[.agg #[.int .i64 0, .int .i64 0], .int .i64 1]) (by simp [results, Try.results30, go_sem]) rfl ⟨rfl, ?_⟩
    repeat (first | (with_reducible exact Below.refl _ _) | (with_reducible assumption) | (with_reducible refine bl_drewN ?_ _) | (with_reducible refine Below.drew ?_) | (with_reducible refine bl_al ?_ _) | (with_reducible refine Below.setCell ?_ (by first | (simp; done) | (simp; omega)) _) | (with_reducible refine bl_tr ?_ (by assumption)))
  case true =>
    cases h1 : vf c d
    case false =>
      have hk : (kBeatRate a b c d) = 1 := by simp [kBeatRate, h0, h1]
      obtain ⟨e1, e2, e3⟩ := r_no (k := (kBeatRate a b c d)) (p := szI (a * d - c * b)) (q := b * d) (by rw [hk]; decide)
      rw [e1, e2, e3, hk]
      clear e1 e2 e3 hk
      obtain ⟨⟨_, _⟩, _, _⟩ := vf_t h0
      go_enter Try.func30, Try.ntmps30
      go_wp2_with (first | (go_at_call 42; refine (ValidFraction_any _ _ _).mono ?_; rintro e w' ⟨rfl, o1, k1, rfl⟩) | (go_at_call 49; refine (l02Ok_any _ _ _).mono ?_; rintro e w' ⟨rfl, o1, k1, rfl⟩) | (go_at_call 48; refine (lowest_any _ _ _ (by omega) (by omega) (by omega) (by omega)).mono ?_; rintro e w' ⟨rfl, o1, k1, rfl⟩) | (go_at_call 47; refine (checked_any _ _ _).mono ?_; rintro e w' ⟨rfl, o1, o2, o3, k1, rfl⟩) | (go_at_call 45; refine (l02Full_any _ _ _ (by omega) (by omega) (by omega) (by omega)).mono ?_; rintro e w' ⟨rfl, o1, o2, o3, o4, k1, rfl⟩) | (go_at_call 58; refine (l02Make_any _ _ _ (by omega) (by omega) (by omega) (by omega)).mono ?_; rintro e w' ⟨rfl, o1, k1, rfl⟩) | (go_at_call 46; refine (within_any _ _ _ _).mono ?_; rintro e w' ⟨rfl, rfl⟩) | (go_at_call 44; refine (l00In_any _ _ _ _).mono ?_; rintro e w' ⟨rfl, rfl⟩) | (go_at_call 52; refine (gcd_any _ _ _ (by omega) (by omega) (by omega) (by omega)).mono ?_; rintro e w' ⟨rfl, ng, rfl⟩) | (go_at_call 51; refine (lgcd_any _ _ _ (by omega) (by omega) (by omega) (by omega)).mono ?_; rintro e w' ⟨rfl, rfl⟩) | (go_at_call 50; refine (l00Size_any _ _ (by omega) (by omega)).mono ?_; rintro e w' ⟨rfl, rfl⟩) | go_in)
      refine bodyPost_ret (v := .tuple #[.agg #[.int .i64 0, .int .i64 0], .int .i64 1]) (by simp [results, Try.results30, go_sem]) rfl ⟨rfl, ?_⟩
      repeat (first | (with_reducible exact Below.refl _ _) | (with_reducible assumption) | (with_reducible refine bl_drewN ?_ _) | (with_reducible refine Below.drew ?_) | (with_reducible refine bl_al ?_ _) | (with_reducible refine Below.setCell ?_ (by first | (simp; done) | (simp; omega)) _) | (with_reducible refine bl_tr ?_ (by assumption)))
    case true =>
      have hk : (kBeatRate a b c d) = 0 := by simp [kBeatRate, h0, h1]
      obtain ⟨e1, e2, e3⟩ := r_ok (p := szI (a * d - c * b)) (q := b * d)
      rw [hk, e1, e2, e3]
      clear e1 e2 e3 hk
      obtain ⟨⟨_, _⟩, _, _⟩ := vf_t h0
      obtain ⟨⟨_, _⟩, _, _⟩ := vf_t h1
      obtain ⟨_, _⟩ := mul_bd (a) (d) 1000000 1000000 (by omega) (by omega) (by omega) (by omega) (by omega)
      obtain ⟨_, _⟩ := mul_bd (c) (b) 1000000 1000000 (by omega) (by omega) (by omega) (by omega) (by omega)
      obtain ⟨_, _⟩ := mul_bd (b) (d) 1000000 1000000 (by omega) (by omega) (by omega) (by omega) (by omega)
      have := mul_pos_bd (b) (d) (by omega) (by omega)
      obtain ⟨_, _⟩ := szI_bd (a * d - c * b) 2000000000000 (by omega) (by omega)
      by_cases hs : a * d - c * b < 0
      · have he := szI_neg hs
        rw [he]
        clear he
        go_enter Try.func30, Try.ntmps30
        go_wp2_with (first | (go_at_call 42; refine (ValidFraction_any _ _ _).mono ?_; rintro e w' ⟨rfl, o1, k1, rfl⟩) | (go_at_call 49; refine (l02Ok_any _ _ _).mono ?_; rintro e w' ⟨rfl, o1, k1, rfl⟩) | (go_at_call 48; refine (lowest_any _ _ _ (by omega) (by omega) (by omega) (by omega)).mono ?_; rintro e w' ⟨rfl, o1, k1, rfl⟩) | (go_at_call 47; refine (checked_any _ _ _).mono ?_; rintro e w' ⟨rfl, o1, o2, o3, k1, rfl⟩) | (go_at_call 45; refine (l02Full_any _ _ _ (by omega) (by omega) (by omega) (by omega)).mono ?_; rintro e w' ⟨rfl, o1, o2, o3, o4, k1, rfl⟩) | (go_at_call 58; refine (l02Make_any _ _ _ (by omega) (by omega) (by omega) (by omega)).mono ?_; rintro e w' ⟨rfl, o1, k1, rfl⟩) | (go_at_call 46; refine (within_any _ _ _ _).mono ?_; rintro e w' ⟨rfl, rfl⟩) | (go_at_call 44; refine (l00In_any _ _ _ _).mono ?_; rintro e w' ⟨rfl, rfl⟩) | (go_at_call 52; refine (gcd_any _ _ _ (by omega) (by omega) (by omega) (by omega)).mono ?_; rintro e w' ⟨rfl, ng, rfl⟩) | (go_at_call 51; refine (lgcd_any _ _ _ (by omega) (by omega) (by omega) (by omega)).mono ?_; rintro e w' ⟨rfl, rfl⟩) | (go_at_call 50; refine (l00Size_any _ _ (by omega) (by omega)).mono ?_; rintro e w' ⟨rfl, rfl⟩) | go_in)
        refine bodyPost_ret (v := .tuple #[.agg #[.int .i64 (cN (lowN (-(a * d - c * b)) (b * d)) (lowD (-(a * d - c * b)) (b * d))), .int .i64 (cD (lowN (-(a * d - c * b)) (b * d)) (lowD (-(a * d - c * b)) (b * d)))], .int .i64 (cC (lowN (-(a * d - c * b)) (b * d)) (lowD (-(a * d - c * b)) (b * d)))]) (by simp [results, Try.results30, go_sem]) rfl ⟨rfl, ?_⟩
        repeat (first | (with_reducible exact Below.refl _ _) | (with_reducible assumption) | (with_reducible refine bl_drewN ?_ _) | (with_reducible refine Below.drew ?_) | (with_reducible refine bl_al ?_ _) | (with_reducible refine Below.setCell ?_ (by first | (simp; done) | (simp; omega)) _) | (with_reducible refine bl_tr ?_ (by assumption)))
      · have he := szI_pos (n := a * d - c * b) (by omega)
        rw [he]
        clear he
        go_enter Try.func30, Try.ntmps30
        go_wp2_with (first | (go_at_call 42; refine (ValidFraction_any _ _ _).mono ?_; rintro e w' ⟨rfl, o1, k1, rfl⟩) | (go_at_call 49; refine (l02Ok_any _ _ _).mono ?_; rintro e w' ⟨rfl, o1, k1, rfl⟩) | (go_at_call 48; refine (lowest_any _ _ _ (by omega) (by omega) (by omega) (by omega)).mono ?_; rintro e w' ⟨rfl, o1, k1, rfl⟩) | (go_at_call 47; refine (checked_any _ _ _).mono ?_; rintro e w' ⟨rfl, o1, o2, o3, k1, rfl⟩) | (go_at_call 45; refine (l02Full_any _ _ _ (by omega) (by omega) (by omega) (by omega)).mono ?_; rintro e w' ⟨rfl, o1, o2, o3, o4, k1, rfl⟩) | (go_at_call 58; refine (l02Make_any _ _ _ (by omega) (by omega) (by omega) (by omega)).mono ?_; rintro e w' ⟨rfl, o1, k1, rfl⟩) | (go_at_call 46; refine (within_any _ _ _ _).mono ?_; rintro e w' ⟨rfl, rfl⟩) | (go_at_call 44; refine (l00In_any _ _ _ _).mono ?_; rintro e w' ⟨rfl, rfl⟩) | (go_at_call 52; refine (gcd_any _ _ _ (by omega) (by omega) (by omega) (by omega)).mono ?_; rintro e w' ⟨rfl, ng, rfl⟩) | (go_at_call 51; refine (lgcd_any _ _ _ (by omega) (by omega) (by omega) (by omega)).mono ?_; rintro e w' ⟨rfl, rfl⟩) | (go_at_call 50; refine (l00Size_any _ _ (by omega) (by omega)).mono ?_; rintro e w' ⟨rfl, rfl⟩) | go_in)
        refine bodyPost_ret (v := .tuple #[.agg #[.int .i64 (cN (lowN (a * d - c * b) (b * d)) (lowD (a * d - c * b) (b * d))), .int .i64 (cD (lowN (a * d - c * b) (b * d)) (lowD (a * d - c * b) (b * d)))], .int .i64 (cC (lowN (a * d - c * b) (b * d)) (lowD (a * d - c * b) (b * d)))]) (by simp [results, Try.results30, go_sem]) rfl ⟨rfl, ?_⟩
        repeat (first | (with_reducible exact Below.refl _ _) | (with_reducible assumption) | (with_reducible refine bl_drewN ?_ _) | (with_reducible refine Below.drew ?_) | (with_reducible refine bl_al ?_ _) | (with_reducible refine Below.setCell ?_ (by first | (simp; done) | (simp; omega)) _) | (with_reducible refine bl_tr ?_ (by assumption)))
set_option maxHeartbeats 1000000 in
theorem lBeatRate_any (a b c d : Int) (w : World) :
    Calls Try.prog 29 #[.agg #[.int .i64 a, .int .i64 b], .agg #[.int .i64 c, .int .i64 d]] w fun e w' => e = .returned (.tuple #[.agg #[.int .i64 (rN (kBeatRate a b c d) (szI (a * d - c * b)) (b * d)), .int .i64 (rD (kBeatRate a b c d) (szI (a * d - c * b)) (b * d))], .int .i64 (rC (kBeatRate a b c d) (szI (a * d - c * b)) (b * d))]) ∧ Below w.heap.size w w' := by
  cases h0 : vf a b
  case false =>
    have hk : (kBeatRate a b c d) = 1 := by simp [kBeatRate, h0]
    obtain ⟨e1, e2, e3⟩ := r_no (k := (kBeatRate a b c d)) (p := szI (a * d - c * b)) (q := b * d) (by rw [hk]; decide)
    rw [e1, e2, e3, hk]
    clear e1 e2 e3 hk
    go_enter Try.func29, Try.ntmps29
    go_wp2_with (first | (go_at_call 42; refine (ValidFraction_any _ _ _).mono ?_; rintro e w' ⟨rfl, o1, k1, rfl⟩) | (go_at_call 49; refine (l02Ok_any _ _ _).mono ?_; rintro e w' ⟨rfl, o1, k1, rfl⟩) | (go_at_call 48; refine (lowest_any _ _ _ (by omega) (by omega) (by omega) (by omega)).mono ?_; rintro e w' ⟨rfl, o1, k1, rfl⟩) | (go_at_call 47; refine (checked_any _ _ _).mono ?_; rintro e w' ⟨rfl, o1, o2, o3, k1, rfl⟩) | (go_at_call 45; refine (l02Full_any _ _ _ (by omega) (by omega) (by omega) (by omega)).mono ?_; rintro e w' ⟨rfl, o1, o2, o3, o4, k1, rfl⟩) | (go_at_call 58; refine (l02Make_any _ _ _ (by omega) (by omega) (by omega) (by omega)).mono ?_; rintro e w' ⟨rfl, o1, k1, rfl⟩) | (go_at_call 46; refine (within_any _ _ _ _).mono ?_; rintro e w' ⟨rfl, rfl⟩) | (go_at_call 44; refine (l00In_any _ _ _ _).mono ?_; rintro e w' ⟨rfl, rfl⟩) | (go_at_call 52; refine (gcd_any _ _ _ (by omega) (by omega) (by omega) (by omega)).mono ?_; rintro e w' ⟨rfl, ng, rfl⟩) | (go_at_call 51; refine (lgcd_any _ _ _ (by omega) (by omega) (by omega) (by omega)).mono ?_; rintro e w' ⟨rfl, rfl⟩) | (go_at_call 50; refine (l00Size_any _ _ (by omega) (by omega)).mono ?_; rintro e w' ⟨rfl, rfl⟩) | go_in)
    refine bodyPost_ret (v := .tuple #[.agg #[.int .i64 0, .int .i64 0], .int .i64 1]) (by simp [results, Try.results29, go_sem]) rfl ⟨rfl, ?_⟩
    repeat (first | (with_reducible exact Below.refl _ _) | (with_reducible assumption) | (with_reducible refine bl_drewN ?_ _) | (with_reducible refine Below.drew ?_) | (with_reducible refine bl_al ?_ _) | (with_reducible refine Below.setCell ?_ (by first | (simp; done) | (simp; omega)) _) | (with_reducible refine bl_tr ?_ (by assumption)))
  case true =>
    cases h1 : vf c d
    case false =>
      have hk : (kBeatRate a b c d) = 1 := by simp [kBeatRate, h0, h1]
      obtain ⟨e1, e2, e3⟩ := r_no (k := (kBeatRate a b c d)) (p := szI (a * d - c * b)) (q := b * d) (by rw [hk]; decide)
      rw [e1, e2, e3, hk]
      clear e1 e2 e3 hk
      obtain ⟨⟨_, _⟩, _, _⟩ := vf_t h0
      go_enter Try.func29, Try.ntmps29
      go_wp2_with (first | (go_at_call 42; refine (ValidFraction_any _ _ _).mono ?_; rintro e w' ⟨rfl, o1, k1, rfl⟩) | (go_at_call 49; refine (l02Ok_any _ _ _).mono ?_; rintro e w' ⟨rfl, o1, k1, rfl⟩) | (go_at_call 48; refine (lowest_any _ _ _ (by omega) (by omega) (by omega) (by omega)).mono ?_; rintro e w' ⟨rfl, o1, k1, rfl⟩) | (go_at_call 47; refine (checked_any _ _ _).mono ?_; rintro e w' ⟨rfl, o1, o2, o3, k1, rfl⟩) | (go_at_call 45; refine (l02Full_any _ _ _ (by omega) (by omega) (by omega) (by omega)).mono ?_; rintro e w' ⟨rfl, o1, o2, o3, o4, k1, rfl⟩) | (go_at_call 58; refine (l02Make_any _ _ _ (by omega) (by omega) (by omega) (by omega)).mono ?_; rintro e w' ⟨rfl, o1, k1, rfl⟩) | (go_at_call 46; refine (within_any _ _ _ _).mono ?_; rintro e w' ⟨rfl, rfl⟩) | (go_at_call 44; refine (l00In_any _ _ _ _).mono ?_; rintro e w' ⟨rfl, rfl⟩) | (go_at_call 52; refine (gcd_any _ _ _ (by omega) (by omega) (by omega) (by omega)).mono ?_; rintro e w' ⟨rfl, ng, rfl⟩) | (go_at_call 51; refine (lgcd_any _ _ _ (by omega) (by omega) (by omega) (by omega)).mono ?_; rintro e w' ⟨rfl, rfl⟩) | (go_at_call 50; refine (l00Size_any _ _ (by omega) (by omega)).mono ?_; rintro e w' ⟨rfl, rfl⟩) | go_in)
      refine bodyPost_ret (v := .tuple #[.agg #[.int .i64 0, .int .i64 0], .int .i64 1]) (by simp [results, Try.results29, go_sem]) rfl ⟨rfl, ?_⟩
      repeat (first | (with_reducible exact Below.refl _ _) | (with_reducible assumption) | (with_reducible refine bl_drewN ?_ _) | (with_reducible refine Below.drew ?_) | (with_reducible refine bl_al ?_ _) | (with_reducible refine Below.setCell ?_ (by first | (simp; done) | (simp; omega)) _) | (with_reducible refine bl_tr ?_ (by assumption)))
    case true =>
      have hk : (kBeatRate a b c d) = 0 := by simp [kBeatRate, h0, h1]
      obtain ⟨e1, e2, e3⟩ := r_ok (p := szI (a * d - c * b)) (q := b * d)
      rw [hk, e1, e2, e3]
      clear e1 e2 e3 hk
      obtain ⟨⟨_, _⟩, _, _⟩ := vf_t h0
      obtain ⟨⟨_, _⟩, _, _⟩ := vf_t h1
      obtain ⟨_, _⟩ := mul_bd (a) (d) 1000000 1000000 (by omega) (by omega) (by omega) (by omega) (by omega)
      obtain ⟨_, _⟩ := mul_bd (c) (b) 1000000 1000000 (by omega) (by omega) (by omega) (by omega) (by omega)
      obtain ⟨_, _⟩ := mul_bd (b) (d) 1000000 1000000 (by omega) (by omega) (by omega) (by omega) (by omega)
      have := mul_pos_bd (b) (d) (by omega) (by omega)
      obtain ⟨_, _⟩ := szI_bd (a * d - c * b) 2000000000000 (by omega) (by omega)
      have w1 : IntKind.i64.wrap (a * d) = a * d := IntWalk.i64_in _ ⟨by omega, by omega⟩
      have w2 : IntKind.i64.wrap (c * b) = c * b := IntWalk.i64_in _ ⟨by omega, by omega⟩
      have w3 : IntKind.i64.wrap (b * d) = b * d := IntWalk.i64_in _ ⟨by omega, by omega⟩
      have w4 : IntKind.i64.wrap (a * d - c * b) = a * d - c * b := IntWalk.i64_in _ ⟨by omega, by omega⟩
      go_enter Try.func29, Try.ntmps29
      go_wp2_with (first | (go_at_call 42; refine (ValidFraction_any _ _ _).mono ?_; rintro e w' ⟨rfl, o1, k1, rfl⟩) | (go_at_call 49; refine (l02Ok_any _ _ _).mono ?_; rintro e w' ⟨rfl, o1, k1, rfl⟩) | (go_at_call 48; refine (lowest_any _ _ _ (by omega) (by omega) (by omega) (by omega)).mono ?_; rintro e w' ⟨rfl, o1, k1, rfl⟩) | (go_at_call 47; refine (checked_any _ _ _).mono ?_; rintro e w' ⟨rfl, o1, o2, o3, k1, rfl⟩) | (go_at_call 45; refine (l02Full_any _ _ _ (by omega) (by omega) (by omega) (by omega)).mono ?_; rintro e w' ⟨rfl, o1, o2, o3, o4, k1, rfl⟩) | (go_at_call 58; refine (l02Make_any _ _ _ (by omega) (by omega) (by omega) (by omega)).mono ?_; rintro e w' ⟨rfl, o1, k1, rfl⟩) | (go_at_call 46; refine (within_any _ _ _ _).mono ?_; rintro e w' ⟨rfl, rfl⟩) | (go_at_call 44; refine (l00In_any _ _ _ _).mono ?_; rintro e w' ⟨rfl, rfl⟩) | (go_at_call 52; refine (gcd_any _ _ _ (by omega) (by omega) (by omega) (by omega)).mono ?_; rintro e w' ⟨rfl, ng, rfl⟩) | (go_at_call 51; refine (lgcd_any _ _ _ (by omega) (by omega) (by omega) (by omega)).mono ?_; rintro e w' ⟨rfl, rfl⟩) | (go_at_call 50; refine (l00Size_any _ _ (by omega) (by omega)).mono ?_; rintro e w' ⟨rfl, rfl⟩) | go_in)
      go_region_held3 (fun w' => w'.cell? ⟨w.heap.size, 0, none⟩ = some (.int .i64 (a)) ∧ w'.cell? ⟨w.heap.size, 1, none⟩ = some (.int .i64 (b)) ∧ w'.cell? ⟨w.heap.size + 1, 0, none⟩ = some (.int .i64 (c)) ∧ w'.cell? ⟨w.heap.size + 1, 1, none⟩ = some (.int .i64 (d))) (((try dsimp only); (refine ⟨?_, ?_, ?_, ?_⟩ <;> (first | ((with_reducible (repeat (first | assumption | refine keepD ?_ | refine keepN ?_ _ | refine keepA ?_ | refine keepW ?_ (by simp only [ne_eq]; omega)))); done) | (simp [go_sem]; done))))) (first | (go_at_call 42; refine (ValidFraction_any _ _ _).mono ?_; rintro e w' ⟨rfl, o1, k1, rfl⟩) | (go_at_call 49; refine (l02Ok_any _ _ _).mono ?_; rintro e w' ⟨rfl, o1, k1, rfl⟩) | (go_at_call 48; refine (lowest_any _ _ _ (by omega) (by omega) (by omega) (by omega)).mono ?_; rintro e w' ⟨rfl, o1, k1, rfl⟩) | (go_at_call 47; refine (checked_any _ _ _).mono ?_; rintro e w' ⟨rfl, o1, o2, o3, k1, rfl⟩) | (go_at_call 45; refine (l02Full_any _ _ _ (by omega) (by omega) (by omega) (by omega)).mono ?_; rintro e w' ⟨rfl, o1, o2, o3, o4, k1, rfl⟩) | (go_at_call 58; refine (l02Make_any _ _ _ (by omega) (by omega) (by omega) (by omega)).mono ?_; rintro e w' ⟨rfl, o1, k1, rfl⟩) | (go_at_call 52; refine (gcd_any _ _ _ (by omega) (by omega) (by omega) (by omega)).mono ?_; rintro e w' ⟨rfl, ng, rfl⟩) | (go_at_call 51; refine (lgcd_any _ _ _ (by omega) (by omega) (by omega) (by omega)).mono ?_; rintro e w' ⟨rfl, rfl⟩) | (go_at_call 50; refine (l00Size_any _ _ (by omega) (by omega)).mono ?_; rintro e w' ⟨rfl, rfl⟩))
      all_goals
        go_wp2
        refine bodyPost_ret (v := .tuple #[.agg #[.int .i64 (cN (lowN (szI (a * d - c * b)) (b * d)) (lowD (szI (a * d - c * b)) (b * d))), .int .i64 (cD (lowN (szI (a * d - c * b)) (b * d)) (lowD (szI (a * d - c * b)) (b * d)))], .int .i64 (cC (lowN (szI (a * d - c * b)) (b * d)) (lowD (szI (a * d - c * b)) (b * d)))]) (by simp [results, Try.results29, go_sem]) rfl ⟨rfl, ?_⟩
        repeat (first | (with_reducible exact Below.refl _ _) | (with_reducible assumption) | (with_reducible refine bl_drewN ?_ _) | (with_reducible refine Below.drew ?_) | (with_reducible refine bl_al ?_ _) | (with_reducible refine Below.setCell ?_ (by first | (simp; done) | (simp; omega)) _) | (with_reducible refine bl_tr ?_ (by assumption)))
set_option maxHeartbeats 2000000 in
theorem law_BeatRate (a : Int) (_wa : (Lit.int .i64 a).wf = true) (b : Int) (_wb : (Lit.int .i64 b).wf = true) (c : Int) (_wc : (Lit.int .i64 c).wf = true) (d : Int) (_wd : (Lit.int .i64 d).wf = true) (w : World) :
    Calls Try.prog 9 #[.agg #[.int .i64 a, .int .i64 b], .agg #[.int .i64 c, .int .i64 d]] w fun e w' => e = .returned (.bool true) ∧ Below w.heap.size w w' := by
  go_enter Try.func9, Try.ntmps9
  go_upto_region 1 with (fail)
  go_cut [5, 6] (fun s t wx => ∃ g : Nat, s = .pointer (some ⟨g, 0, none⟩) ∧ t = .int .i64 (rC (kBeatRate a b c d) (szI (a * d - c * b)) (b * d)) ∧ wx.cell? ⟨g, 0, none⟩ = some (.int .i64 (rN (kBeatRate a b c d) (szI (a * d - c * b)) (b * d))) ∧ wx.cell? ⟨g, 1, none⟩ = some (.int .i64 (rD (kBeatRate a b c d) (szI (a * d - c * b)) (b * d))) ∧ wx.cell? ⟨w.heap.size, 0, none⟩ = some (.int .i64 (a)) ∧ wx.cell? ⟨w.heap.size, 1, none⟩ = some (.int .i64 (b)) ∧ wx.cell? ⟨w.heap.size + 1, 0, none⟩ = some (.int .i64 (c)) ∧ wx.cell? ⟨w.heap.size + 1, 1, none⟩ = some (.int .i64 (d)) ∧ Below w.heap.size w wx)
  case first =>
    go_region_held3 (fun w' => w'.cell? ⟨w.heap.size, 0, none⟩ = some (.int .i64 (a)) ∧ w'.cell? ⟨w.heap.size, 1, none⟩ = some (.int .i64 (b)) ∧ w'.cell? ⟨w.heap.size + 1, 0, none⟩ = some (.int .i64 (c)) ∧ w'.cell? ⟨w.heap.size + 1, 1, none⟩ = some (.int .i64 (d)))
      (((try dsimp only); (refine ⟨?_, ?_, ?_, ?_⟩ <;> (first | ((with_reducible (repeat (first | assumption | refine keepD ?_ | refine keepN ?_ _ | refine keepA ?_ | refine keepW ?_ (by simp only [ne_eq]; omega)))); done) | (simp [go_sem]; done)))))
      (first | (go_at_call 16; refine (toFraction_any _ _ _).mono ?_; rintro e w' ⟨rfl, o1, o2, o3, rfl⟩) | (go_at_call 29; refine (lBeatRate_any _ _ _ _ _).mono ?_; rintro e w1 ⟨rfl, hb⟩; have c0 : w1.cell? ⟨w.heap.size, 0, none⟩ = some (.int .i64 (a)) := bcell_of hb (by first | (with_reducible (repeat (first | assumption | refine keepD ?_ | refine keepN ?_ _ | refine keepA ?_)); done) | (simp [go_sem, World.cell?_alloc_past]; done)); have c1 : w1.cell? ⟨w.heap.size, 1, none⟩ = some (.int .i64 (b)) := bcell_of hb (by first | (with_reducible (repeat (first | assumption | refine keepD ?_ | refine keepN ?_ _ | refine keepA ?_)); done) | (simp [go_sem, World.cell?_alloc_past]; done)); have c2 : w1.cell? ⟨w.heap.size + 1, 0, none⟩ = some (.int .i64 (c)) := bcell_of hb (by first | (with_reducible (repeat (first | assumption | refine keepD ?_ | refine keepN ?_ _ | refine keepA ?_)); done) | (simp [go_sem, World.cell?_alloc_past]; done)); have c3 : w1.cell? ⟨w.heap.size + 1, 1, none⟩ = some (.int .i64 (d)) := bcell_of hb (by first | (with_reducible (repeat (first | assumption | refine keepD ?_ | refine keepN ?_ _ | refine keepA ?_)); done) | (simp [go_sem, World.cell?_alloc_past]; done)); (try (refine byhave (p := w1.cell? ⟨w.heap.size + 1 + 1, 0, none⟩ = some (.int .i64 (0))) (bcell_of hb ?_) ?_; (focus (simp [go_sem]; done)); intro z2_0)); (try (refine byhave (p := w1.frozen? ⟨w.heap.size + 1 + 1, 0, none⟩ = false) (bfroz_of hb (v := .int .i64 0) ?_ ?_) ?_; (focus (simp [go_sem]; done)); (focus (simp [go_sem]; done)); intro y2_0)); (try (refine byhave (p := w1.cell? ⟨w.heap.size + 1 + 1, 1, none⟩ = some (.int .i64 (0))) (bcell_of hb ?_) ?_; (focus (simp [go_sem]; done)); intro z2_1)); (try (refine byhave (p := w1.frozen? ⟨w.heap.size + 1 + 1, 1, none⟩ = false) (bfroz_of hb (v := .int .i64 0) ?_ ?_) ?_; (focus (simp [go_sem]; done)); (focus (simp [go_sem]; done)); intro y2_1)); (try (refine byhave (p := w1.cell? ⟨w.heap.size + 1 + 1 + 1 + 1 + 1, 0, none⟩ = some (.int .i64 (0))) (bcell_of hb ?_) ?_; (focus (simp [go_sem]; done)); intro z5_0)); (try (refine byhave (p := w1.frozen? ⟨w.heap.size + 1 + 1 + 1 + 1 + 1, 0, none⟩ = false) (bfroz_of hb (v := .int .i64 0) ?_ ?_) ?_; (focus (simp [go_sem]; done)); (focus (simp [go_sem]; done)); intro y5_0)); (try (refine byhave (p := w1.cell? ⟨w.heap.size + 1 + 1 + 1 + 1 + 1, 1, none⟩ = some (.int .i64 (0))) (bcell_of hb ?_) ?_; (focus (simp [go_sem]; done)); intro z5_1)); (try (refine byhave (p := w1.frozen? ⟨w.heap.size + 1 + 1 + 1 + 1 + 1, 1, none⟩ = false) (bfroz_of hb (v := .int .i64 0) ?_ ?_) ?_; (focus (simp [go_sem]; done)); (focus (simp [go_sem]; done)); intro y5_1)); (try (refine byhave (p := w1.cell? ⟨w.heap.size + 1 + 1 + 1 + 1 + 1 + 1 + 1 + 1, 0, none⟩ = some (.int .i64 (0))) (bcell_of hb ?_) ?_; (focus (simp [go_sem]; done)); intro z8_0)); (try (refine byhave (p := w1.frozen? ⟨w.heap.size + 1 + 1 + 1 + 1 + 1 + 1 + 1 + 1, 0, none⟩ = false) (bfroz_of hb (v := .int .i64 0) ?_ ?_) ?_; (focus (simp [go_sem]; done)); (focus (simp [go_sem]; done)); intro y8_0)); (try (refine byhave (p := w1.cell? ⟨w.heap.size + 1 + 1 + 1 + 1 + 1 + 1 + 1 + 1, 1, none⟩ = some (.int .i64 (0))) (bcell_of hb ?_) ?_; (focus (simp [go_sem]; done)); intro z8_1)); (try (refine byhave (p := w1.frozen? ⟨w.heap.size + 1 + 1 + 1 + 1 + 1 + 1 + 1 + 1, 1, none⟩ = false) (bfroz_of hb (v := .int .i64 0) ?_ ?_) ?_; (focus (simp [go_sem]; done)); (focus (simp [go_sem]; done)); intro y8_1))))
    all_goals
      go_wp2_with fail
      go_meet
      refine ⟨_, rfl, rfl, ?_, ?_, ?_, ?_, ?_, ?_, ?_⟩
      all_goals first | (with_reducible (repeat (first | assumption | refine keepD ?_ | refine keepN ?_ _ | refine keepA ?_)); done) | ((repeat (first | (with_reducible exact Below.refl _ _) | (with_reducible assumption) | (with_reducible refine bl_drewN ?_ _) | (with_reducible refine Below.drew ?_) | (with_reducible refine bl_al ?_ _) | (with_reducible refine Below.setCell ?_ (by first | (simp; done) | (simp; omega)) _) | (with_reducible refine bl_tr ?_ (by assumption)))); done) | (simp [go_sem, *]; done)
  case rest =>
    obtain ⟨g, rfl, rfl, d0, d1, c0, c1, c2, c3, hbl⟩ := hcut
    go_upto_region 2 with (fail)
    go_cut [7, 8] (fun s t wx => ∃ g2 : Nat, s = .pointer (some ⟨g2, 0, none⟩) ∧ t = .int .i64 (rC (kBeatRate a b c d) (szI (a * d - c * b)) (b * d)) ∧ wx.cell? ⟨g2, 0, none⟩ = some (.int .i64 (rN (kBeatRate a b c d) (szI (a * d - c * b)) (b * d))) ∧ wx.cell? ⟨g2, 1, none⟩ = some (.int .i64 (rD (kBeatRate a b c d) (szI (a * d - c * b)) (b * d))) ∧ wx.cell? ⟨g, 0, none⟩ = some (.int .i64 (rN (kBeatRate a b c d) (szI (a * d - c * b)) (b * d))) ∧ wx.cell? ⟨g, 1, none⟩ = some (.int .i64 (rD (kBeatRate a b c d) (szI (a * d - c * b)) (b * d))) ∧ Below w.heap.size w wx)
    case first =>
      have l1 : w.heap.size + 1 < wc.heap.size := World.block_lt_of_cell? wc _ c3
      have l2 : g < wc.heap.size := World.block_lt_of_cell? wc _ d0
      go_region_held3 (fun w' => w'.cell? ⟨w.heap.size, 0, none⟩ = some (.int .i64 (a)) ∧ w'.cell? ⟨w.heap.size, 1, none⟩ = some (.int .i64 (b)) ∧ w'.cell? ⟨w.heap.size + 1, 0, none⟩ = some (.int .i64 (c)) ∧ w'.cell? ⟨w.heap.size + 1, 1, none⟩ = some (.int .i64 (d)))
        (((try dsimp only); (refine ⟨?_, ?_, ?_, ?_⟩ <;> (first | ((with_reducible (repeat (first | assumption | refine keepD ?_ | refine keepN ?_ _ | refine keepA ?_ | refine keepW ?_ (by simp only [ne_eq]; omega)))); done) | (simp [go_sem]; done)))))
        (first | (go_at_call 16; refine (toFraction_any _ _ _).mono ?_; rintro e w' ⟨rfl, o1, o2, o3, rfl⟩) | (go_at_call 30; refine (BeatRate_any _ _ _ _ _).mono ?_; rintro e w1 ⟨rfl, hb⟩; have c0 : w1.cell? ⟨w.heap.size, 0, none⟩ = some (.int .i64 (a)) := bcell_of hb (by first | (with_reducible (repeat (first | assumption | refine keepD ?_ | refine keepN ?_ _ | refine keepA ?_)); done) | (simp [go_sem, World.cell?_alloc_past]; done)); have c1 : w1.cell? ⟨w.heap.size, 1, none⟩ = some (.int .i64 (b)) := bcell_of hb (by first | (with_reducible (repeat (first | assumption | refine keepD ?_ | refine keepN ?_ _ | refine keepA ?_)); done) | (simp [go_sem, World.cell?_alloc_past]; done)); have c2 : w1.cell? ⟨w.heap.size + 1, 0, none⟩ = some (.int .i64 (c)) := bcell_of hb (by first | (with_reducible (repeat (first | assumption | refine keepD ?_ | refine keepN ?_ _ | refine keepA ?_)); done) | (simp [go_sem, World.cell?_alloc_past]; done)); have c3 : w1.cell? ⟨w.heap.size + 1, 1, none⟩ = some (.int .i64 (d)) := bcell_of hb (by first | (with_reducible (repeat (first | assumption | refine keepD ?_ | refine keepN ?_ _ | refine keepA ?_)); done) | (simp [go_sem, World.cell?_alloc_past]; done)); have d0 : w1.cell? ⟨g, 0, none⟩ = some (.int .i64 (rN (kBeatRate a b c d) (szI (a * d - c * b)) (b * d))) := bcell_of hb (by first | (with_reducible (repeat (first | assumption | refine keepD ?_ | refine keepN ?_ _ | refine keepA ?_)); done) | (simp [go_sem, World.cell?_alloc_past]; done)); have d1 : w1.cell? ⟨g, 1, none⟩ = some (.int .i64 (rD (kBeatRate a b c d) (szI (a * d - c * b)) (b * d))) := bcell_of hb (by first | (with_reducible (repeat (first | assumption | refine keepD ?_ | refine keepN ?_ _ | refine keepA ?_)); done) | (simp [go_sem, World.cell?_alloc_past]; done)); (try (refine byhave (p := w1.cell? ⟨wc.heap.size, 0, none⟩ = some (.int .i64 (0))) (bcell_of hb ?_) ?_; (focus (simp [go_sem]; done)); intro z0_0)); (try (refine byhave (p := w1.frozen? ⟨wc.heap.size, 0, none⟩ = false) (bfroz_of hb (v := .int .i64 0) ?_ ?_) ?_; (focus (simp [go_sem]; done)); (focus (simp [go_sem]; done)); intro y0_0)); (try (refine byhave (p := w1.cell? ⟨wc.heap.size, 1, none⟩ = some (.int .i64 (0))) (bcell_of hb ?_) ?_; (focus (simp [go_sem]; done)); intro z0_1)); (try (refine byhave (p := w1.frozen? ⟨wc.heap.size, 1, none⟩ = false) (bfroz_of hb (v := .int .i64 0) ?_ ?_) ?_; (focus (simp [go_sem]; done)); (focus (simp [go_sem]; done)); intro y0_1)); (try (refine byhave (p := w1.cell? ⟨wc.heap.size + 1 + 1 + 1, 0, none⟩ = some (.int .i64 (0))) (bcell_of hb ?_) ?_; (focus (simp [go_sem]; done)); intro z3_0)); (try (refine byhave (p := w1.frozen? ⟨wc.heap.size + 1 + 1 + 1, 0, none⟩ = false) (bfroz_of hb (v := .int .i64 0) ?_ ?_) ?_; (focus (simp [go_sem]; done)); (focus (simp [go_sem]; done)); intro y3_0)); (try (refine byhave (p := w1.cell? ⟨wc.heap.size + 1 + 1 + 1, 1, none⟩ = some (.int .i64 (0))) (bcell_of hb ?_) ?_; (focus (simp [go_sem]; done)); intro z3_1)); (try (refine byhave (p := w1.frozen? ⟨wc.heap.size + 1 + 1 + 1, 1, none⟩ = false) (bfroz_of hb (v := .int .i64 0) ?_ ?_) ?_; (focus (simp [go_sem]; done)); (focus (simp [go_sem]; done)); intro y3_1)); (try (refine byhave (p := w1.cell? ⟨wc.heap.size + 1 + 1 + 1 + 1 + 1 + 1, 0, none⟩ = some (.int .i64 (0))) (bcell_of hb ?_) ?_; (focus (simp [go_sem]; done)); intro z6_0)); (try (refine byhave (p := w1.frozen? ⟨wc.heap.size + 1 + 1 + 1 + 1 + 1 + 1, 0, none⟩ = false) (bfroz_of hb (v := .int .i64 0) ?_ ?_) ?_; (focus (simp [go_sem]; done)); (focus (simp [go_sem]; done)); intro y6_0)); (try (refine byhave (p := w1.cell? ⟨wc.heap.size + 1 + 1 + 1 + 1 + 1 + 1, 1, none⟩ = some (.int .i64 (0))) (bcell_of hb ?_) ?_; (focus (simp [go_sem]; done)); intro z6_1)); (try (refine byhave (p := w1.frozen? ⟨wc.heap.size + 1 + 1 + 1 + 1 + 1 + 1, 1, none⟩ = false) (bfroz_of hb (v := .int .i64 0) ?_ ?_) ?_; (focus (simp [go_sem]; done)); (focus (simp [go_sem]; done)); intro y6_1))))
      all_goals
        go_wp2_with fail
        go_meet
        refine ⟨_, rfl, rfl, ?_, ?_, ?_, ?_, ?_⟩
        all_goals first | (with_reducible (repeat (first | assumption | refine keepD ?_ | refine keepN ?_ _ | refine keepA ?_)); done) | ((repeat (first | (with_reducible exact Below.refl _ _) | (with_reducible assumption) | (with_reducible refine bl_drewN ?_ _) | (with_reducible refine Below.drew ?_) | (with_reducible refine bl_al ?_ _) | (with_reducible refine Below.setCell ?_ (by first | (simp; done) | (simp; omega)) _) | (with_reducible refine bl_tr ?_ (by assumption)))); done) | (simp [go_sem, *]; done)
    case rest =>
      obtain ⟨g2, rfl, rfl, d2, d3, d4, d5, hbl2⟩ := hcut
      go_wp2_with (go_at_call 20; refine (eqFraction_any _ _ _).mono ?_; rintro e w' ⟨rfl, o1, o2, k1, rfl⟩)
      go_ret
      refine ⟨rfl, ?_⟩
      repeat (first | (with_reducible exact Below.refl _ _) | (with_reducible assumption) | (with_reducible refine bl_drewN ?_ _) | (with_reducible refine Below.drew ?_) | (with_reducible refine bl_al ?_ _) | (with_reducible refine Below.setCell ?_ (by first | (simp; done) | (simp; omega)) _) | (with_reducible refine bl_tr ?_ (by assumption)))
end Go.Proofs.Ytgbfnlhldkgmoaa

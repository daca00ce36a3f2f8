/-
  PROVED HERE: the walk of MotionOf: the program and the reference agree. CONDITIONS: a text's length fits the model's longest string.
-/
import Derived.Test.YtdmiieijflochaaBy
import Derived.Test.YtdmiieijflochaaOrd
import Derived.Test.YtdmiieijflochaaStr
namespace Go.Proofs.Ytdmiieijflochaa
open Go.RowKit

/-- The letters at these places. -/
def moL (s : ByteArray) (xs : List Int) : List UInt8 := xs.map fun x => s.data.toList.getD x.toNat 0
theorem moL_len (s : ByteArray) (xs : List Int) : (moL s xs).length = xs.length := by simp [moL]
theorem moL_take {s : ByteArray} {xs : List Int} {k m : Nat} (hk : k < xs.length) (hm : xs.getD k 0 = (m : Int)) (hms : m < s.size) : moL s (xs.take (k + 1)) = moL s (xs.take k) ++ [s[m]] := by
  have e : xs[k] = (m : Int) := by rw [← hm]; simp [List.getD, hk]
  rw [List.take_succ_eq_append_getElem hk, moL, List.map_append, e]
  simp only [List.map_cons, List.map_nil, Int.toNat_natCast, getD_at hms]
  rfl
theorem ordI_bd {p s : Int} {n k : Nat} (hk : k < n) (h1 : 1 ≤ p) : ∃ m : Nat, (ordI p s n).getD k 0 = (m : Int) ∧ nearV p s k % p = (m : Int) ∧ (m : Int) < p := by
  have r0 := Int.emod_nonneg (nearV p s k) (show p ≠ 0 by omega)
  have r1 := Int.emod_lt_of_pos (nearV p s k) (show 0 < p by omega)
  have : (ordI p s n).getD k 0 = nearV p s k % p := by simp [ordI, List.getD, hk]
  exact ⟨(nearV p s k % p).toNat, by rw [this]; omega, by omega, by omega⟩
theorem ordI_take (p s : Int) {n k : Nat} (hk : k ≤ n) : (ordI p s n).take k = ordI p s k := by
  apply List.ext_getElem
  · rw [List.length_take, ordI_len, ordI_len]; omega
  · intro j h1 h2
    simp [ordI]
/-- The motion that a disc shows. -/
def moT (s : ByteArray) (y : Int) : ByteArray := txt (moL s (ordI s.size y y.toNat))
set_option maxHeartbeats 2000000 in
theorem MotionOf_walk (s : ByteArray) (y : Int) (w : World) (hs : s.size ≤ maxLen) (h0 : letB s 24 = true) (h1 : inB y 1 24 = true) :
    Calls Try.prog 39 #[.string s, .int .i64 y] w fun e w' => e = .returned (.tuple #[.string (moT s y), .int .i64 0]) ∧ Below w.heap.size w w' := by
  obtain ⟨i0, hi, hz0, hz1, hz2⟩ := info_parts info_u8
  obtain ⟨x1, x2⟩ := letB_t h0
  obtain ⟨y1, y2⟩ := inB_t h1
  have HS := Lib.hid hs
  have hol := ordI_len (s.size : Int) y y.toNat
  have hc := seenOrder_any (s.size : Int) y
  have hmt : moT s y = txt (moL s (ordI s.size y y.toNat)) := rfl
  rw [hmt]
  obtain ⟨n, hn⟩ : ∃ n, y.toNat = n := ⟨_, rfl⟩
  have hbd : ∀ k, k < n → ∃ m : Nat, (ordI (s.size : Int) y n).getD k 0 = (m : Int) ∧ m < s.size := fun k hk => by
    obtain ⟨m, a1, _, a2⟩ := ordI_bd (p := s.size) (s := y) hk (by omega)
    exact ⟨m, a1, by omega⟩
  have hn1 : 1 ≤ n := by omega
  have hn24 : n ≤ 24 := by omega
  rw [hn] at hol hc ⊢
  obtain ⟨os, hos⟩ : ∃ os, ordI (s.size : Int) y n = os := ⟨_, rfl⟩
  rw [hos] at hol hbd hc ⊢
  have HC := Lib.hid hc
  have HL := Lib.hid hol
  have HBD := Lib.hid hbd
  unfold maxLen at hs
  clear hol hbd hc hos hn hmt
  go_enter Try.func39, Try.ntmps39
  go_wp2_with (first | (go_at_call 70; refine (ValidMotion_any _ _ HS.out).mono ?_; rintro e w' ⟨rfl, rfl⟩) | (go_at_call 47; refine (within_v h1 _).mono ?_; rintro e w' ⟨rfl, rfl⟩))
  refine (HC.out _ (by omega) (by omega) (by omega) (by omega)).mono ?_
  rintro e w2 ⟨Ao, co, rfl, own2, hb2⟩
  rw [HL.out] at own2 ⊢
  have HB2 := Lib.hid (show Below w.heap.size w w2 from bl_tr (bl_al (Below.refl _ _) _) hb2)
  have HO2 := Lib.hid (own_below (World.ownsRow_lit (e := 5) (size := 1) (base := w.heap.size) w #[] 0 (Nat.le_refl _) (Nat.zero_le _) (by simp)) hb2)
  have HR2 := Lib.hid own2
  clear own2 hb2
  go_wp2
  go_loopw [6, 8, 23] (fun v _ i wr => ∃ (k B : Nat), k ≤ n ∧ i = .int .i64 k ∧ wr.ownsRow w.heap.size 5 1 v k (bcl (moL s (os.take k))) ∧ wr.ownsRow B 2 1 (.slice Ao n co) n (os.map (Value.int .i64)) ∧ Below w.heap.size w wr) (fun _ _ i _ => n - (intOf i).toNat)
  case atStart => exact ⟨0, _, Nat.zero_le _, rfl, by simpa [moL, bcl] using HO2.out, HR2.out, HB2.out⟩
  case round =>
    obtain ⟨k, B, hk, rfl, ho, hr, hb⟩ := hrel
    have hz := hb.size
    have HO := Lib.hid ho
    have HR := Lib.hid hr
    have HB := Lib.hid hb
    clear ho hr hb
    by_cases hlt : k < n
    · obtain ⟨b1, o1, hAA, g1⟩ := (RI.of_own HR.out).at_ hlt
      obtain ⟨m, hm, hms⟩ := HBD.out k hlt
      rw [hm] at g1
      have htk := moL_take (s := s) (by rw [HL.out]; exact hlt) hm hms
      have HT := Lib.hid htk
      have hms2 : (m : Int) < (s.size : Int) := by omega
      have hms3 : (0 : Int) ≤ (m : Int) := by omega
      subst hAA
      clear htk hm
      go_wp2_with (at_builtin; refine wpList_append_own _ rfl _ _ 72 rfl w.heap.size 5 i0 (.int .u8 0) 1 1 Try.underlying72 hi hz0 hz1 hz2 rfl (by decide) _ _ _ rfl (HO.out.alloc _) ⟨wr.heap.size, 0, none⟩ 1 1 [.int .u8 (s[m].toNat : Int)] rfl rfl (cell_one_new _ _ _) (one_u8 _) (by unfold maxLen; omega) (by omega) (by simp; omega) ?_; intro v' w1 hown' hgrow _)
      have hb2 := (HB.out.alloc hz (.cells #[.int .u8 (s[m].toNat : Int)] 5)).grown hgrow (by simp; omega) (fun j hj => (HO.out.lt j hj).1)
      have hr2 := own_types_kept (HR.out.alloc (.cells #[.int .u8 (s[m].toNat : Int)] 5)) (HO.out.alloc (.cells #[.int .u8 (s[m].toNat : Int)] 5)) (by decide) hgrow
      go_roundw
      case rel => exact ⟨k + 1, B, by omega, by go_num, by rw [HT.out, bcl_app, bcl_one]; exact hown', hr2, hb2⟩
      case measure => simp [intOf]; omega
    · have e : k = n := by omega
      have ho := HO.out
      rw [e, ← HL.out, List.take_length, HL.out] at ho
      obtain ⟨g, cap, hv, _, _⟩ := ho.form (by omega)
      subst hv
      have hcv := conv_own ho hn1
      clear e ho
      go_wp2
      go_ret2
      exact ⟨rfl, HB.out⟩
set_option maxHeartbeats 2000000 in
theorem l06Motion_any (s : ByteArray) (y : Int) (w : World) (h0 : letB s 24 = true) (h1 : inB y 1 24 = true) :
    Calls Try.prog 69 #[.string s, .int .i64 y] w fun e w' => e = .returned (.string (moT s y)) ∧ Below w.heap.size w w' := by
  obtain ⟨i0, hi, hz0, hz1, hz2⟩ := info_parts info_u8
  obtain ⟨x1, x2⟩ := letB_t h0
  obtain ⟨y1, y2⟩ := inB_t h1
  have hmt : moT s y = txt (moL s (ordI s.size y y.toNat)) := rfl
  rw [hmt]
  obtain ⟨n, rfl⟩ : ∃ n : Nat, y = n := ⟨y.toNat, by omega⟩
  rw [Int.toNat_natCast]
  have hn1 : 1 ≤ n := by omega
  have hn24 : n ≤ 24 := by omega
  have HT2 := Lib.hid (fun k (hk : k < n) => ordI_bd (p := s.size) (s := n) hk (by omega))
  clear hmt
  go_enter Try.func69, Try.ntmps69
  go_wp2
  go_loopw [5, 6] (fun v i wr => ∃ k : Nat, k ≤ n ∧ i = .int .i64 k ∧ wr.ownsRow w.heap.size 5 1 v k (bcl (moL s (ordI s.size n k))) ∧ Below w.heap.size w wr) (fun _ i _ => n - (intOf i).toNat)
  case atStart => exact ⟨0, Nat.zero_le _, rfl, World.ownsRow_lit w #[] 0 (Nat.le_refl _) (Nat.zero_le _) (by simp), (Below.refl _ _).alloc (Nat.le_refl _) _⟩
  case round =>
    obtain ⟨k, hk, rfl, ho, hb⟩ := hrel
    have hz := hb.size
    have HO := Lib.hid ho
    have HB := Lib.hid hb
    clear ho hb
    by_cases hlt : k < n
    · obtain ⟨m, hm, hm2, hms⟩ := HT2.out k hlt
      have hms1 : m < s.size := by omega
      have htk := moL_take (s := s) (xs := ordI s.size n n) (by rw [ordI_len]; exact hlt) hm hms1
      rw [ordI_take _ _ (by omega), ordI_take _ _ (by omega)] at htk
      have HT := Lib.hid htk
      have hms3 : (0 : Int) ≤ (m : Int) := by omega
      have c1 := fun W => l03Seen_any (s.size : Int) n k W (by omega) (by omega) (by omega) (by omega) (by omega) (by omega)
      rw [hm2] at c1
      have C1 := Lib.hid c1
      clear htk hm hm2 c1
      go_wp2_with (first | (go_at_call 76; refine (C1.out _).mono ?_; rintro e w' ⟨rfl, rfl⟩) | (at_builtin; refine wpList_append_own _ rfl _ _ 72 rfl w.heap.size 5 i0 (.int .u8 0) 1 1 Try.underlying72 hi hz0 hz1 hz2 rfl (by decide) _ _ _ rfl (HO.out.alloc _) ⟨wr.heap.size, 0, none⟩ 1 1 [.int .u8 (s[m].toNat : Int)] rfl rfl (cell_one_new _ _ _) (one_u8 _) (by unfold maxLen; omega) (by omega) (by simp; omega) ?_; intro v' w1 hown' hgrow _))
      have hb2 := (HB.out.alloc hz (.cells #[.int .u8 (s[m].toNat : Int)] 5)).grown hgrow (by simp; omega) (fun j hj => (HO.out.lt j hj).1)
      go_roundw
      case rel => exact ⟨k + 1, by omega, by go_num, by rw [HT.out, bcl_app, bcl_one]; exact hown', hb2⟩
      case measure => simp [intOf]; omega
    · have e : k = n := by omega
      subst e
      have ho := HO.out
      obtain ⟨g, cap, hv, _, _⟩ := ho.form (by omega)
      subst hv
      have hcv := conv_own ho hn1
      clear ho
      go_wp2
      go_ret
      exact ⟨rfl, HB.out⟩
def moK (s : ByteArray) (y : Int) : Int := if letB s 24 then (if inB y 1 24 then 0 else 2) else 1
def moX (s : ByteArray) (y : Int) : ByteArray := if letB s 24 then (if inB y 1 24 then moT s y else ByteArray.empty) else ByteArray.empty
theorem l06Code_any (s : ByteArray) (y : Int) (w : World) (hs : s.size ≤ maxLen) :
    Calls Try.prog 68 #[.string s, .int .i64 y] w fun e w' => e = .returned (.int .i64 (moK s y)) ∧ w = w' := by
  have HS := Lib.hid hs
  have he : moK s y = if letB s 24 then (if inB y 1 24 then 0 else 2) else 1 := rfl
  rw [he]
  clear he hs
  cases h0 : letB s 24 <;> cases h1 : inB y 1 24
  all_goals
    go_enter Try.func68, Try.ntmps68
    go_wp2_with (first | (go_at_call 73; refine (l06Ok_any _ _ HS.out).mono ?_; rintro e w' ⟨rfl, rfl⟩) | (first | (go_at_call 47; refine (within_any _ _ _ _).mono ?_; rintro e w' ⟨rfl, rfl⟩) | (go_at_call 45; refine (l00In_any _ _ _ _).mono ?_; rintro e w' ⟨rfl, rfl⟩) | go_in))
    go_ret
    exact ⟨rfl, rfl⟩
theorem MotionOf_any (s : ByteArray) (y : Int) (w : World) (hs : s.size ≤ maxLen) :
    Calls Try.prog 39 #[.string s, .int .i64 y] w fun e w' => e = .returned (.tuple #[.string (moX s y), .int .i64 (moK s y)]) ∧ Below w.heap.size w w' := by
  have HS := Lib.hid hs
  cases h0 : letB s 24 <;> cases h1 : inB y 1 24
  case true.true =>
    have e1 : moX s y = moT s y := by simp [moX, h0, h1]
    have e2 : moK s y = 0 := by simp [moK, h0, h1]
    rw [e1, e2]
    exact MotionOf_walk s y w hs h0 h1
  all_goals
    have e1 : moX s y = ByteArray.empty := by simp [moX, h0, h1]
    have e2 := show moK s y = if letB s 24 then (if inB y 1 24 then 0 else 2) else 1 from rfl
    rw [h0, h1] at e2
    rw [e1, e2]
    clear e1 e2 hs
    go_enter Try.func39, Try.ntmps39
    go_wp2_with (first | (go_at_call 70; refine (ValidMotion_any _ _ HS.out).mono ?_; rintro e w' ⟨rfl, rfl⟩) | (first | (go_at_call 47; refine (within_any _ _ _ _).mono ?_; rintro e w' ⟨rfl, rfl⟩) | (go_at_call 45; refine (l00In_any _ _ _ _).mono ?_; rintro e w' ⟨rfl, rfl⟩) | go_in))
    go_ret2
    exact ⟨rfl, Below.refl _ _⟩
theorem lMotionOf_any (s : ByteArray) (y : Int) (w : World) (hs : s.size ≤ maxLen) :
    Calls Try.prog 38 #[.string s, .int .i64 y] w fun e w' => e = .returned (.tuple #[.string (moX s y), .int .i64 (moK s y)]) ∧ Below w.heap.size w w' := by
  have HC := Lib.hid (fun W => l06Code_any s y W hs)
  cases h0 : letB s 24 <;> cases h1 : inB y 1 24
  case true.true =>
    have e1 : moX s y = moT s y := by simp [moX, h0, h1]
    have e2 : moK s y = 0 := by simp [moK, h0, h1]
    rw [e1, e2]
    have hc := HC.out
    rw [e2] at hc
    have HC2 := Lib.hid hc
    clear e1 e2 hc hs
    go_enter Try.func38, Try.ntmps38
    go_wp2_with (first | (go_at_call 68; refine (HC2.out _).mono ?_; rintro e w' ⟨rfl, rfl⟩) | (go_at_call 69; refine (l06Motion_any _ _ _ h0 h1).mono ?_; rintro e w2 ⟨rfl, hb2⟩))
    go_ret2
    exact ⟨rfl, hb2⟩
  all_goals
    have e1 : moX s y = ByteArray.empty := by simp [moX, h0, h1]
    have e2 := show moK s y = if letB s 24 then (if inB y 1 24 then 0 else 2) else 1 from rfl
    rw [h0, h1] at e2
    rw [e1, e2]
    have hc := HC.out
    rw [e2] at hc
    have HC2 := Lib.hid hc
    clear e1 e2 hc hs
    go_enter Try.func38, Try.ntmps38
    go_wp2_with (first | (go_at_call 68; refine (HC2.out _).mono ?_; rintro e w' ⟨rfl, rfl⟩))
    go_ret2
    exact ⟨rfl, Below.refl _ _⟩
set_option maxHeartbeats 1000000 in
theorem law_MotionOf (a0 : ByteArray) (w0 : a0.size ≤ maxLen) (y : Int) (_wy : (Lit.int .i64 y).wf = true) (w : World) :
    Calls Try.prog 12 #[.string a0, .int .i64 y] w fun e w' => e = .returned (.bool true) ∧ Below w.heap.size w w' := by
  by_cases hb0 : 1048576 < a0.size
  · have hd0 : decide (1048576 < (a0.size : Int)) = true := by simp; omega
    unfold maxLen at w0
    go_enter Try.func12, Try.ntmps12
    go_wp2
    go_ret
    exact ⟨rfl, Below.refl _ _⟩
  have hd0 : decide (1048576 < (a0.size : Int)) = false := by simp; omega
  have HW0 := Lib.hid w0
  unfold maxLen at w0
  go_enter Try.func12, Try.ntmps12
  go_wp2_with (first | (go_at_call 38; refine (lMotionOf_any _ _ _ HW0.out).mono ?_; rintro e w2 ⟨rfl, hb2⟩) | (go_at_call 39; refine (MotionOf_any _ _ _ HW0.out).mono ?_; rintro e w3 ⟨rfl, hb3⟩))
  go_ret
  exact ⟨rfl, bl_tr hb2 hb3⟩
end Go.Proofs.Ytdmiieijflochaa

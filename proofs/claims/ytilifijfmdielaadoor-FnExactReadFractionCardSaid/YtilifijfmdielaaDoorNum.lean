/-
  PROVED HERE: contracts of the decimal numeral and of the number of a text, in the reference and in the program. CONDITIONS: as each theorem names them.
-/
import Derived.Test.YtilifijfmdielaaDoorDec
import Derived.Test.YtilifijfmdielaaDoorShelf
import Derived.Lib.AppendIntMem
namespace Go.Proofs.YtilifijfmdielaaDoor
open Go.RowKit

def rdN (l : List UInt8) : Int := (rdO l).getD 0
def rdB (l : List UInt8) : Bool := (rdO l).isSome
theorem rd_ret0 {l : List UInt8} (h : rdO l = none) : Ending.returned (.tuple #[.int .i64 0, .bool false]) = .returned (.tuple #[.int .i64 (rdN l), .bool (rdB l)]) := by simp [rdN, rdB, h]
theorem rd_ret1 {l : List UInt8} {v : Int} (h : rdO l = some v) : Ending.returned (.tuple #[.int .i64 v, .bool true]) = .returned (.tuple #[.int .i64 (rdN l), .bool (rdB l)]) := by simp [rdN, rdB, h]
theorem rd_num {l : List UInt8} {v : Int} (h : numO l = some v) (b : Bool) (hb : decide (Lib.itoa v = l) = b) : rdO l = if b then some v else none := by
  unfold rdO
  rw [h]
  subst hb
  by_cases e : Lib.itoa v = l <;> simp [e]
theorem str_eq {D s : ByteArray} {l : List UInt8} (hD : D = ⟨l.toArray⟩) : (D.toList == s.toList) = decide (l = s.data.toList) := by
  subst hD
  rw [ByteArray.toList_eq, ByteArray.toList_eq]
  by_cases e : l = s.data.toList <;> simp [e]
theorem l01Digit_any (c : Nat) (w : World) :
    Calls Tryd.prog 38 #[.int .u8 (c : Int)] w fun e w' => e = .returned (.bool (decide (48 ≤ (c : Int)) && decide ((c : Int) ≤ 57))) ∧ w = w' := by
  by_cases h1 : 48 ≤ (c : Int)
  · by_cases h2 : (c : Int) ≤ 57
    · have g1 : decide (48 ≤ (c : Int)) = true := by simpa using h1
      have g2 : decide ((c : Int) ≤ 57) = true := by simpa using h2
      go_enter Tryd.func38, Tryd.ntmps38
      go_wp2
      go_ret
      exact ⟨ret_bool (by first | rfl | simp [g1, g2]), rfl⟩
    · have g1 : decide (48 ≤ (c : Int)) = true := by simpa using h1
      have g2 : decide ((c : Int) ≤ 57) = false := by simpa using h2
      go_enter Tryd.func38, Tryd.ntmps38
      go_wp2
      go_ret
      exact ⟨ret_bool (by first | rfl | simp [g1, g2]), rfl⟩
  · have g1 : decide (48 ≤ (c : Int)) = false := by simpa using h1
    go_enter Tryd.func38, Tryd.ntmps38
    go_wp2
    go_ret
    exact ⟨ret_bool (by first | rfl | simp [g1]), rfl⟩
theorem list_of (s : ByteArray) (h : 0 < s.size) : s.data.toList = s[0] :: s.data.toList.drop 1 := by
  have hl : 0 < s.data.toList.length := by simpa using h
  have h1 := List.drop_eq_getElem_cons (l := s.data.toList) (i := 0) hl
  rw [List.drop_zero] at h1
  exact h1
theorem tail_N {s : ByteArray} (h : 0 < s.size) (h45 : (s[0].toNat : Int) = 45) : (s.extract 1 s.size).data.toList = tailS s.data.toList ∧ (tailS s.data.toList).length + 1 = s.size := by
  have h1 : s[0] = 45 := UInt8.toNat_inj.1 (by rw [show (45 : UInt8).toNat = 45 from rfl]; omega)
  have h2 := list_of s h
  have hs : s.data.toList.length = s.size := by simp
  rw [h1] at h2
  have h3 : tailS s.data.toList = s.data.toList.drop 1 := by rw [h2]; simp [tailS]
  rw [h3]
  constructor
  · rw [ByteArray.data_extract, Array.toList_extract, List.extract_eq_take_drop]
    rw [List.take_of_length_le (by rw [List.length_drop]; omega)]
  · rw [List.length_drop]; omega
theorem tail_P {s : ByteArray} (h : 0 < s.size) (h45 : ¬ (s[0].toNat : Int) = 45) : s.data.toList = tailS s.data.toList := by
  have h1 : s[0] ≠ 45 := fun e => h45 (by rw [e]; rfl)
  rw [list_of s h]
  simp [tailS, h1]
theorem drop_at {T : ByteArray} {k : Nat} (h : k < T.size) : T.data.toList.drop k = T[k] :: T.data.toList.drop (k + 1) := by
  have hl : k < T.data.toList.length := by simpa using h
  rw [List.drop_eq_getElem_cons hl]; rfl
theorem numO_of {l T : List UInt8} {acc : Nat} (hT : T = tailS l) (h1 : 1 ≤ T.length) (h2 : T.length ≤ 18) (hv : valO 0 T = some acc) : numO l = some (if T.length < l.length then -(acc : Int) else (acc : Int)) := by
  subst hT
  unfold numO
  rw [if_pos ⟨h1, h2⟩, hv]
theorem rdO_bad {l T : List UInt8} (hT : T = tailS l) (h : ¬ (1 ≤ T.length ∧ T.length ≤ 18) ∨ valO 0 T = none) : rdO l = none := by
  subst hT
  unfold rdO numO
  rcases h with h | h
  · rw [if_neg h]
  · rw [h]; split <;> simp_all
set_option maxHeartbeats 2000000 in
theorem l01Number_any (s : ByteArray) (w : World) (hs : s.size ≤ 1048576) :
    Calls Tryd.prog 25 #[.string s] w fun e w' => e = .returned (.tuple #[.int .i64 (rdN s.data.toList), .bool (rdB s.data.toList)]) ∧ Below w.heap.size w w' := by
  have hsl : s.data.toList.length = s.size := by simp
  by_cases h0 : 0 < s.size
  rotate_left
  · have e0 : s.toList.isEmpty = true := by
      rw [ByteArray.toList_eq, List.isEmpty_iff]; exact List.eq_nil_of_length_eq_zero (by omega)
    have hn : rdO s.data.toList = none := rdO_bad (T := []) (by rw [List.eq_nil_of_length_eq_zero (l := s.data.toList) (by omega)]; rfl) (.inl (by simp))
    have HN := Lib.hid hn
    have hsz : s.size = 0 := by omega
    clear hn
    go_enter Tryd.func25, Tryd.ntmps25
    go_wp2
    go_ret2
    exact ⟨rd_ret0 HN.out, Below.refl _ _⟩
  have e0 : s.toList.isEmpty = false := by
    rw [ByteArray.toList_eq]; cases hh : s.data.toList with
    | nil => rw [hh] at hsl; simp at hsl; omega
    | cons a b => rfl
  by_cases h45 : (s[0].toNat : Int) = 45
  · obtain ⟨tl1, tl2⟩ := tail_N h0 h45
    have c45 : ((s[0].toNat : Int) == 45) = true := by first | (simpa using h45) | (simp; omega)
    obtain ⟨T, hT⟩ : ∃ T : ByteArray, T = (s.extract 1 s.size) := ⟨_, rfl⟩
    rw [← hT] at tl1
    have hTl : T.data.toList.length = T.size := by simp
    have hTs : decide ((T.size : Int) < (s.size : Int)) = true := by
      have : T.size + (if true then 1 else 0) = s.size := by first | (rw [← hTl, tl1]; simpa using tl2) | (rw [hT]; rfl)
      simp at this ⊢
      omega
    have hT2 : s.extract 1 s.size = T := hT.symm
    have HTL := Lib.hid tl1
    clear tl1
    try clear hT
    try clear tl2
    by_cases b1 : 1 ≤ (T.size : Int)
    rotate_left
    · have b1' : decide ((T.size : Int) < 1) = true := by simp; omega
      have HN := Lib.hid (rdO_bad HTL.out (.inl (by omega)))
      go_enter Tryd.func25, Tryd.ntmps25
      go_wp2
      go_ret2
      exact ⟨rd_ret0 HN.out, Below.refl _ _⟩
    have b1' : decide ((T.size : Int) < 1) = false := by simp; omega
    by_cases b2 : (T.size : Int) ≤ 18
    rotate_left
    · have b2' : decide (18 < (T.size : Int)) = true := by simp; omega
      have HN := Lib.hid (rdO_bad HTL.out (.inl (by omega)))
      go_enter Tryd.func25, Tryd.ntmps25
      go_wp2
      go_ret2
      exact ⟨rd_ret0 HN.out, Below.refl _ _⟩
    have b2' : decide (18 < (T.size : Int)) = false := by simp; omega
    have HTN := Lib.hid hTl
    have HSN := Lib.hid hsl
    have HTT := Lib.hid hTs
    clear hTl hsl hTs
    go_enter Tryd.func25, Tryd.ntmps25
    go_wp2
    go_loop [5, 6] (fun u v => ∃ k acc : Nat, k ≤ T.size ∧ v = .int .i64 k ∧ u = .int .i64 acc ∧ valO 0 T.data.toList = valO acc (T.data.toList.drop k) ∧ acc < 10 ^ k) (fun _ v => T.size - (intOf v).toNat)
    case atStart => exact ⟨0, 0, Nat.zero_le _, rfl, rfl, by rw [List.drop_zero], by decide⟩
    case round =>
      obtain ⟨k, acc, hk, rfl, rfl, hv, ha⟩ := hrel
      have HV := Lib.hid hv
      have HA := Lib.hid ha
      have ha18 : acc < 1000000000000000000 := Nat.lt_of_lt_of_le ha (show 10 ^ k ≤ 10 ^ 18 from Nat.pow_le_pow_right (by decide) (by omega))
      clear hv ha
      by_cases hlt : k < T.size
      · have hdr := drop_at hlt
        have ha17 : acc < 100000000000000000 := Nat.lt_of_lt_of_le HA.out (show 10 ^ k ≤ 10 ^ 17 from Nat.pow_le_pow_right (by decide) (by omega))
        obtain ⟨d, hd⟩ : ∃ d, d = T[k] := ⟨_, rfl⟩
        rw [← hd] at hdr
        have hd2 : T[k].toNat = d.toNat := by rw [hd]
        obtain ⟨c, hc⟩ : ∃ c : Nat, c = d.toNat := ⟨_, rfl⟩
        rw [← hc] at hd2
        have s1 : (k : Int) < (T.size : Int) := by omega
        have s2 : (0 : Int) ≤ (k : Int) := by omega
        have HDR := Lib.hid hdr
        have HCC := Lib.hid hc
        clear hdr hd hc
        by_cases hdg : 48 ≤ c ∧ c ≤ 57
        · have g1 : decide (48 ≤ (c : Int)) = true := by simp; omega
          have g2 : decide ((c : Int) ≤ 57) = true := by simp; omega
          have g3 : (decide (48 ≤ (c : Int)) && decide ((c : Int) ≤ 57)) = true := by rw [g1, g2]; rfl
          have s3 : IntKind.i64.wrap (10 * (acc : Int)) = 10 * (acc : Int) := w64d (by omega) (by omega)
          have s4 : IntKind.u8.wrap ((c : Int) - 48) = (c : Int) - 48 := by rw [IntKind.wrap_u8]; omega
          have s5 : IntKind.i64.wrap ((c : Int) - 48) = (c : Int) - 48 := w64d (by omega) (by omega)
          have s6 : IntKind.i64.wrap (10 * (acc : Int) + ((c : Int) - 48)) = ((acc * 10 + (c - 48) : Nat) : Int) := by rw [w64d (by omega) (by omega)]; omega
          have HN := Lib.hid (show valO 0 T.data.toList = valO (acc * 10 + (c - 48)) (T.data.toList.drop (k + 1)) from by
            rw [HV.out, HDR.out]; simp only [valO]; rw [if_pos (by rw [← HCC.out]; exact hdg), ← HCC.out])
          have HP := Lib.hid (show acc * 10 + (c - 48) < 10 ^ (k + 1) from by have := HA.out; rw [Nat.pow_succ]; omega)
          go_wp2_with (go_at_call 38; refine (l01Digit_any c _).mono ?_; rintro e w' ⟨rfl, rfl⟩; simp only [g3])
          go_round
          case rel => exact ⟨k + 1, acc * 10 + (c - 48), by omega, by go_num, by first | rfl | rw [s6], HN.out, HP.out⟩
          case measure => simp [intOf]; omega
        · have g3 : (decide (48 ≤ (c : Int)) && decide ((c : Int) ≤ 57)) = false := by
            by_cases h : 48 ≤ c
            · rw [show decide ((c : Int) ≤ 57) = false by simp; omega, Bool.and_false]
            · rw [show decide (48 ≤ (c : Int)) = false by simp; omega, Bool.false_and]
          have HN := Lib.hid (rdO_bad HTL.out (.inr (by rw [HV.out, HDR.out]; simp only [valO]; rw [if_neg (by rw [← HCC.out]; exact hdg)])))
          go_wp2_with (go_at_call 38; refine (l01Digit_any c _).mono ?_; rintro e w' ⟨rfl, rfl⟩; simp only [g3])
          go_ret2
          exact ⟨rd_ret0 HN.out, Below.refl _ _⟩
      · have hkT : k = T.size := by omega
        subst hkT
        have hv : valO 0 T.data.toList = some acc := by rw [HV.out, List.drop_of_length_le (by rw [HTN.out]; exact Nat.le_refl _)]; rfl
        have hnum := numO_of HTL.out (by rw [HTN.out]; omega) (by rw [HTN.out]; omega) hv
        rw [HTN.out] at hnum
        try rw [HSN.out] at hnum
        have htt := HTT.out
        have htt2 := HTT.out
        have htt3 : (T.size < s.size) ↔ (true = true) := by have := HTT.out; simp at this; simp; try omega
        simp at htt3
        have hnum2 : numO s.data.toList = some (-(acc : Int)) := by
          rw [hnum]
          simp at htt
          first | rw [if_pos (by omega)] | rw [if_neg (by omega)]
        have s7 : IntKind.i64.wrap (-(acc : Int)) = -(acc : Int) := w64d (by omega) (by omega)
        obtain ⟨V, hV⟩ : ∃ V : Int, V = -(acc : Int) := ⟨_, rfl⟩
        have v1 : -9223372036854775808 ≤ V := by omega
        have v2 : V ≤ 9223372036854775807 := by omega
        rw [← hV] at hnum2
        have hV2 : -(acc : Int) = V := hV.symm
        have c1 := fun W => l01Dec_any V W v1 v2
        obtain ⟨D, hD⟩ : ∃ D : ByteArray, D = ⟨(Lib.itoa V).toArray⟩ := ⟨_, rfl⟩
        rw [← hD] at c1
        have hse := str_eq (s := s) hD
        have C1 := Lib.hid c1
        have HNUM := Lib.hid hnum2
        clear hv hnum hnum2 hD c1 hV
        cases hb : decide (Lib.itoa V = s.data.toList)
        · rw [hb] at hse
          have hse2 : (D.toList != s.toList) = true := by simp only [bne, hse, Bool.not_false]
          have HR := Lib.hid (rd_num HNUM.out _ hb)
          clear hb
          go_wp2_with (go_at_call 23; refine (C1.out _).mono ?_; rintro e w' ⟨rfl, hb1⟩)
          go_ret2
          exact ⟨rd_ret0 HR.out, hb1⟩
        · rw [hb] at hse
          have hse2 : (D.toList != s.toList) = false := by simp only [bne, hse, Bool.not_true]
          have HR := Lib.hid (rd_num HNUM.out _ hb)
          clear hb
          go_wp2_with (go_at_call 23; refine (C1.out _).mono ?_; rintro e w' ⟨rfl, hb1⟩)
          go_ret2
          exact ⟨rd_ret1 HR.out, hb1⟩
  · have tl1 := tail_P h0 h45
    have c45 : ((s[0].toNat : Int) == 45) = false := by first | (simpa using h45) | (simp; omega)
    obtain ⟨T, hT⟩ : ∃ T : ByteArray, T = s := ⟨_, rfl⟩
    rw [← hT] at tl1
    have hTl : T.data.toList.length = T.size := by simp
    have hTs : decide ((T.size : Int) < (s.size : Int)) = false := by
      have : T.size + (if false then 1 else 0) = s.size := by first | (rw [← hTl, tl1]; simpa using tl2) | (rw [hT]; rfl)
      simp at this ⊢
      omega
    subst hT
    have HTL := Lib.hid tl1
    clear tl1
    try clear hT
    try clear tl2
    by_cases b1 : 1 ≤ (T.size : Int)
    rotate_left
    · have b1' : decide ((T.size : Int) < 1) = true := by simp; omega
      have HN := Lib.hid (rdO_bad HTL.out (.inl (by omega)))
      go_enter Tryd.func25, Tryd.ntmps25
      go_wp2
      go_ret2
      exact ⟨rd_ret0 HN.out, Below.refl _ _⟩
    have b1' : decide ((T.size : Int) < 1) = false := by simp; omega
    by_cases b2 : (T.size : Int) ≤ 18
    rotate_left
    · have b2' : decide (18 < (T.size : Int)) = true := by simp; omega
      have HN := Lib.hid (rdO_bad HTL.out (.inl (by omega)))
      go_enter Tryd.func25, Tryd.ntmps25
      go_wp2
      go_ret2
      exact ⟨rd_ret0 HN.out, Below.refl _ _⟩
    have b2' : decide (18 < (T.size : Int)) = false := by simp; omega
    have HTN := Lib.hid hTl
    have HSN := Lib.hid hsl
    have HTT := Lib.hid hTs
    clear hTl hsl hTs
    go_enter Tryd.func25, Tryd.ntmps25
    go_wp2
    go_loop [5, 6] (fun u v => ∃ k acc : Nat, k ≤ T.size ∧ v = .int .i64 k ∧ u = .int .i64 acc ∧ valO 0 T.data.toList = valO acc (T.data.toList.drop k) ∧ acc < 10 ^ k) (fun _ v => T.size - (intOf v).toNat)
    case atStart => exact ⟨0, 0, Nat.zero_le _, rfl, rfl, by rw [List.drop_zero], by decide⟩
    case round =>
      obtain ⟨k, acc, hk, rfl, rfl, hv, ha⟩ := hrel
      have HV := Lib.hid hv
      have HA := Lib.hid ha
      have ha18 : acc < 1000000000000000000 := Nat.lt_of_lt_of_le ha (show 10 ^ k ≤ 10 ^ 18 from Nat.pow_le_pow_right (by decide) (by omega))
      clear hv ha
      by_cases hlt : k < T.size
      · have hdr := drop_at hlt
        have ha17 : acc < 100000000000000000 := Nat.lt_of_lt_of_le HA.out (show 10 ^ k ≤ 10 ^ 17 from Nat.pow_le_pow_right (by decide) (by omega))
        obtain ⟨d, hd⟩ : ∃ d, d = T[k] := ⟨_, rfl⟩
        rw [← hd] at hdr
        have hd2 : T[k].toNat = d.toNat := by rw [hd]
        obtain ⟨c, hc⟩ : ∃ c : Nat, c = d.toNat := ⟨_, rfl⟩
        rw [← hc] at hd2
        have s1 : (k : Int) < (T.size : Int) := by omega
        have s2 : (0 : Int) ≤ (k : Int) := by omega
        have HDR := Lib.hid hdr
        have HCC := Lib.hid hc
        clear hdr hd hc
        by_cases hdg : 48 ≤ c ∧ c ≤ 57
        · have g1 : decide (48 ≤ (c : Int)) = true := by simp; omega
          have g2 : decide ((c : Int) ≤ 57) = true := by simp; omega
          have g3 : (decide (48 ≤ (c : Int)) && decide ((c : Int) ≤ 57)) = true := by rw [g1, g2]; rfl
          have s3 : IntKind.i64.wrap (10 * (acc : Int)) = 10 * (acc : Int) := w64d (by omega) (by omega)
          have s4 : IntKind.u8.wrap ((c : Int) - 48) = (c : Int) - 48 := by rw [IntKind.wrap_u8]; omega
          have s5 : IntKind.i64.wrap ((c : Int) - 48) = (c : Int) - 48 := w64d (by omega) (by omega)
          have s6 : IntKind.i64.wrap (10 * (acc : Int) + ((c : Int) - 48)) = ((acc * 10 + (c - 48) : Nat) : Int) := by rw [w64d (by omega) (by omega)]; omega
          have HN := Lib.hid (show valO 0 T.data.toList = valO (acc * 10 + (c - 48)) (T.data.toList.drop (k + 1)) from by
            rw [HV.out, HDR.out]; simp only [valO]; rw [if_pos (by rw [← HCC.out]; exact hdg), ← HCC.out])
          have HP := Lib.hid (show acc * 10 + (c - 48) < 10 ^ (k + 1) from by have := HA.out; rw [Nat.pow_succ]; omega)
          go_wp2_with (go_at_call 38; refine (l01Digit_any c _).mono ?_; rintro e w' ⟨rfl, rfl⟩; simp only [g3])
          go_round
          case rel => exact ⟨k + 1, acc * 10 + (c - 48), by omega, by go_num, by first | rfl | rw [s6], HN.out, HP.out⟩
          case measure => simp [intOf]; omega
        · have g3 : (decide (48 ≤ (c : Int)) && decide ((c : Int) ≤ 57)) = false := by
            by_cases h : 48 ≤ c
            · rw [show decide ((c : Int) ≤ 57) = false by simp; omega, Bool.and_false]
            · rw [show decide (48 ≤ (c : Int)) = false by simp; omega, Bool.false_and]
          have HN := Lib.hid (rdO_bad HTL.out (.inr (by rw [HV.out, HDR.out]; simp only [valO]; rw [if_neg (by rw [← HCC.out]; exact hdg)])))
          go_wp2_with (go_at_call 38; refine (l01Digit_any c _).mono ?_; rintro e w' ⟨rfl, rfl⟩; simp only [g3])
          go_ret2
          exact ⟨rd_ret0 HN.out, Below.refl _ _⟩
      · have hkT : k = T.size := by omega
        subst hkT
        have hv : valO 0 T.data.toList = some acc := by rw [HV.out, List.drop_of_length_le (by rw [HTN.out]; exact Nat.le_refl _)]; rfl
        have hnum := numO_of HTL.out (by rw [HTN.out]; omega) (by rw [HTN.out]; omega) hv
        rw [HTN.out] at hnum
        try rw [HSN.out] at hnum
        have htt := HTT.out
        have htt2 := HTT.out
        have htt3 : (T.size < T.size) ↔ (false = true) := by have := HTT.out; simp at this; simp; try omega
        simp at htt3
        have hnum2 : numO T.data.toList = some ((acc : Int)) := by
          rw [hnum]
          simp at htt
          first | rw [if_pos (by omega)] | rw [if_neg (by omega)]
        have s7 : IntKind.i64.wrap (-(acc : Int)) = -(acc : Int) := w64d (by omega) (by omega)
        obtain ⟨V, hV⟩ : ∃ V : Int, V = (acc : Int) := ⟨_, rfl⟩
        have v1 : -9223372036854775808 ≤ V := by omega
        have v2 : V ≤ 9223372036854775807 := by omega
        rw [← hV] at hnum2
        have hV2 : (acc : Int) = V := hV.symm
        have c1 := fun W => l01Dec_any V W v1 v2
        obtain ⟨D, hD⟩ : ∃ D : ByteArray, D = ⟨(Lib.itoa V).toArray⟩ := ⟨_, rfl⟩
        rw [← hD] at c1
        have hse := str_eq (s := T) hD
        have C1 := Lib.hid c1
        have HNUM := Lib.hid hnum2
        clear hv hnum hnum2 hD c1 hV
        cases hb : decide (Lib.itoa V = T.data.toList)
        · rw [hb] at hse
          have hse2 : (D.toList != T.toList) = true := by simp only [bne, hse, Bool.not_false]
          have HR := Lib.hid (rd_num HNUM.out _ hb)
          clear hb
          go_wp2_with (go_at_call 23; refine (C1.out _).mono ?_; rintro e w' ⟨rfl, hb1⟩)
          go_ret2
          exact ⟨rd_ret0 HR.out, hb1⟩
        · rw [hb] at hse
          have hse2 : (D.toList != T.toList) = false := by simp only [bne, hse, Bool.not_true]
          have HR := Lib.hid (rd_num HNUM.out _ hb)
          clear hb
          go_wp2_with (go_at_call 23; refine (C1.out _).mono ?_; rintro e w' ⟨rfl, hb1⟩)
          go_ret2
          exact ⟨rd_ret1 HR.out, hb1⟩
end Go.Proofs.YtilifijfmdielaaDoor

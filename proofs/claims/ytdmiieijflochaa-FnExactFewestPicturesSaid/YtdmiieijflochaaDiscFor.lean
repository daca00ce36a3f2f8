/-
  PROVED HERE: the walks of DiscFor and FewestPictures: the program and the reference agree. CONDITIONS: a text's length fits the model's longest string.
-/
import Derived.Test.YtdmiieijflochaaDisc
namespace Go.Proofs.Ytdmiieijflochaa
open Go.RowKit

def dcK (s : ByteArray) (y : Int) : Int := if letB s 24 then (if inB y 1 24 then (if dfO s y.toNat then 0 else 9) else 2) else 1
def dcX (s : ByteArray) (y : Int) : ByteArray := if letB s 24 then (if inB y 1 24 then (if dfO s y.toNat then dfS s y.toNat else ByteArray.empty) else ByteArray.empty) else ByteArray.empty
set_option maxHeartbeats 1000000 in
theorem DiscFor_any (s : ByteArray) (y : Int) (w : World) (hs : s.size ≤ maxLen) :
    Calls Try.prog 41 #[.string s, .int .i64 y] w fun e w' => e = .returned (.tuple #[.string (dcX s y), .int .i64 (dcK s y)]) ∧ Below w.heap.size w w' := by
  have HS := Lib.hid hs
  have HC := Lib.hid (fun W => l06Code_any s y W hs)
  have he : moK s y = if letB s 24 then (if inB y 1 24 then 0 else 2) else 1 := rfl
  have HE := Lib.hid he
  clear he hs
  cases h0 : letB s 24 <;> cases h1 : inB y 1 24
  case true.true =>
    obtain ⟨x1, x2⟩ := letB_t h0
    obtain ⟨y1, y2⟩ := inB_t h1
    obtain ⟨P, rfl⟩ : ∃ P : Nat, y = P := ⟨y.toNat, by omega⟩
    have s1 : 1 ≤ s.size := by omega
    have s24 : s.size ≤ 24 := by omega
    have p1 : 1 ≤ P := by omega
    have p24 : P ≤ 24 := by omega
    have hc := HC.out
    rw [HE.out, h0, h1] at hc
    have HC2 := Lib.hid hc
    have e1 : dcX s P = if dfO s P then dfS s P else ByteArray.empty := by simp [dcX, h0, h1]
    have e2 : dcK s P = if dfO s P then 0 else 9 := by simp [dcK, h0, h1]
    rw [e1, e2]
    clear e1 e2 hc
    cases h2 : dfO s P
    · go_enter Try.func41, Try.ntmps41
      go_wp2_with (first | (go_at_call 72; refine (discFor_any s P _ s1 s24 p1 p24).mono ?_; rintro e w2 ⟨rfl, hb2⟩) | (first | (go_at_call 70; refine (ValidMotion_any _ _ HS.out).mono ?_; rintro e w' ⟨rfl, rfl⟩) | (first | (go_at_call 47; refine (within_any _ _ _ _).mono ?_; rintro e w' ⟨rfl, rfl⟩) | (go_at_call 45; refine (l00In_any _ _ _ _).mono ?_; rintro e w' ⟨rfl, rfl⟩) | go_in)))
      go_ret2
      exact ⟨rfl, hb2⟩
    · go_enter Try.func41, Try.ntmps41
      go_wp2_with (first | (go_at_call 72; refine (discFor_any s P _ s1 s24 p1 p24).mono ?_; rintro e w2 ⟨rfl, hb2⟩) | (first | (go_at_call 70; refine (ValidMotion_any _ _ HS.out).mono ?_; rintro e w' ⟨rfl, rfl⟩) | (first | (go_at_call 47; refine (within_any _ _ _ _).mono ?_; rintro e w' ⟨rfl, rfl⟩) | (go_at_call 45; refine (l00In_any _ _ _ _).mono ?_; rintro e w' ⟨rfl, rfl⟩) | go_in)))
      go_ret2
      exact ⟨rfl, hb2⟩
  all_goals
    have hc := HC.out
    rw [HE.out, h0, h1] at hc
    have HC2 := Lib.hid hc
    have e1 : dcX s y = ByteArray.empty := by simp [dcX, h0, h1]
    have e2 : dcK s y = if letB s 24 then (if inB y 1 24 then (if dfO s y.toNat then 0 else 9) else 2) else 1 := rfl
    rw [h0, h1] at e2
    rw [e1, e2]
    clear e1 e2 hc
    go_enter Try.func41, Try.ntmps41
    go_wp2_with (first | (go_at_call 70; refine (ValidMotion_any _ _ HS.out).mono ?_; rintro e w' ⟨rfl, rfl⟩) | (first | (go_at_call 47; refine (within_any _ _ _ _).mono ?_; rintro e w' ⟨rfl, rfl⟩) | (go_at_call 45; refine (l00In_any _ _ _ _).mono ?_; rintro e w' ⟨rfl, rfl⟩) | go_in))
    go_ret2
    exact ⟨rfl, Below.refl _ _⟩
set_option maxHeartbeats 1000000 in
theorem lDiscFor_any (s : ByteArray) (y : Int) (w : World) (hs : s.size ≤ maxLen) :
    Calls Try.prog 40 #[.string s, .int .i64 y] w fun e w' => e = .returned (.tuple #[.string (dcX s y), .int .i64 (dcK s y)]) ∧ Below w.heap.size w w' := by
  have HS := Lib.hid hs
  have HC := Lib.hid (fun W => l06Code_any s y W hs)
  have he : moK s y = if letB s 24 then (if inB y 1 24 then 0 else 2) else 1 := rfl
  have HE := Lib.hid he
  clear he hs
  cases h0 : letB s 24 <;> cases h1 : inB y 1 24
  case true.true =>
    obtain ⟨x1, x2⟩ := letB_t h0
    obtain ⟨y1, y2⟩ := inB_t h1
    obtain ⟨P, rfl⟩ : ∃ P : Nat, y = P := ⟨y.toNat, by omega⟩
    have s1 : 1 ≤ s.size := by omega
    have s24 : s.size ≤ 24 := by omega
    have p1 : 1 ≤ P := by omega
    have p24 : P ≤ 24 := by omega
    have hc := HC.out
    rw [HE.out, h0, h1] at hc
    have HC2 := Lib.hid hc
    have e1 : dcX s P = if dfO s P then dfS s P else ByteArray.empty := by simp [dcX, h0, h1]
    have e2 : dcK s P = if dfO s P then 0 else 9 := by simp [dcK, h0, h1]
    rw [e1, e2]
    clear e1 e2 hc
    cases h2 : dfO s P
    · go_enter Try.func40, Try.ntmps40
      go_wp2_with (first | (go_at_call 71; refine (l06Disc_any s P _ s1 s24 p1 p24).mono ?_; rintro e w2 ⟨rfl, hb2⟩) | (first | (go_at_call 68; refine (HC2.out _).mono ?_; rintro e w' ⟨rfl, rfl⟩)))
      go_ret2
      exact ⟨rfl, hb2⟩
    · go_enter Try.func40, Try.ntmps40
      go_wp2_with (first | (go_at_call 71; refine (l06Disc_any s P _ s1 s24 p1 p24).mono ?_; rintro e w2 ⟨rfl, hb2⟩) | (first | (go_at_call 68; refine (HC2.out _).mono ?_; rintro e w' ⟨rfl, rfl⟩)))
      go_ret2
      exact ⟨rfl, hb2⟩
  all_goals
    have hc := HC.out
    rw [HE.out, h0, h1] at hc
    have HC2 := Lib.hid hc
    have e1 : dcX s y = ByteArray.empty := by simp [dcX, h0, h1]
    have e2 : dcK s y = if letB s 24 then (if inB y 1 24 then (if dfO s y.toNat then 0 else 9) else 2) else 1 := rfl
    rw [h0, h1] at e2
    rw [e1, e2]
    clear e1 e2 hc
    go_enter Try.func40, Try.ntmps40
    go_wp2_with (first | (go_at_call 68; refine (HC2.out _).mono ?_; rintro e w' ⟨rfl, rfl⟩))
    go_ret2
    exact ⟨rfl, Below.refl _ _⟩
set_option maxHeartbeats 1000000 in
theorem law_DiscFor (a0 : ByteArray) (w0 : a0.size ≤ maxLen) (y : Int) (_wy : (Lit.int .i64 y).wf = true) (w : World) :
    Calls Try.prog 13 #[.string a0, .int .i64 y] w fun e w' => e = .returned (.bool true) ∧ Below w.heap.size w w' := by
  by_cases hb0 : 1048576 < a0.size
  · have hd0 : decide (1048576 < (a0.size : Int)) = true := by simp; omega
    unfold maxLen at w0
    go_enter Try.func13, Try.ntmps13
    go_wp2
    go_ret
    exact ⟨rfl, Below.refl _ _⟩
  have hd0 : decide (1048576 < (a0.size : Int)) = false := by simp; omega
  have HW0 := Lib.hid w0
  unfold maxLen at w0
  go_enter Try.func13, Try.ntmps13
  go_wp2_with (first | (go_at_call 40; refine (lDiscFor_any _ _ _ HW0.out).mono ?_; rintro e w2 ⟨rfl, hb2⟩) | (go_at_call 41; refine (DiscFor_any _ _ _ HW0.out).mono ?_; rintro e w3 ⟨rfl, hb3⟩))
  go_ret
  exact ⟨rfl, bl_tr hb2 hb3⟩
/-- The least number of pictures from k on. -/
def fpF (s : ByteArray) : Nat → Nat → Nat
  | 0, _ => s.size
  | f + 1, k => if k < s.size then (if dfO s k then k else fpF s f (k + 1)) else s.size
def fpR (s : ByteArray) : Nat := fpF s s.size 1
def fpX (s : ByteArray) : Int := if letB s 24 then (fpR s : Int) else 0
def fpK (s : ByteArray) : Int := if letB s 24 then 0 else 1
set_option maxHeartbeats 1000000 in
theorem FewestPictures_any (s : ByteArray) (w : World) (hs : s.size ≤ maxLen) :
    Calls Try.prog 43 #[.string s] w fun e w' => e = .returned (.tuple #[.int .i64 (fpX s), .int .i64 (fpK s)]) ∧ Below w.heap.size w w' := by
  have HS := Lib.hid hs
  cases h0 : letB s 24
  · have e1 : fpX s = 0 := by simp [fpX, h0]
    have e2 : fpK s = 1 := by simp [fpK, h0]
    rw [e1, e2]
    clear e1 e2 hs
    go_enter Try.func43, Try.ntmps43
    go_wp2_with (go_at_call 70; refine (ValidMotion_any _ _ HS.out).mono ?_; rintro e w' ⟨rfl, rfl⟩)
    go_ret2
    exact ⟨rfl, Below.refl _ _⟩
  · obtain ⟨x1, x2⟩ := letB_t h0
    have s1 : 1 ≤ s.size := by omega
    have s24 : s.size ≤ 24 := by omega
    have e1 : fpX s = (fpR s : Int) := by simp [fpX, h0]
    have e2 : fpK s = 0 := by simp [fpK, h0]
    rw [e1, e2]
    have HR := Lib.hid (show fpF s s.size 1 = fpR s from rfl)
    clear e1 e2 hs
    go_enter Try.func43, Try.ntmps43
    go_wp2_with (go_at_call 70; refine (ValidMotion_any _ _ HS.out).mono ?_; rintro e w' ⟨rfl, rfl⟩)
    go_loopw [4, 5, 6] (fun i _ _ wr => ∃ k d : Nat, 1 ≤ k ∧ k ≤ s.size ∧ s.size < k + d + 1 ∧ Hid (fpF s d k = fpR s) ∧ i = .int .i64 k ∧ Below w.heap.size w wr) (fun i _ _ _ => s.size - (intOf i).toNat)
    case atStart => exact ⟨1, s.size, by omega, by omega, by omega, HR, rfl, Below.refl _ _⟩
    case round =>
      obtain ⟨k, d, hk1, hk, hd, HF, rfl, hb⟩ := hrel
      have HB := Lib.hid hb
      clear hb
      by_cases hlt : k < s.size
      · cases d with
        | zero => omega
        | succ d =>
          have hf := HF.out
          rw [fpF, if_pos hlt] at hf
          cases h2 : dfO s k
          · rw [h2] at hf
            have HF2 := Lib.hid (show fpF s d (k + 1) = fpR s from by simpa using hf)
            clear hf
            go_wp2_with (go_at_call 72; refine (discFor_any s k _ s1 s24 hk1 (by omega)).mono ?_; rintro e w2 ⟨rfl, hb2⟩)
            have hb3 := bl_tr HB.out hb2
            go_roundw
            case rel => exact ⟨k + 1, d, by omega, by omega, by omega, HF2, by go_num, hb3⟩
            case measure => simp [intOf]; omega
          · rw [h2] at hf
            have HF2 := Lib.hid (show (fpR s : Int) = (k : Int) from by simp at hf; omega)
            clear hf
            go_wp2_with (go_at_call 72; refine (discFor_any s k _ s1 s24 hk1 (by omega)).mono ?_; rintro e w2 ⟨rfl, hb2⟩)
            go_ret2
            exact ⟨by rw [HF2.out]; rfl, bl_tr HB.out hb2⟩
      · have hf : fpF s d k = s.size := by
          cases d with
          | zero => rfl
          | succ d => rw [fpF, if_neg hlt]
        have hks : k = s.size := by omega
        have HF2 := Lib.hid (show (fpR s : Int) = (s.size : Int) from by rw [← HF.out, hf])
        have HK := Lib.hid hks
        clear hf hks
        go_wp2
        go_ret2
        exact ⟨by first | (rw [HF2.out]; rfl) | (rw [HF2.out, ← HK.out]; rfl), HB.out⟩
set_option maxHeartbeats 1000000 in
theorem lFewestPictures_any (s : ByteArray) (w : World) (hs : s.size ≤ maxLen) :
    Calls Try.prog 42 #[.string s] w fun e w' => e = .returned (.tuple #[.int .i64 (fpX s), .int .i64 (fpK s)]) ∧ Below w.heap.size w w' := by
  have HS := Lib.hid hs
  cases h0 : letB s 24
  · have e1 : fpX s = 0 := by simp [fpX, h0]
    have e2 : fpK s = 1 := by simp [fpK, h0]
    rw [e1, e2]
    clear e1 e2 hs
    go_enter Try.func42, Try.ntmps42
    go_wp2_with (go_at_call 73; refine (l06Ok_any _ _ HS.out).mono ?_; rintro e w' ⟨rfl, rfl⟩)
    go_ret2
    exact ⟨rfl, Below.refl _ _⟩
  · obtain ⟨x1, x2⟩ := letB_t h0
    have s1 : 1 ≤ s.size := by omega
    have s24 : s.size ≤ 24 := by omega
    have e1 : fpX s = (fpR s : Int) := by simp [fpX, h0]
    have e2 : fpK s = 0 := by simp [fpK, h0]
    rw [e1, e2]
    have HR := Lib.hid (show fpF s s.size 1 = fpR s from rfl)
    clear e1 e2 hs
    go_enter Try.func42, Try.ntmps42
    go_wp2_with (go_at_call 73; refine (l06Ok_any _ _ HS.out).mono ?_; rintro e w' ⟨rfl, rfl⟩)
    go_loopw [4, 5, 6] (fun i _ _ wr => ∃ k d : Nat, 1 ≤ k ∧ k ≤ s.size ∧ s.size < k + d + 1 ∧ Hid (fpF s d k = fpR s) ∧ i = .int .i64 k ∧ Below w.heap.size w wr) (fun i _ _ _ => s.size - (intOf i).toNat)
    case atStart => exact ⟨1, s.size, by omega, by omega, by omega, HR, rfl, Below.refl _ _⟩
    case round =>
      obtain ⟨k, d, hk1, hk, hd, HF, rfl, hb⟩ := hrel
      have HB := Lib.hid hb
      clear hb
      by_cases hlt : k < s.size
      · cases d with
        | zero => omega
        | succ d =>
          have hf := HF.out
          rw [fpF, if_pos hlt] at hf
          cases h2 : dfO s k
          · rw [h2] at hf
            have HF2 := Lib.hid (show fpF s d (k + 1) = fpR s from by simpa using hf)
            clear hf
            go_wp2_with (go_at_call 71; refine (l06Disc_any s k _ s1 s24 hk1 (by omega)).mono ?_; rintro e w2 ⟨rfl, hb2⟩)
            have hb3 := bl_tr HB.out hb2
            go_roundw
            case rel => exact ⟨k + 1, d, by omega, by omega, by omega, HF2, by go_num, hb3⟩
            case measure => simp [intOf]; omega
          · rw [h2] at hf
            have HF2 := Lib.hid (show (fpR s : Int) = (k : Int) from by simp at hf; omega)
            clear hf
            go_wp2_with (go_at_call 71; refine (l06Disc_any s k _ s1 s24 hk1 (by omega)).mono ?_; rintro e w2 ⟨rfl, hb2⟩)
            go_ret2
            exact ⟨by rw [HF2.out]; rfl, bl_tr HB.out hb2⟩
      · have hf : fpF s d k = s.size := by
          cases d with
          | zero => rfl
          | succ d => rw [fpF, if_neg hlt]
        have hks : k = s.size := by omega
        have HF2 := Lib.hid (show (fpR s : Int) = (s.size : Int) from by rw [← HF.out, hf])
        have HK := Lib.hid hks
        clear hf hks
        go_wp2
        go_ret2
        exact ⟨by first | (rw [HF2.out]; rfl) | (rw [HF2.out, ← HK.out]; rfl), HB.out⟩
set_option maxHeartbeats 1000000 in
theorem law_FewestPictures (a0 : ByteArray) (w0 : a0.size ≤ maxLen) (w : World) :
    Calls Try.prog 14 #[.string a0] w fun e w' => e = .returned (.bool true) ∧ Below w.heap.size w w' := by
  by_cases hb0 : 1048576 < a0.size
  · have hd0 : decide (1048576 < (a0.size : Int)) = true := by simp; omega
    unfold maxLen at w0
    go_enter Try.func14, Try.ntmps14
    go_wp2
    go_ret
    exact ⟨rfl, Below.refl _ _⟩
  have hd0 : decide (1048576 < (a0.size : Int)) = false := by simp; omega
  have HW0 := Lib.hid w0
  unfold maxLen at w0
  go_enter Try.func14, Try.ntmps14
  go_wp2_with (first | (go_at_call 42; refine (lFewestPictures_any _ _ HW0.out).mono ?_; rintro e w2 ⟨rfl, hb2⟩) | (go_at_call 43; refine (FewestPictures_any _ _ HW0.out).mono ?_; rintro e w3 ⟨rfl, hb3⟩))
  go_ret
  exact ⟨rfl, bl_tr hb2 hb3⟩
end Go.Proofs.Ytdmiieijflochaa

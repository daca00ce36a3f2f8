/-
  PROVED HERE: the laws' own helpers over slices of texts (equality, marks, looking the marks up again). CONDITIONS: as each theorem names them.
-/
import Derived.Test.YtilifijfmdielaaDoorSplit
namespace Go.Proofs.YtilifijfmdielaaDoor
open Go.RowKit

theorem RT.grown {w w' : World} {A : Option Addr} {n : Nat} {xs : List ByteArray} {row : Option Nat} {B : Nat} (h : RT w A n xs) (hB : ∀ b off, A = some ⟨b, off, none⟩ → b < B) (hg : w.grownBy w' row) (hr : ∀ k, row = some k → B ≤ k) : RT w' A n xs :=
  ⟨h.1, fun hn => by
    obtain ⟨b, off, e, hl, hc⟩ := h.2 hn
    refine ⟨b, off, e, Nat.lt_of_lt_of_le hl hg.size, fun j hj => ?_⟩
    have hne : some b ≠ row := fun e1 => by have := hr b e1.symm; have := hB b off e; omega
    exact (World.cell?_of_block (a := ⟨b, off + j, none⟩) (hg.block b hl hne)).trans (hc j hj)⟩
set_option maxHeartbeats 1000000 in
theorem eqStringS_same (A B : Option Addr) (n ca cb : Nat) (xs : List ByteArray) (w : World) (hn : n ≤ 1152921504606846976) (hA : RT w A n xs) (hB : RT w B n xs) :
    Calls Tryd.prog 20 #[.slice A n ca, .slice B n cb] w fun e w' => e = .returned (.bool true) ∧ ∃ k, w' = w.drewN k := by
  have HA := Lib.hid hA
  have HB := Lib.hid hB
  clear hA hB
  go_enter Tryd.func20, Tryd.ntmps20
  go_wp2
  go_loopw [5] (fun i wr => ∃ k m : Nat, k ≤ n ∧ i = .int .i64 k ∧ wr = w.drewN m) (fun i _ => n - (intOf i).toNat)
  case atStart => exact ⟨0, 0, Nat.zero_le _, rfl, rfl⟩
  case round =>
    obtain ⟨k, m, hk, rfl, rfl⟩ := hrel
    by_cases hlt : k < n
    · obtain ⟨b1, o1, rfl, h1⟩ := HA.out.at_ hlt
      obtain ⟨b2, o2, rfl, h2⟩ := HB.out.at_ hlt
      obtain ⟨X, hX⟩ : ∃ X, X = xs.getD k ByteArray.empty := ⟨_, rfl⟩
      rw [← hX] at h1 h2
      clear hX
      go_wp2
      go_quiet (fail)
      go_wp2
      go_roundw
      case rel => exact ⟨k + 1, m + nq, by omega, by go_num, rfl⟩
      case measure => simp [intOf]; omega
    · go_wp2
      go_ret
      exact ⟨rfl, _, rfl⟩
/-- The digits of a mark, ahead of a text (f: how many rounds at most). -/
def mtdF : Nat → Nat → ByteArray → ByteArray
  | 0, _, X => X
  | f + 1, k, X => if k = 0 then X else mtdF f (k / 10) (⟨#[UInt8.ofNat (48 + k % 10)]⟩ ++ X)
def mtd (k : Nat) (X : ByteArray) : ByteArray := mtdF k k X
theorem mtdF_any : ∀ (f g k : Nat) (X : ByteArray), k ≤ f → k ≤ g → mtdF f k X = mtdF g k X
  | 0, 0, _, _, _, _ => rfl
  | 0, g + 1, k, X, h, _ => by
    have : k = 0 := by omega
    subst this; simp [mtdF]
  | f + 1, 0, k, X, _, h => by
    have : k = 0 := by omega
    subst this; simp [mtdF]
  | f + 1, g + 1, k, X, hf, hg => by
    by_cases h : k = 0
    · simp [mtdF, h]
    · simp only [mtdF, if_neg h]
      exact mtdF_any f g _ _ (by omega) (by omega)
theorem mtd_zero (X : ByteArray) : mtd 0 X = X := rfl
theorem mtd_pos {k : Nat} (h : k ≠ 0) (X : ByteArray) : mtd k X = mtd (k / 10) (⟨#[UInt8.ofNat (48 + k % 10)]⟩ ++ X) := by
  obtain ⟨f, rfl⟩ : ∃ f, k = f + 1 := ⟨k - 1, by omega⟩
  unfold mtd
  conv => lhs; rw [mtdF, if_neg h]
  exact mtdF_any _ _ _ _ (by omega) (Nat.le_refl _)
/-- The mark with the number k. -/
def mt (k : Nat) : ByteArray := ⟨#[109]⟩ ++ mtd k ByteArray.empty
set_option maxHeartbeats 1000000 in
theorem markText_any (k : Nat) (w : World) (h0 : 0 < k) (h1 : k ≤ 4194304) :
    Calls Tryd.prog 36 #[.int .i64 (k : Int)] w fun e w' => e = .returned (.string (mt k)) ∧ Below w.heap.size w w' := by
  have hk1 : decide ((k : Int) ≤ 0) = false := by simp; omega
  have hk2 : ¬ ((k : Int) ≤ 0) := by omega
  obtain ⟨T, hT⟩ : ∃ T, T = mtd k ByteArray.empty := ⟨_, rfl⟩
  have HT := Lib.hid hT
  have HM := Lib.hid (show mt k = ⟨#[109]⟩ ++ T from by rw [hT]; rfl)
  clear hT
  go_enter Tryd.func36, Tryd.ntmps36
  go_wp2
  go_loopw [0, 3] (fun kv o wr => ∃ (j : Nat) (X : ByteArray), kv = .int .i64 j ∧ o = .string X ∧ mtd j X = T ∧ X.size + j ≤ k ∧ Below w.heap.size w wr) (fun kv _ _ => (intOf kv).toNat)
  case atStart => exact ⟨k, ByteArray.empty, rfl, rfl, HT.out.symm, by simp, Below.refl _ _⟩
  case round =>
    obtain ⟨j, X, rfl, rfl, hd, hs, hb⟩ := hrel
    have HB := Lib.hid hb
    have HD := Lib.hid hd
    clear hb hd
    by_cases hj : j = 0
    · subst hj
      obtain ⟨R, hR⟩ : ∃ R : ByteArray, R = ⟨#[109]⟩ ++ X := ⟨_, rfl⟩
      have hadd : (Op.stringOp .add ⟨#[109]⟩ X).run Tryd.prog wr = .ok (.string R) wr := by
        rw [hR]
        exact run_string_add wr _ _ (by decide) (by omega)
      have HR := Lib.hid hR
      clear hR
      go_wp2
      go_ret
      exact ⟨ret_str (by rw [HM.out, HR.out, ← HD.out, mtd_zero]), HB.out⟩
    · have HS := Lib.hid (show mtd (j / 10) (⟨#[UInt8.ofNat (48 + j % 10)]⟩ ++ X) = T from by rw [← HD.out, ← mtd_pos hj])
      obtain ⟨q, hq⟩ : ∃ q, q = j / 10 := ⟨_, rfl⟩
      obtain ⟨r, hr⟩ : ∃ r, r = j % 10 := ⟨_, rfl⟩
      have hdt := dig_toNat j
      obtain ⟨d, hdd⟩ : ∃ d, d = UInt8.ofNat (48 + j % 10) := ⟨_, rfl⟩
      rw [← hdd, ← hr] at hdt
      rw [← hdd, ← hq] at HS
      have s1 : (j : Int).tmod 10 = (r : Int) := by rw [hr]; rfl
      have s2 : (j : Int).tdiv 10 = (q : Int) := by rw [hq]; rfl
      have hqj : q + 1 ≤ j := by omega
      have HSZ := Lib.hid (show X.size + j ≤ k ∧ q + 1 ≤ j from ⟨hs, hqj⟩)
      have hr9 : r ≤ 9 := by omega
      clear hq hr hdd HD
      have s3 : IntKind.i64.wrap (q : Int) = q := w64d (by omega) (by omega)
      have s4 : IntKind.i64.wrap (r : Int) = r := w64d (by omega) (by omega)
      have t3 : IntKind.i64.wrap (48 + (r : Int)) = 48 + r := w64d (by omega) (by omega)
      have hdn : (48 : Int) + (r : Int) = (d.toNat : Int) := by rw [hdt]; omega
      have t4 : IntKind.u8.wrap (48 + (r : Int)) = (d.toNat : Int) := by rw [IntKind.wrap_u8, hdt]; omega
      have hj0 : (0 : Int) < (j : Int) := by omega
      have hj1 : decide ((0 : Int) < (j : Int)) = true := by simpa using hj0
      have HDN := Lib.hid hdn
      clear hdt hdn
      obtain ⟨S, hS⟩ : ∃ S : ByteArray, S = ⟨#[d]⟩ := ⟨_, rfl⟩
      have hc := run_convert_bytes_arg (P := Tryd.prog) (wr.alloc (.cells #[.int .u8 (d.toNat : Int)] 5)) 53 5 Tryd.underlying53 Tryd.underlying5 wr.heap.size 0 1 1 [(d.toNat : Int)] rfl (fun i hi => by
        obtain rfl : i = 0 := by simpa using hi
        simp [go_sem]) 9 Tryd.underlying9
      rw [show strOfNums [(d.toNat : Int)] = S from by rw [hS]; exact strOf_bcs [d]] at hc
      have hSs : S.size = 1 := by rw [hS]; rfl
      obtain ⟨R, hR⟩ : ∃ R : ByteArray, R = S ++ X := ⟨_, rfl⟩
      have hadd : (Op.stringOp .add S X).run Tryd.prog (wr.alloc (.cells #[.int .u8 (d.toNat : Int)] 5)) = .ok (.string R) (wr.alloc (.cells #[.int .u8 (d.toNat : Int)] 5)) := by
        rw [hR]
        exact run_string_add _ _ _ (by omega) (by omega)
      have hRs : R.size = 1 + X.size := by rw [hR, ByteArray.size_append, hSs]
      have HN := Lib.hid (show mtd q R = T from by rw [hR, hS]; exact HS.out)
      have HRS := Lib.hid hRs
      obtain ⟨J, hJ⟩ : ∃ J : Int, J = (j : Int) := ⟨_, rfl⟩
      obtain ⟨Q, hQ⟩ : ∃ J : Int, J = (q : Int) := ⟨_, rfl⟩
      obtain ⟨E, hE⟩ : ∃ J : Int, J = (r : Int) := ⟨_, rfl⟩
      obtain ⟨D, hD⟩ : ∃ J : Int, J = (d.toNat : Int) := ⟨_, rfl⟩
      rw [← hJ, ← hE] at s1
      rw [← hJ, ← hQ] at s2
      rw [← hQ] at s3
      rw [← hE] at s4 t3
      rw [← hE, ← hD] at t4
      rw [← hJ] at hj0 hj1
      rw [← hD] at hc hadd
      rw [← hJ]
      have HQ := Lib.hid hQ
      have HJ := Lib.hid hJ
      clear hJ hQ hE hD
      clear hqj hS hR hSs HS hRs hr9 hs hk1 hk2 hj h0 h1
      go_wp2
      go_roundw
      case rel => exact ⟨q, R, by rw [HQ.out], rfl, HN.out, by have := HRS.out; have := HSZ.out; omega, bl_al HB.out _⟩
      case measure => have := HSZ.out; have := HJ.out; have := HQ.out; simp only [intOf]; omega
end Go.Proofs.YtilifijfmdielaaDoor

/-
  PROVED HERE: contracts of the disc that shows a motion, in the program and in the reference. CONDITIONS: 1 to 24 letters, 1 to 24 pictures.
-/
import Derived.Test.YtdmiieijflochaaMotionOf
namespace Go.Proofs.Ytdmiieijflochaa
open Go.RowKit

theorem info_u8' : (Try.prog.info? 5).map (fun i => (i.zero, i.size, i.bytes)) = some (some (.int .u8 0), 1, 1) := by kernel_rfl
/-- The pictures after the first k flashes; none where two letters clash. -/
def dfI (s : ByteArray) (xs : List Int) (P : Nat) : Nat → Option (List UInt8)
  | 0 => some (List.replicate P 0)
  | k + 1 => match dfI s xs P k with
    | none => none
    | some l => if l.getD (xs.getD k 0).toNat 0 ≠ 0 ∧ l.getD (xs.getD k 0).toNat 0 ≠ s.data.toList.getD k 0 then none else some (l.set (xs.getD k 0).toNat (s.data.toList.getD k 0))
theorem dfI_len {s : ByteArray} {xs : List Int} {P : Nat} : ∀ {k : Nat} {l : List UInt8}, dfI s xs P k = some l → l.length = P
  | 0, l, h => by simp only [dfI, Option.some.injEq] at h; subst h; simp
  | k + 1, l, h => by
    simp only [dfI] at h
    cases e : dfI s xs P k with
    | none => rw [e] at h; cases h
    | some r =>
      rw [e] at h
      dsimp only at h
      split at h
      · cases h
      · injection h with h; subst h; rw [List.length_set]; exact dfI_len e
theorem dfI_stay {s : ByteArray} {xs : List Int} {P k : Nat} (h : dfI s xs P k = none) : ∀ n, k ≤ n → dfI s xs P n = none := by
  intro n hn
  induction n with
  | zero => rw [show k = 0 by omega] at h; exact h
  | succ n ih =>
    by_cases e : k = n + 1
    · subst e; exact h
    · simp only [dfI, ih (by omega)]
theorem dfI_bad {s : ByteArray} {xs : List Int} {P k m : Nat} {l : List UInt8} (h : dfI s xs P k = some l) (hm : xs.getD k 0 = (m : Int)) (h1 : l.getD m 0 ≠ 0) (h2 : l.getD m 0 ≠ s.data.toList.getD k 0) : dfI s xs P (k + 1) = none := by
  simp only [dfI, h, hm, Int.toNat_natCast]
  rw [if_pos ⟨h1, h2⟩]
theorem dfI_good {s : ByteArray} {xs : List Int} {P k m : Nat} {l : List UInt8} (h : dfI s xs P k = some l) (hm : xs.getD k 0 = (m : Int)) (h1 : l.getD m 0 = 0 ∨ l.getD m 0 = s.data.toList.getD k 0) : dfI s xs P (k + 1) = some (l.set m (s.data.toList.getD k 0)) := by
  simp only [dfI, h, hm, Int.toNat_natCast]
  rw [if_neg (by intro hh; rcases h1 with e | e; exact hh.1 e; exact hh.2 e)]
/-- Empty pictures 1 .. m filled with the one before. -/
def flI (l : List UInt8) : Nat → List UInt8
  | 0 => l
  | m + 1 => if (flI l m).getD (m + 1) 0 = 0 then (flI l m).set (m + 1) ((flI l m).getD m 0) else flI l m
theorem flI_len (l : List UInt8) (m : Nat) : (flI l m).length = l.length := by
  induction m with
  | zero => rfl
  | succ m ih => rw [flI]; split <;> simp [ih]
theorem flI_t {l : List UInt8} {m : Nat} (h : (flI l m).getD (m + 1) 0 = 0) : flI l (m + 1) = (flI l m).set (m + 1) ((flI l m).getD m 0) := if_pos h
theorem flI_f {l : List UInt8} {m : Nat} (h : ¬ (flI l m).getD (m + 1) 0 = 0) : flI l (m + 1) = flI l m := if_neg h
def dfO (s : ByteArray) (P : Nat) : Bool := (dfI s (ordI P s.size s.size) P s.size).isSome
def dfS (s : ByteArray) (P : Nat) : ByteArray := match dfI s (ordI P s.size s.size) P s.size with
  | some l => txt (flI l (P - 1))
  | none => ByteArray.empty
theorem df_some {s : ByteArray} {P : Nat} {l : List UInt8} (h : dfI s (ordI P s.size s.size) P s.size = some l) : dfO s P = true ∧ dfS s P = txt (flI l (P - 1)) := by simp [dfO, dfS, h]
theorem df_none {s : ByteArray} {P : Nat} (h : dfI s (ordI P s.size s.size) P s.size = none) : dfO s P = false ∧ dfS s P = ByteArray.empty := by simp [dfO, dfS, h]
theorem bcl_set (l : List UInt8) (m : Nat) (b : UInt8) : (bcl l).set m (.int .u8 (b.toNat : Int)) = bcl (l.set m b) := by simp [bcl, List.map_set]
theorem bcl_get {l : List UInt8} {m : Nat} (h : m < l.length) : (bcl l)[m]? = some (.int .u8 ((l.getD m 0).toNat : Int)) := by
  simp [bcl, List.getD, h]
theorem u8_ne {b : UInt8} (h : ¬ b = 0) : ¬ b.toNat = 0 := fun e => h (UInt8.toNat_inj.1 (by simpa using e))
set_option maxHeartbeats 4000000 in
theorem discFor_any (s : ByteArray) (P : Nat) (w : World) (hs1 : 1 ≤ s.size) (hs24 : s.size ≤ 24) (hP1 : 1 ≤ P) (hP24 : P ≤ 24) :
    Calls Try.prog 72 #[.string s, .int .i64 P] w fun e w' => e = .returned (.tuple #[.string (dfS s P), .bool (dfO s P)]) ∧ Below w.heap.size w w' := by
  obtain ⟨i0, hi, hz0, hz1, hz2⟩ := info_parts info_u8'
  have hol := ordI_len (P : Int) s.size s.size
  have hbd : ∀ k, k < s.size → ∃ m : Nat, (ordI (P : Int) s.size s.size).getD k 0 = (m : Int) ∧ nearV P s.size k % P = (m : Int) ∧ m < P := fun k hk => by
    obtain ⟨m, a1, a2, a3⟩ := ordI_bd (p := P) (s := s.size) hk (by omega)
    exact ⟨m, a1, a2, by omega⟩
  have hsome := fun l => df_some (s := s) (P := P) (l := l)
  have hnone := df_none (s := s) (P := P)
  have hc := fun W => seenOrder_any (P : Int) s.size W (by omega) (by omega) (by omega) (by omega)
  obtain ⟨os, hos⟩ : ∃ os, ordI (P : Int) s.size s.size = os := ⟨_, rfl⟩
  rw [hos] at hol hbd hsome hnone
  simp only [Int.toNat_natCast] at hc
  rw [hos] at hc
  have HC := Lib.hid hc
  have HL := Lib.hid hol
  have HBD := Lib.hid hbd
  have HSOME := Lib.hid hsome
  have HNONE := Lib.hid hnone
  clear hol hbd hc hos hsome hnone
  go_enter Try.func72, Try.ntmps72
  go_wp2_with (at_make; refine wpList_make_full _ rfl _ _ 72 rfl w.heap.size 5 i0 (.int .u8 0) 1 Try.underlying72 hi hz0 hz1 _ _ _ _ P rfl rfl rfl rfl (by rw [hz2]; omega) (by unfold maxLen; omega) (Nat.le_refl _) ?_; intro w1 hown hgrow)
  have hb1 : Below w.heap.size w w1 := (Below.refl _ _).grown hgrow (Nat.le_refl _) (fun k hk => by cases hk)
  have ho1 : w1.ownsRow w.heap.size 5 1 (.slice (some ⟨w.heap.size, 0, none⟩) P P) P (bcl (List.replicate P 0)) := by simpa [toList_madeCells_one, Value.cells, bcl] using hown
  refine (HC.out _).mono ?_
  rintro e w2 ⟨Ao, co, rfl, own2, hb2⟩
  rw [HL.out] at own2 ⊢
  have HB2 := Lib.hid (show Below w.heap.size w w2 from bl_tr hb1 hb2)
  have HO2 := Lib.hid (own_below ho1 hb2)
  have HR2 := Lib.hid (show ∃ B, w2.ownsRow B 2 1 (.slice Ao s.size co) s.size (os.map (Value.int .i64)) from ⟨_, own2⟩)
  clear own2 hb2 hb1 ho1 hown hgrow
  go_wp2
  go_loopw [7, 8, 17] (fun _ _ i wr => ∃ (k : Nat) (l : List UInt8), k ≤ s.size ∧ i = .int .i64 k ∧ Hid (dfI s os P k = some l) ∧ wr.ownsRow w.heap.size 5 1 (.slice (some ⟨w.heap.size, 0, none⟩) P P) P (bcl l) ∧ (∃ B, wr.ownsRow B 2 1 (.slice Ao s.size co) s.size (os.map (Value.int .i64))) ∧ Below w.heap.size w wr) (fun _ _ i _ => s.size - (intOf i).toNat)
  case atStart => exact ⟨0, _, Nat.zero_le _, rfl, Lib.hid rfl, HO2.out, HR2.out, HB2.out⟩
  case round =>
    obtain ⟨k, l, hk, rfl, HD, ho, hr, hb⟩ := hrel
    have HO := Lib.hid ho
    have HR := Lib.hid hr
    have HB := Lib.hid hb
    clear ho hr hb
    by_cases hlt : k < s.size
    · obtain ⟨m, hm, hm2, hmP⟩ := HBD.out k hlt
      have hll := dfI_len HD.out
      have hbad := dfI_bad HD.out hm
      have hgood := dfI_good HD.out hm
      rw [getD_at hlt] at hbad hgood
      have hc2 : wr.cell? ⟨w.heap.size, m, none⟩ = some (.int .u8 ((l.getD m 0).toNat : Int)) := by rw [HO.out.cellAt m (by omega)]; exact bcl_get (by omega)
      have hf2 := HO.out.frozenAt m
      have hst := HO.out.stored m (.int .u8 (s[k].toNat : Int))
      rw [bcl_set] at hst
      have HB3 := Lib.hid (HB.out.setCell (p := ⟨w.heap.size, m, none⟩) (Nat.le_refl _) (.int .u8 (s[k].toNat : Int)))
      obtain ⟨b, hbb⟩ : ∃ b, b = l.getD m 0 := ⟨_, rfl⟩
      rw [← hbb] at hc2 hbad hgood
      have HST := Lib.hid hst
      have HBAD := Lib.hid hbad
      have HGOOD := Lib.hid hgood
      have hm3 : (0 : Int) ≤ (m : Int) := by omega
      have hm4 : (m : Int) < (P : Int) := by omega
      have hk3 : (0 : Int) ≤ (k : Int) := by omega
      have hk4 : (k : Int) < (s.size : Int) := by omega
      obtain ⟨B, hrr⟩ := HR.out
      obtain ⟨b1, o1, hAA, g1⟩ := (RI.of_own hrr).at_ hlt
      rw [hm] at g1
      have hne1 : w.heap.size ≠ b1 := fun e => own_types HO.out hrr (by decide) w.heap.size rfl (by rw [hAA, e]; rfl)
      have HRS := Lib.hid (show ∃ B, (wr.setCell ⟨w.heap.size, m, none⟩ (.int .u8 (s[k].toNat : Int))).ownsRow B 2 1 (.slice Ao s.size co) s.size (os.map (Value.int .i64)) from ⟨B, ownsRow_setCell_other hrr (fun e => own_types hrr HO.out (by decide) w.heap.size e rfl) _⟩)
      subst hAA
      clear hrr
      clear hst hbad hgood hbb hll hm hm2
      by_cases hb0 : b = 0
      · have HG := Lib.hid (HGOOD.out (.inl hb0))
        subst hb0
        go_wp2
        go_quiet (fail)
        go_wp2
        go_roundw
        case rel => exact ⟨k + 1, _, by omega, by go_num, HG, own_drewN HST.out.1 _, by first | exact HRS.out | exact (let ⟨B, h⟩ := HRS.out; ⟨B, own_drewN h _⟩), bl_drewN HB3.out _⟩
        case measure => simp [intOf]; omega
      · have hbn := u8_ne hb0
        have q1 : ((b.toNat : Int) == 0) = false := by simp; omega
        have q2 : ((b.toNat : Int) != 0) = true := by simp; omega
        have q1n : (b.toNat == 0) = false := by simpa using hbn
        by_cases hbc : b = s[k]
        · have HG := Lib.hid (HGOOD.out (.inr hbc))
          have q3 : ((b.toNat : Int) == (s[k].toNat : Int)) = true := by rw [hbc]; simp
          have q4 : ((b.toNat : Int) != (s[k].toNat : Int)) = false := by rw [hbc]; simp
          have q5 : (b.toNat == s[k].toNat) = true := by rw [hbc]; simp
          have q6 : (b.toNat != s[k].toNat) = false := by rw [hbc]; simp
          clear hbc hb0 hbn
          go_wp2
          go_quiet (fail)
          go_wp2
          go_roundw
          case rel => exact ⟨k + 1, _, by omega, by go_num, HG, own_drewN HST.out.1 _, by first | exact HRS.out | exact (let ⟨B, h⟩ := HRS.out; ⟨B, own_drewN h _⟩), bl_drewN HB3.out _⟩
          case measure => simp [intOf]; omega
        · have hne : ¬ b.toNat = s[k].toNat := fun e => hbc (UInt8.toNat_inj.1 e)
          have HN := Lib.hid (HNONE.out (dfI_stay (HBAD.out hb0 hbc) s.size (by omega)))
          have q3 : ((b.toNat : Int) == (s[k].toNat : Int)) = false := by simp; omega
          have q4 : ((b.toNat : Int) != (s[k].toNat : Int)) = true := by simp; omega
          have q5 : (b.toNat == s[k].toNat) = false := by simpa using hne
          have q6 : (b.toNat != s[k].toNat) = true := by simpa using hne
          clear hbc hb0 hbn hne
          go_wp2
          go_quiet (fail)
          go_wp2
          go_ret2
          rw [HN.out.1, HN.out.2]
          exact ⟨rfl, bl_drewN HB.out _⟩
    · have e : k = s.size := by omega
      subst e
      have HSM := Lib.hid (HSOME.out l HD.out)
      have hll := dfI_len HD.out
      have HLL := Lib.hid hll
      clear hll
      go_wp2
      obtain ⟨wo, rfl⟩ : ∃ wo : World, wo = wr := ⟨_, rfl⟩
      go_loopw [9] (fun i wr => ∃ m : Nat, m + 1 ≤ P ∧ i = .int .i64 ((m : Int) + 1) ∧ wr.ownsRow w.heap.size 5 1 (.slice (some ⟨w.heap.size, 0, none⟩) P P) P (bcl (flI l m)) ∧ Below w.heap.size w wr) (fun i _ => P - (intOf i).toNat)
      case atStart => exact ⟨0, by omega, by go_num, HO.out, HB.out⟩
      case round =>
        obtain ⟨m, hm, rfl, ho, hb⟩ := hrel
        have HO5 := Lib.hid ho
        have HB5 := Lib.hid hb
        clear ho hb
        by_cases hlt2 : m + 1 < P
        · have hfl := flI_len l m
          rw [HLL.out] at hfl
          have c1 : wr.cell? ⟨w.heap.size, m + 1, none⟩ = some (.int .u8 (((flI l m).getD (m + 1) 0).toNat : Int)) := by rw [HO5.out.cellAt (m + 1) (by omega)]; exact bcl_get (by omega)
          have c2 : wr.cell? ⟨w.heap.size, m, none⟩ = some (.int .u8 (((flI l m).getD m 0).toNat : Int)) := by rw [HO5.out.cellAt m (by omega)]; exact bcl_get (by omega)
          have f1 := HO5.out.frozenAt (m + 1)
          have hst := HO5.out.stored (m + 1) (.int .u8 (((flI l m).getD m 0).toNat : Int))
          rw [bcl_set] at hst
          have ht := flI_t (l := l) (m := m)
          have hf := flI_f (l := l) (m := m)
          have HB6 := Lib.hid (HB5.out.setCell (p := ⟨w.heap.size, m + 1, none⟩) (Nat.le_refl _) (.int .u8 (((flI l m).getD m 0).toNat : Int)))
          obtain ⟨b, hbb⟩ : ∃ b, b = (flI l m).getD (m + 1) 0 := ⟨_, rfl⟩
          obtain ⟨d, hdd⟩ : ∃ d, d = (flI l m).getD m 0 := ⟨_, rfl⟩
          rw [← hbb] at c1 ht hf
          rw [← hdd] at c2 ht hst HB6
          have HST := Lib.hid hst
          have HT := Lib.hid ht
          have HF := Lib.hid hf
          have s1 : (0 : Int) ≤ (m : Int) := by omega
          have s2 : (m : Int) + 1 < (P : Int) := by omega
          have s3 : (m : Int) < (P : Int) := by omega
          have s4 : m < P := by omega
          have s5 : ((m : Int) + 1).toNat = m + 1 := by omega
          have s6 : (m : Int) + 1 = ((m + 1 : Nat) : Int) := by omega
          have S6 := Lib.hid s6
          clear hst ht hf hbb hdd hfl s6
          by_cases hb0 : b = 0
          · have HE := Lib.hid (HT.out hb0)
            subst hb0
            go_wp2
            go_roundw
            case rel => exact ⟨m + 1, by omega, by go_num, by rw [HE.out]; exact HST.out.1, HB6.out⟩
            case measure => simp [intOf]; omega
          · have HE := Lib.hid (HF.out hb0)
            have hbn := u8_ne hb0
            have q1 : ((b.toNat : Int) == 0) = false := by simp; omega
            have q1n : (b.toNat == 0) = false := by simpa using hbn
            clear hb0 hbn
            go_wp2
            go_roundw
            case rel => exact ⟨m + 1, by omega, by go_num, by rw [HE.out]; exact HO5.out, HB5.out⟩
            case measure => simp [intOf]; omega
        · have e : m = P - 1 := by omega
          have hcv := conv_own HO5.out hP1
          rw [e] at hcv
          clear e
          go_wp2
          go_ret2
          rw [HSM.out.1, HSM.out.2]
          exact ⟨rfl, HB5.out⟩
set_option maxHeartbeats 4000000 in
theorem l06Disc_any (s : ByteArray) (P : Nat) (w : World) (hs1 : 1 ≤ s.size) (hs24 : s.size ≤ 24) (hP1 : 1 ≤ P) (hP24 : P ≤ 24) :
    Calls Try.prog 71 #[.string s, .int .i64 P] w fun e w' => e = .returned (.tuple #[.string (dfS s P), .bool (dfO s P)]) ∧ Below w.heap.size w w' := by
  obtain ⟨i0, hi, hz0, hz1, hz2⟩ := info_parts info_u8'
  have hol := ordI_len (P : Int) s.size s.size
  have hbd : ∀ k, k < s.size → ∃ m : Nat, (ordI (P : Int) s.size s.size).getD k 0 = (m : Int) ∧ nearV P s.size k % P = (m : Int) ∧ m < P := fun k hk => by
    obtain ⟨m, a1, a2, a3⟩ := ordI_bd (p := P) (s := s.size) hk (by omega)
    exact ⟨m, a1, a2, by omega⟩
  have hsome := fun l => df_some (s := s) (P := P) (l := l)
  have hnone := df_none (s := s) (P := P)
  have hc : True := trivial
  obtain ⟨os, hos⟩ : ∃ os, ordI (P : Int) s.size s.size = os := ⟨_, rfl⟩
  rw [hos] at hol hbd hsome hnone
  skip
  have HC := Lib.hid hc
  have HL := Lib.hid hol
  have HBD := Lib.hid hbd
  have HSOME := Lib.hid hsome
  have HNONE := Lib.hid hnone
  clear hol hbd hc hos hsome hnone
  go_enter Try.func71, Try.ntmps71
  go_wp2_with (at_make; refine wpList_make_full _ rfl _ _ 72 rfl w.heap.size 5 i0 (.int .u8 0) 1 Try.underlying72 hi hz0 hz1 _ _ _ _ P rfl rfl rfl rfl (by rw [hz2]; omega) (by unfold maxLen; omega) (Nat.le_refl _) ?_; intro w1 hown hgrow)
  have hb1 : Below w.heap.size w w1 := (Below.refl _ _).grown hgrow (Nat.le_refl _) (fun k hk => by cases hk)
  have ho1 : w1.ownsRow w.heap.size 5 1 (.slice (some ⟨w.heap.size, 0, none⟩) P P) P (bcl (List.replicate P 0)) := by simpa [toList_madeCells_one, Value.cells, bcl] using hown
  have HB2 := Lib.hid hb1
  have HO2 := Lib.hid ho1
  clear hb1 ho1 hown hgrow
  go_wp2
  go_loopw [8, 9] (fun i _ wr => ∃ (k : Nat) (l : List UInt8), k ≤ s.size ∧ i = .int .i64 k ∧ Hid (dfI s os P k = some l) ∧ wr.ownsRow w.heap.size 5 1 (.slice (some ⟨w.heap.size, 0, none⟩) P P) P (bcl l) ∧ (True) ∧ Below w.heap.size w wr) (fun i _ _ => s.size - (intOf i).toNat)
  case atStart => exact ⟨0, _, Nat.zero_le _, rfl, Lib.hid rfl, HO2.out, trivial, HB2.out⟩
  case round =>
    obtain ⟨k, l, hk, rfl, HD, ho, hr, hb⟩ := hrel
    have HO := Lib.hid ho
    have HR := Lib.hid hr
    have HB := Lib.hid hb
    clear ho hr hb
    by_cases hlt : k < s.size
    · obtain ⟨m, hm, hm2, hmP⟩ := HBD.out k hlt
      have hll := dfI_len HD.out
      have hbad := dfI_bad HD.out hm
      have hgood := dfI_good HD.out hm
      rw [getD_at hlt] at hbad hgood
      have hc2 : wr.cell? ⟨w.heap.size, m, none⟩ = some (.int .u8 ((l.getD m 0).toNat : Int)) := by rw [HO.out.cellAt m (by omega)]; exact bcl_get (by omega)
      have hf2 := HO.out.frozenAt m
      have hst := HO.out.stored m (.int .u8 (s[k].toNat : Int))
      rw [bcl_set] at hst
      have HB3 := Lib.hid (HB.out.setCell (p := ⟨w.heap.size, m, none⟩) (Nat.le_refl _) (.int .u8 (s[k].toNat : Int)))
      obtain ⟨b, hbb⟩ : ∃ b, b = l.getD m 0 := ⟨_, rfl⟩
      rw [← hbb] at hc2 hbad hgood
      have HST := Lib.hid hst
      have HBAD := Lib.hid hbad
      have HGOOD := Lib.hid hgood
      have hm3 : (0 : Int) ≤ (m : Int) := by omega
      have hm4 : (m : Int) < (P : Int) := by omega
      have hk3 : (0 : Int) ≤ (k : Int) := by omega
      have hk4 : (k : Int) < (s.size : Int) := by omega
      have c1 := fun W => l03Seen_any (P : Int) s.size k W (by omega) (by omega) (by omega) (by omega) (by omega) (by omega)
      rw [hm2] at c1
      have C1 := Lib.hid c1
      clear c1
      clear hst hbad hgood hbb hll hm hm2
      by_cases hb0 : b = 0
      · have HG := Lib.hid (HGOOD.out (.inl hb0))
        subst hb0
        go_wp2_with ((go_at_call 76; refine (C1.out _).mono ?_; rintro e w' ⟨rfl, rfl⟩))
        go_quiet (fail)
        go_wp2
        go_roundw
        case rel => exact ⟨k + 1, _, by omega, by go_num, HG, own_drewN HST.out.1 _, trivial, bl_drewN HB3.out _⟩
        case measure => simp [intOf]; omega
      · have hbn := u8_ne hb0
        have q1 : ((b.toNat : Int) == 0) = false := by simp; omega
        have q2 : ((b.toNat : Int) != 0) = true := by simp; omega
        have q1n : (b.toNat == 0) = false := by simpa using hbn
        by_cases hbc : b = s[k]
        · have HG := Lib.hid (HGOOD.out (.inr hbc))
          have q3 : ((b.toNat : Int) == (s[k].toNat : Int)) = true := by rw [hbc]; simp
          have q4 : ((b.toNat : Int) != (s[k].toNat : Int)) = false := by rw [hbc]; simp
          have q5 : (b.toNat == s[k].toNat) = true := by rw [hbc]; simp
          have q6 : (b.toNat != s[k].toNat) = false := by rw [hbc]; simp
          clear hbc hb0 hbn
          go_wp2_with ((go_at_call 76; refine (C1.out _).mono ?_; rintro e w' ⟨rfl, rfl⟩))
          go_quiet (fail)
          go_wp2
          go_roundw
          case rel => exact ⟨k + 1, _, by omega, by go_num, HG, own_drewN HST.out.1 _, trivial, bl_drewN HB3.out _⟩
          case measure => simp [intOf]; omega
        · have hne : ¬ b.toNat = s[k].toNat := fun e => hbc (UInt8.toNat_inj.1 e)
          have HN := Lib.hid (HNONE.out (dfI_stay (HBAD.out hb0 hbc) s.size (by omega)))
          have q3 : ((b.toNat : Int) == (s[k].toNat : Int)) = false := by simp; omega
          have q4 : ((b.toNat : Int) != (s[k].toNat : Int)) = true := by simp; omega
          have q5 : (b.toNat == s[k].toNat) = false := by simpa using hne
          have q6 : (b.toNat != s[k].toNat) = true := by simpa using hne
          clear hbc hb0 hbn hne
          go_wp2_with ((go_at_call 76; refine (C1.out _).mono ?_; rintro e w' ⟨rfl, rfl⟩))
          go_quiet (fail)
          go_wp2
          go_ret2
          rw [HN.out.1, HN.out.2]
          exact ⟨rfl, bl_drewN HB.out _⟩
    · have e : k = s.size := by omega
      subst e
      have HSM := Lib.hid (HSOME.out l HD.out)
      have hll := dfI_len HD.out
      have HLL := Lib.hid hll
      clear hll
      go_wp2
      obtain ⟨wo, rfl⟩ : ∃ wo : World, wo = wr := ⟨_, rfl⟩
      go_loopw [10] (fun i wr => ∃ m : Nat, m + 1 ≤ P ∧ i = .int .i64 ((m : Int) + 1) ∧ wr.ownsRow w.heap.size 5 1 (.slice (some ⟨w.heap.size, 0, none⟩) P P) P (bcl (flI l m)) ∧ Below w.heap.size w wr) (fun i _ => P - (intOf i).toNat)
      case atStart => exact ⟨0, by omega, by go_num, HO.out, HB.out⟩
      case round =>
        obtain ⟨m, hm, rfl, ho, hb⟩ := hrel
        have HO5 := Lib.hid ho
        have HB5 := Lib.hid hb
        clear ho hb
        by_cases hlt2 : m + 1 < P
        · have hfl := flI_len l m
          rw [HLL.out] at hfl
          have c1 : wr.cell? ⟨w.heap.size, m + 1, none⟩ = some (.int .u8 (((flI l m).getD (m + 1) 0).toNat : Int)) := by rw [HO5.out.cellAt (m + 1) (by omega)]; exact bcl_get (by omega)
          have c2 : wr.cell? ⟨w.heap.size, m, none⟩ = some (.int .u8 (((flI l m).getD m 0).toNat : Int)) := by rw [HO5.out.cellAt m (by omega)]; exact bcl_get (by omega)
          have f1 := HO5.out.frozenAt (m + 1)
          have hst := HO5.out.stored (m + 1) (.int .u8 (((flI l m).getD m 0).toNat : Int))
          rw [bcl_set] at hst
          have ht := flI_t (l := l) (m := m)
          have hf := flI_f (l := l) (m := m)
          have HB6 := Lib.hid (HB5.out.setCell (p := ⟨w.heap.size, m + 1, none⟩) (Nat.le_refl _) (.int .u8 (((flI l m).getD m 0).toNat : Int)))
          obtain ⟨b, hbb⟩ : ∃ b, b = (flI l m).getD (m + 1) 0 := ⟨_, rfl⟩
          obtain ⟨d, hdd⟩ : ∃ d, d = (flI l m).getD m 0 := ⟨_, rfl⟩
          rw [← hbb] at c1 ht hf
          rw [← hdd] at c2 ht hst HB6
          have HST := Lib.hid hst
          have HT := Lib.hid ht
          have HF := Lib.hid hf
          have s1 : (0 : Int) ≤ (m : Int) := by omega
          have s2 : (m : Int) + 1 < (P : Int) := by omega
          have s3 : (m : Int) < (P : Int) := by omega
          have s4 : m < P := by omega
          have s5 : ((m : Int) + 1).toNat = m + 1 := by omega
          have s6 : (m : Int) + 1 = ((m + 1 : Nat) : Int) := by omega
          have S6 := Lib.hid s6
          clear hst ht hf hbb hdd hfl s6
          by_cases hb0 : b = 0
          · have HE := Lib.hid (HT.out hb0)
            subst hb0
            go_wp2
            go_roundw
            case rel => exact ⟨m + 1, by omega, by go_num, by rw [HE.out]; exact HST.out.1, HB6.out⟩
            case measure => simp [intOf]; omega
          · have HE := Lib.hid (HF.out hb0)
            have hbn := u8_ne hb0
            have q1 : ((b.toNat : Int) == 0) = false := by simp; omega
            have q1n : (b.toNat == 0) = false := by simpa using hbn
            clear hb0 hbn
            go_wp2
            go_roundw
            case rel => exact ⟨m + 1, by omega, by go_num, by rw [HE.out]; exact HO5.out, HB5.out⟩
            case measure => simp [intOf]; omega
        · have e : m = P - 1 := by omega
          have hcv := conv_own HO5.out hP1
          rw [e] at hcv
          clear e
          go_wp2
          go_ret2
          rw [HSM.out.1, HSM.out.2]
          exact ⟨rfl, HB5.out⟩
end Go.Proofs.Ytdmiieijflochaa

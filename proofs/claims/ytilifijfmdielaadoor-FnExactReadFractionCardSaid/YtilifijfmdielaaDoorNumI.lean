/-
  PROVED HERE: contracts of Decimal and ReadDecimal of the program; the walks of their laws. CONDITIONS: what the library's listed variables read as.
-/
import Derived.Test.YtilifijfmdielaaDoorNum
namespace Go.Proofs.YtilifijfmdielaaDoor
open Go.RowKit

abbrev Tab (w : World) : Prop := Lib.TabIs Tryd.prog w "internal/strconv.uint64pow10" .u64 Lib.pow10Tab
abbrev TabB (B : Nat) (w : World) : Prop := Lib.TabBelow Tryd.prog B w "internal/strconv.uint64pow10" .u64 Lib.pow10Tab
theorem tabB_of {w : World} (h : Tab w) : TabB w.heap.size w := by
  intro w' hb
  delta Tab at h
  unfold Lib.TabIs World.var? at h ⊢
  cases hg : Tryd.prog.globalNamed "internal/strconv.uint64pow10" with
  | none => simp [hg] at h
  | some g =>
    simp only [hg, Option.bind_some] at h ⊢
    have hlt : g < w.heap.size := by
      rcases Nat.lt_or_ge g w.heap.size with h' | h'
      · exact h'
      · simp [Array.getElem?_eq_none h'] at h
    rw [hb.block g hlt]
    exact h
/-- What the library's two errors' variables hold. -/
def ErrV (w : World) : Prop := (∃ t p, w.cell? ⟨1, 0, none⟩ = some (.iface t p)) ∧ ∃ t p, w.cell? ⟨2, 0, none⟩ = some (.iface t p)
theorem ErrV.below {w w' : World} (h : ErrV w) (hb : Below w.heap.size w w') : ErrV w' := by
  obtain ⟨⟨t, p, h1⟩, t', p', h2⟩ := h
  exact ⟨⟨t, p, bcell_of hb h1⟩, t', p', bcell_of hb h2⟩
theorem below_bytes (w : World) (e : TypeId) (s : ByteArray) : Below w.heap.size w (Lib.bytesWorld w e s) :=
  ⟨rfl, rfl, rfl, by rw [Lib.bytesWorld_size]; omega, fun i hi => Lib.bytesWorld_at_old w e s i hi⟩
theorem parse_bd {l : List UInt8} {v : Int} (h : Lib.parseIntB 64 l = .ok v) : -9223372036854775808 ≤ v ∧ v ≤ 9223372036854775807 := by
  cases l with
  | nil => cases h
  | cons c r =>
    simp only [Lib.parseIntB] at h
    generalize Lib.parseUintB 64 (if c.toNat = 43 ∨ c.toNat = 45 then r else c :: r) = x at h
    cases x
    · rename_i u
      simp only at h
      split at h
      · cases h
      · split at h
        · cases h
        · injection h with h
          subst h
          split <;> omega
    · cases h
    · cases h
/-- A text that is no numeral of an int64: some number beside an error that is not nil. -/
theorem PI_bad (s : ByteArray) (w : World) (hlim : s.size ≤ 1048576) (h : ∀ v, Lib.parseIntB 64 s.data.toList ≠ .ok v) (hE : ErrV w) :
    Calls Tryd.prog 27 #[.string s, .int .i64 10, .int .i64 64] w fun e w' => ∃ (I : Int) (N : Nat), e = .returned (.tuple #[.int .i64 I, .iface 72 (.pointer (some ⟨N, 0, none⟩))]) ∧ Below w.heap.size w w' := by
  obtain ⟨⟨et, ep, hes⟩, rt, rp, her⟩ := hE
  cases hp : Lib.parseIntB 64 s.data.toList
  · exact absurd hp (h _)
  · exact (Any.strconv_ParseInt_10_at64_syntax Tryd.laysC174 s (by omega) hp (.iface et ep) w hes (.inr ⟨_, _, rfl⟩)).mono fun e w' ⟨N, he, _, _, hb⟩ => ⟨0, N, he, hb⟩
  · exact (Any.strconv_ParseInt_10_at64_range Tryd.laysC174 s (by omega) hp (.iface rt rp) w her (.inr ⟨_, _, rfl⟩)).mono fun e w' ⟨N, he, _, _, hb⟩ => ⟨_, N, he, hb⟩
theorem Decimal_any (n : Int) (w : World) (h1 : -9223372036854775808 ≤ n) (h2 : n ≤ 9223372036854775807) (htab : Tab w) :
    Calls Tryd.prog 9 #[.int .i64 n] w fun e w' => e = .returned (.string ⟨(Lib.itoa n).toArray⟩) ∧ Below w.heap.size w w' := by
  have HT := Lib.hid htab
  clear htab
  go_enter Tryd.func9, Tryd.ntmps9
  go_wp2_with (go_at_call 24; refine (Tryd.strconv_FormatInt_10 n h1 h2 _ HT.out).mono ?_; rintro e w' ⟨rfl, k, os, rfl⟩)
  go_ret
  exact ⟨rfl, Lib.below_grow _ _ (Nat.le_refl _) _ _⟩
theorem wf_bd {n : Int} (h : (Lit.int .i64 n).wf = true) : -9223372036854775808 ≤ n ∧ n ≤ 9223372036854775807 := by
  simp [Lit.wf] at h
  have e : IntKind.i64.min = -9223372036854775808 := by decide
  omega
theorem lDecimal_any (n : Int) (w : World) (h1 : -9223372036854775808 ≤ n) (h2 : n ≤ 9223372036854775807) :
    Calls Tryd.prog 8 #[.int .i64 n] w fun e w' => e = .returned (.string ⟨(Lib.itoa n).toArray⟩) ∧ Below w.heap.size w w' := by
  go_enter Tryd.func8, Tryd.ntmps8
  go_wp2_with (go_at_call 23; refine (l01Dec_any n _ h1 h2).mono ?_; rintro e w1 ⟨rfl, hb1⟩)
  go_ret
  exact ⟨rfl, hb1⟩
theorem lReadDecimal_any (s : ByteArray) (w : World) (hs : s.size ≤ 1048576) :
    Calls Tryd.prog 10 #[.string s] w fun e w' => e = .returned (.tuple #[.int .i64 (rdN s.data.toList), .bool (rdB s.data.toList)]) ∧ Below w.heap.size w w' := by
  have c1 := fun W => l01Number_any s W hs
  obtain ⟨n, hn⟩ : ∃ n, n = rdN s.data.toList := ⟨_, rfl⟩
  obtain ⟨b, hb⟩ : ∃ b, b = rdB s.data.toList := ⟨_, rfl⟩
  rw [← hn, ← hb] at c1 ⊢
  have C1 := Lib.hid c1
  clear hn hb c1
  go_enter Tryd.func10, Tryd.ntmps10
  go_wp2_with (go_at_call 25; refine (C1.out _).mono ?_; rintro e w1 ⟨rfl, hb1⟩)
  go_ret2
  exact ⟨rfl, hb1⟩
set_option maxHeartbeats 1000000 in
theorem law_Decimal (n : Int) (_wn : (Lit.int .i64 n).wf = true) (w : World) (htab : Tab w) :
    Calls Tryd.prog 3 #[.int .i64 n] w fun e w' => e = .returned (.bool true) ∧ Below w.heap.size w w' := by
  obtain ⟨h1, h2⟩ := wf_bd _wn
  have HT := Lib.hid (tabB_of htab)
  have c1 := fun W => lDecimal_any n W h1 h2
  have c2 := fun W (h : Tab W) => Decimal_any n W h1 h2 h
  obtain ⟨D, hD⟩ : ∃ D : ByteArray, D = ⟨(Lib.itoa n).toArray⟩ := ⟨_, rfl⟩
  rw [← hD] at c1 c2
  have C1 := Lib.hid c1
  have C2 := Lib.hid c2
  clear hD c1 c2 htab
  go_enter Tryd.func3, Tryd.ntmps3
  go_wp2_with fail
  refine (C1.out _).mono ?_
  rintro e w1 ⟨rfl, hb1⟩
  have HB1 := Lib.hid hb1
  clear hb1
  go_wp2_with fail
  refine (C2.out _ (HT.out _ HB1.out)).mono ?_
  rintro e w2 ⟨rfl, hb2⟩
  go_wp2_with fail
  go_ret
  exact ⟨rfl, bl_tr HB1.out hb2⟩
set_option maxHeartbeats 2000000 in
theorem ReadDecimal_any (s : ByteArray) (w : World) (hs : s.size ≤ 1048576) (htab : Tab w) (hE : ErrV w) :
    Calls Tryd.prog 11 #[.string s] w fun e w' => e = .returned (.tuple #[.int .i64 (rdN s.data.toList), .bool (rdB s.data.toList)]) ∧ Below w.heap.size w w' := by
  have hsl : s.data.toList.length = s.size := by simp
  have htl := tailS_len s.data.toList
  rw [hsl] at htl
  by_cases b0 : 19 < (s.size : Int)
  · have b0' : decide (19 < (s.size : Int)) = true := by simpa using b0
    have HN := Lib.hid (rdO_long (s := s.data.toList) (by omega))
    clear htab hE hsl htl
    go_enter Tryd.func11, Tryd.ntmps11
    go_wp2
    go_ret2
    exact ⟨rd_ret0 HN.out, Below.refl _ _⟩
  have b0' : decide (19 < (s.size : Int)) = false := by simpa using b0
  have c1 := fun W => Tryd.strings_TrimPrefix s ⟨#[45]⟩ W
  obtain ⟨T, hT⟩ : ∃ T : ByteArray, T = ⟨(Lib.trimPrefix s.data.toList (ByteArray.mk #[45]).data.toList).toArray⟩ := ⟨_, rfl⟩
  rw [← hT] at c1
  have hTs : T.size = (tailS s.data.toList).length := by rw [hT, ← tailS_eq]; rfl
  have C1 := Lib.hid c1
  have HT := Lib.hid htab
  clear c1 hT htab
  by_cases b1 : 18 < (T.size : Int)
  · have b1' : decide (18 < (T.size : Int)) = true := by simpa using b1
    have HN := Lib.hid (rdO_long (s := s.data.toList) (by omega))
    clear hE hsl htl hTs
    go_enter Tryd.func11, Tryd.ntmps11
    go_wp2_with (go_at_call 26; refine (C1.out _).mono ?_; rintro e w' ⟨rfl, rfl⟩)
    go_ret2
    exact ⟨rd_ret0 HN.out, Below.refl _ _⟩
  have b1' : decide (18 < (T.size : Int)) = false := by simpa using b1
  have hrd := rdO_parse (s := s.data.toList) (by omega)
  clear hTs htl
  by_cases hok : ∃ v, Lib.parseIntB 64 s.data.toList = .ok v
  rotate_left
  · have hno : ∀ v, Lib.parseIntB 64 s.data.toList ≠ .ok v := fun v e => hok ⟨v, e⟩
    have HN := Lib.hid (show rdO s.data.toList = none from by
      rw [hrd]
      cases hp : Lib.parseIntB 64 s.data.toList
      · exact absurd hp (hno _)
      · rfl
      · rfl)
    have C2 := Lib.hid (PI_bad s w hs hno hE)
    clear hno hok hE hsl hrd
    go_enter Tryd.func11, Tryd.ntmps11
    go_wp2_with (first | (go_at_call 26; refine (C1.out _).mono ?_; rintro e w' ⟨rfl, rfl⟩) | (go_at_call 27; refine (C2.out).mono ?_; rintro e w2 ⟨I, N, rfl, hb2⟩))
    go_ret2
    exact ⟨rd_ret0 HN.out, hb2⟩
  · obtain ⟨v, hp⟩ := hok
    obtain ⟨v1, v2⟩ := parse_bd hp
    rw [hp] at hrd
    simp only at hrd
    have c2 : ∀ W, Calls Tryd.prog 27 #[.string s, .int .i64 10, .int .i64 64] W fun e w' => e = .returned (.tuple #[.int .i64 v, .nilIface]) ∧ Below W.heap.size W w' := fun W => (Tryd.strconv_ParseInt_10_at64_ok s (by omega) v hp W).mono fun e w' ⟨he, hw⟩ => ⟨he, by
      rcases hw with rfl | ⟨t, rfl⟩
      · exact Below.refl _ _
      · exact below_bytes _ _ _⟩
    have c3 := fun W (h : Tab W) => Decimal_any v W v1 v2 h
    obtain ⟨D, hD⟩ : ∃ D : ByteArray, D = ⟨(Lib.itoa v).toArray⟩ := ⟨_, rfl⟩
    rw [← hD] at c3
    have hse := str_eq (s := s) hD
    have C2 := Lib.hid c2
    have C3 := Lib.hid c3
    have HTB := Lib.hid (tabB_of HT.out)
    clear c2 c3 hp hE hD hsl
    cases hb : decide (Lib.itoa v = s.data.toList)
    · rw [hb] at hse
      have hse2 : (D.toList != s.toList) = true := by simp only [bne, hse, Bool.not_false]
      have HN := Lib.hid (show rdO s.data.toList = none from by rw [hrd, if_neg (by simpa using hb)])
      clear hrd hb
      go_enter Tryd.func11, Tryd.ntmps11
      go_wp2_with (first | (go_at_call 26; refine (C1.out _).mono ?_; rintro e w' ⟨rfl, rfl⟩) | (go_at_call 27; refine (C2.out _).mono ?_; rintro e w2 ⟨rfl, hb2⟩))
      have HB2 := Lib.hid hb2
      clear hb2
      go_wp2_with (go_at_call 9; refine (C3.out _ (HTB.out _ HB2.out)).mono ?_; rintro e w3 ⟨rfl, hb3⟩)
      go_ret2
      exact ⟨rd_ret0 HN.out, bl_tr HB2.out hb3⟩
    · rw [hb] at hse
      have hse2 : (D.toList != s.toList) = false := by simp only [bne, hse, Bool.not_true]
      have HN := Lib.hid (show rdO s.data.toList = some v from by rw [hrd, if_pos (by simpa using hb)])
      clear hrd hb
      go_enter Tryd.func11, Tryd.ntmps11
      go_wp2_with (first | (go_at_call 26; refine (C1.out _).mono ?_; rintro e w' ⟨rfl, rfl⟩) | (go_at_call 27; refine (C2.out _).mono ?_; rintro e w2 ⟨rfl, hb2⟩))
      have HB2 := Lib.hid hb2
      clear hb2
      go_wp2_with (go_at_call 9; refine (C3.out _ (HTB.out _ HB2.out)).mono ?_; rintro e w3 ⟨rfl, hb3⟩)
      go_ret2
      exact ⟨rd_ret1 HN.out, bl_tr HB2.out hb3⟩
set_option maxHeartbeats 1000000 in
theorem law_ReadDecimal (s : ByteArray) (_ws : s.size ≤ maxLen) (w : World) (htab : Tab w) (hE : ErrV w) :
    Calls Tryd.prog 4 #[.string s] w fun e w' => e = .returned (.bool true) ∧ Below w.heap.size w w' := by
  by_cases b0 : 1048576 < (s.size : Int)
  · have b0' : decide (1048576 < (s.size : Int)) = true := by simpa using b0
    clear htab hE
    go_enter Tryd.func4, Tryd.ntmps4
    go_wp2
    go_ret
    exact ⟨rfl, Below.refl _ _⟩
  have b0' : decide (1048576 < (s.size : Int)) = false := by simpa using b0
  have HT := Lib.hid (tabB_of htab)
  have HE := Lib.hid hE
  have hsz : s.size ≤ 1048576 := by omega
  have c1 := fun W => lReadDecimal_any s W hsz
  have c2 := fun W (h : Tab W) (h' : ErrV W) => ReadDecimal_any s W hsz h h'
  obtain ⟨n, hn⟩ : ∃ n, n = rdN s.data.toList := ⟨_, rfl⟩
  obtain ⟨b, hb⟩ : ∃ b, b = rdB s.data.toList := ⟨_, rfl⟩
  rw [← hn, ← hb] at c1 c2
  have C1 := Lib.hid c1
  have C2 := Lib.hid c2
  clear hn hb c1 c2 htab hE
  go_enter Tryd.func4, Tryd.ntmps4
  go_wp2_with fail
  refine (C1.out _).mono ?_
  rintro e w1 ⟨rfl, hb1⟩
  have HB1 := Lib.hid hb1
  clear hb1
  go_wp2_with fail
  refine (C2.out _ (HT.out _ HB1.out) (HE.out.below HB1.out)).mono ?_
  rintro e w2 ⟨rfl, hb2⟩
  go_wp2_with fail
  go_ret
  exact ⟨rfl, bl_tr HB1.out hb2⟩
end Go.Proofs.YtilifijfmdielaaDoor

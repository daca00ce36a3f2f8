/-
  PROVED HERE: contract of the reference's parts of a text between bytes; what a slice of texts reads as. CONDITIONS: as each theorem names them.
-/
import Derived.Test.YtilifijfmdielaaDoorSplP
import Derived.Test.YtilifijfmdielaaDoorDec
import Derived.Test.YtilifijfmdielaaDoorTouch
namespace Go.Proofs.YtilifijfmdielaaDoor
open Go.RowKit

theorem info_str : (Tryd.prog.info? 9).map (fun i => (i.zero, i.size, i.bytes)) = some (some (.string ByteArray.empty), 1, 16) := by kernel_rfl
/-- The slice with this address and length reads as the texts xs. -/
def RT (w : World) (A : Option Addr) (n : Nat) (xs : List ByteArray) : Prop :=
  xs.length = n ∧ (0 < n → ∃ b off, A = some ⟨b, off, none⟩ ∧ b < w.heap.size ∧ ∀ j, j < n → w.cell? ⟨b, off + j, none⟩ = some (.string (xs.getD j ByteArray.empty)))
theorem RT.at_ {w : World} {A : Option Addr} {n : Nat} {xs : List ByteArray} (h : RT w A n xs) {k : Nat} (hk : k < n) : ∃ b off, A = some ⟨b, off, none⟩ ∧ w.cell? ⟨b, off + k, none⟩ = some (.string (xs.getD k ByteArray.empty)) := by
  obtain ⟨b, off, e, _, hc⟩ := h.2 (by omega)
  exact ⟨b, off, e, hc k hk⟩
theorem RT.below {w w' : World} {A : Option Addr} {n : Nat} {xs : List ByteArray} (h : RT w A n xs) (hb : Below w.heap.size w w') : RT w' A n xs :=
  ⟨h.1, fun hn => by
    obtain ⟨b, off, e, hl, hc⟩ := h.2 hn
    exact ⟨b, off, e, Nat.lt_of_lt_of_le hl hb.size, fun j hj => (hb.cell (p := ⟨b, off + j, none⟩) hl).trans (hc j hj)⟩⟩
theorem RT.drewN {w : World} {A : Option Addr} {n : Nat} {xs : List ByteArray} (h : RT w A n xs) (k : Nat) : RT (w.drewN k) A n xs := h
theorem RT.of_own {w : World} {base e : Nat} {A : Option Addr} {n c : Nat} {xs : List ByteArray} (h : w.ownsRow base e 1 (.slice A n c) n (xs.map Value.string)) : RT w A n xs := by
  refine ⟨by simpa using h.1, fun hn => ?_⟩
  obtain ⟨g, cap, hv, _, hlt⟩ := h.form hn
  have hA : A = some ⟨g, 0, none⟩ := by injection hv
  subst hA
  refine ⟨g, 0, rfl, hlt, fun j hj => ?_⟩
  have hl : xs.length = n := by simpa using h.1
  have := h.cells (g := g) rfl j (.string (xs.getD j ByteArray.empty)) (by simp [List.getD, show j < xs.length by omega])
  simpa [Addr.add_lit] using this
/-- A slice of texts of its own is handed back. -/
def StR (B : Nat) (xs : List ByteArray) (w : World) (e : Ending) (w' : World) : Prop :=
  ∃ A c, e = .returned (.slice A xs.length c) ∧ w'.ownsRow B 9 1 (.slice A xs.length c) xs.length (xs.map Value.string) ∧ Below B w w'
theorem StR.mk {B n : Nat} {xs : List ByteArray} {w w' : World} {v : Value} (hn : xs.length = n) (ho : w'.ownsRow B 9 1 v n (xs.map Value.string)) (hb : Below B w w') : StR B xs w (.returned v) w' := by
  subst hn
  rcases ho.2 with ⟨rfl, h0⟩ | ⟨g, cap, cur, rfl, _⟩
  · rw [h0] at ho
    have : xs = [] := List.eq_nil_of_length_eq_zero h0
    subst this
    exact ⟨none, 0, rfl, ho, hb⟩
  · exact ⟨_, _, rfl, ho, hb⟩
theorem one_str (x : ByteArray) : ∀ u ∈ [Value.string x], u.oneCell' = true := by
  intro u hu
  rw [List.mem_singleton] at hu
  subst hu; rfl
theorem ext_data (s : ByteArray) (f k : Nat) : (s.extract f k).data.toList = (s.data.toList.drop f).take (k - f) := by
  rw [ByteArray.data_extract, Array.toList_extract, List.extract_eq_take_drop]
theorem byte_eq {a b : UInt8} : ((a.toNat : Int) == (b.toNat : Int)) = decide (a = b) := by
  by_cases h : a = b
  · subst h; simp
  · have : ¬ a.toNat = b.toNat := fun e => h (UInt8.toNat_inj.1 e)
    simp [h]; omega
theorem drop_b {s : ByteArray} {k : Nat} (h : k < s.size) : s.data.toList.drop k = s[k] :: s.data.toList.drop (k + 1) := by
  have hl : k < s.data.toList.length := by simpa using h
  rw [List.drop_eq_getElem_cons hl]; rfl
theorem cur_succ {l : List UInt8} {f k : Nat} {d : UInt8} {r : List UInt8} (hf : f ≤ k) (hd : l.drop k = d :: r) : (l.drop f).take (k + 1 - f) = (l.drop f).take (k - f) ++ [d] := by
  have h1 : k < l.length := by
    have : (l.drop k).length = r.length + 1 := by rw [hd]; rfl
    rw [List.length_drop] at this; omega
  rw [show k + 1 - f = (k - f) + 1 by omega, List.take_succ_eq_append_getElem (by rw [List.length_drop]; omega)]
  congr 2
  rw [List.getElem_drop]
  have h2 : l[k]'h1 = d := by
    rw [List.drop_eq_getElem_cons h1] at hd
    injection hd
  rw [← h2]
  congr 1
  omega
set_option maxHeartbeats 2000000 in
theorem l01Split_any (s : ByteArray) (c : UInt8) (w : World) (hs : s.size ≤ 1048576) :
    Calls Tryd.prog 31 #[.string s, .int .u8 (c.toNat : Int)] w (StR w.heap.size (PB c s) w) := by
  obtain ⟨i0, hi, hz0, hz1, hz2⟩ := info_parts info_str
  have HP := Lib.hid (show PB c s = (spl c s.data.toList).map mkB from rfl)
  obtain ⟨R, hR⟩ : ∃ R, R = PB c s := ⟨_, rfl⟩
  rw [← hR] at HP ⊢
  obtain ⟨cc, hcc⟩ : ∃ x : Nat, x = c.toNat := ⟨_, rfl⟩
  have HCC := Lib.hid hcc
  rw [← hcc]
  clear hR hcc
  go_enter Tryd.func31, Tryd.ntmps31
  go_wp2
  go_loopw [5, 6, 7] (fun v u i wr => ∃ (k f : Nat) (P : List ByteArray), f ≤ k ∧ k ≤ s.size ∧ i = .int .i64 k ∧ u = .int .i64 f ∧ spl c s.data.toList = P.map (·.data.toList) ++ spre ((s.data.toList.drop f).take (k - f)) (spl c (s.data.toList.drop k)) ∧ P.length ≤ k ∧ wr.ownsRow w.heap.size 9 1 v P.length (P.map Value.string) ∧ Below w.heap.size w wr) (fun _ _ i _ => s.size - (intOf i).toNat)
  case atStart => exact ⟨0, 0, [], Nat.le_refl _, Nat.zero_le _, rfl, rfl, by rw [List.drop_zero, Nat.sub_self, List.take_zero, spre_nil]; rfl, Nat.le_refl _, World.ownsRow_lit w #[] 0 (Nat.le_refl _) (Nat.zero_le _) (by simp), bl_al (Below.refl _ _) _⟩
  case round =>
    obtain ⟨k, f, P, hf, hk, rfl, rfl, hsp, hpl, ho, hb⟩ := hrel
    have HO := Lib.hid ho
    have HB := Lib.hid hb
    have HS := Lib.hid hsp
    have hz := hb.size
    clear ho hb hsp
    obtain ⟨m, hm⟩ : ∃ m, m = P.length := ⟨_, rfl⟩
    have HM := Lib.hid hm
    rw [← hm] at hpl
    have HO1 := Lib.hid (show wr.ownsRow w.heap.size 9 1 u5 m (P.map Value.string) from by rw [hm]; exact HO.out)
    clear hm HO
    have s1 : (0 : Int) ≤ (f : Int) := by omega
    have s2 : (f : Int) ≤ (k : Int) := by omega
    have s3 : (k : Int) ≤ (s.size : Int) := by omega
    have s4 : (0 : Int) ≤ (k : Int) := by omega
    have s5 : (f : Int) ≤ (s.size : Int) := by omega
    by_cases hlt : k < s.size
    · have hdr := drop_b hlt
      obtain ⟨d, hd⟩ : ∃ d, d = s[k] := ⟨_, rfl⟩
      rw [← hd] at hdr
      obtain ⟨dn, hdn⟩ : ∃ x : Nat, x = d.toNat := ⟨_, rfl⟩
      have hd2 : s[k].toNat = dn := by rw [hdn, hd]
      have HDR := Lib.hid hdr
      have HDN := Lib.hid hdn
      clear hdr hd hdn
      have s6 : (k : Int) < (s.size : Int) := by omega
      have s7 : IntKind.i64.wrap ((k : Int) + 1) = (k : Int) + 1 := w64d (by omega) (by omega)
      have hbe := byte_eq (a := d) (b := c)
      rw [← HCC.out, ← HDN.out] at hbe
      by_cases hdc : d = c
      · have hq : ((dn : Int) == (cc : Int)) = true := by rw [hbe]; simpa using hdc
        have hq2 : (dn : Int) = (cc : Int) := by simpa using hq
        have HN := Lib.hid (show spl c s.data.toList = (P ++ [s.extract f k]).map (·.data.toList) ++ spre ((s.data.toList.drop (k + 1)).take (k + 1 - (k + 1))) (spl c (s.data.toList.drop (k + 1))) from by
          rw [HS.out, HDR.out, hdc, spre_eq, Nat.sub_self, List.take_zero, spre_nil, List.map_append, List.append_assoc, List.map_singleton, ext_data]; rfl)
        have HL := Lib.hid (show m + 1 = (P ++ [s.extract f k]).length from by rw [List.length_append, ← HM.out]; rfl)
        have HC := Lib.hid (show (P ++ [s.extract f k]).map Value.string = P.map Value.string ++ [.string (s.extract f k)] from by rw [List.map_append]; rfl)
        obtain ⟨X, hX⟩ : ∃ X, X = s.extract f k := ⟨_, rfl⟩
        have hX2 : s.extract f k = X := hX.symm
        rw [← hX] at HN HL HC
        clear hX hdc hbe
        go_wp2_with (at_builtin; refine wpList_append_own _ rfl _ _ 36 rfl w.heap.size 9 i0 (.string ByteArray.empty) 1 16 Tryd.underlying36 hi hz0 hz1 hz2 rfl (by decide) _ _ _ rfl (HO1.out.alloc _) ⟨wr.heap.size, 0, none⟩ 1 1 [.string X] rfl rfl (cell_one_new _ _ _) (one_str _) (by unfold maxLen; omega) (by omega) (by simp; omega) ?_; intro v' w2 hown' hgrow _)
        have hb2 := (bl_al HB.out (.cells #[.string X] 9)).grown hgrow (by simp; omega) (fun j hj => (HO1.out.lt j hj).1)
        rw [← HC.out, HL.out] at hown'
        go_roundw
        case rel => exact ⟨k + 1, k + 1, _, Nat.le_refl _, by omega, by go_num, by go_num, HN.out, by rw [← HL.out]; omega, hown', hb2⟩
        case measure => simp [intOf]; omega
      · have hq : ((dn : Int) == (cc : Int)) = false := by rw [hbe]; simpa using hdc
        have hq2 : ¬ (dn : Int) = (cc : Int) := by simpa using hq
        have HN := Lib.hid (show spl c s.data.toList = P.map (·.data.toList) ++ spre ((s.data.toList.drop f).take (k + 1 - f)) (spl c (s.data.toList.drop (k + 1))) from by
          rw [HS.out, HDR.out, spre_cons hdc, cur_succ hf HDR.out])
        clear hdc hbe
        go_wp2
        go_roundw
        case rel => exact ⟨k + 1, f, P, by omega, by omega, by go_num, rfl, HN.out, by rw [← HM.out]; omega, by rw [← HM.out]; exact HO1.out, HB.out⟩
        case measure => simp [intOf]; omega
    · have hks : k = s.size := by omega
      subst hks
      have hnil : s.data.toList.drop s.size = [] := List.drop_of_length_le (by simp)
      have HN := Lib.hid (show R = P ++ [s.extract f s.size] from by
        have h := HS.out
        rw [hnil] at h
        rw [HP.out, h, show spl c [] = [[]] from rfl, List.map_append, List.map_map]
        have e1 : P.map (mkB ∘ fun x => x.data.toList) = P := by
          have : P.map (mkB ∘ fun x => x.data.toList) = P.map id := List.map_congr_left fun x _ => mkB_of x
          rw [this, List.map_id]
        have e2 : (spre ((s.data.toList.drop f).take (s.size - f)) [[]]).map mkB = [s.extract f s.size] := by
          rw [← ext_data]
          simp only [spre, List.append_nil, List.map_cons, List.map_nil, mkB_of]
        rw [e1, e2])
      have HL := Lib.hid (show m + 1 = R.length from by rw [HN.out, List.length_append, ← HM.out]; rfl)
      have HC := Lib.hid (show R.map Value.string = P.map Value.string ++ [.string (s.extract f s.size)] from by rw [HN.out, List.map_append]; rfl)
      obtain ⟨X, hX⟩ : ∃ X, X = s.extract f s.size := ⟨_, rfl⟩
      have hX2 : s.extract f s.size = X := hX.symm
      rw [← hX] at HC
      clear hX hnil HN
      go_wp2_with (at_builtin; refine wpList_append_own _ rfl _ _ 36 rfl w.heap.size 9 i0 (.string ByteArray.empty) 1 16 Tryd.underlying36 hi hz0 hz1 hz2 rfl (by decide) _ _ _ rfl (HO1.out.alloc _) ⟨wr.heap.size, 0, none⟩ 1 1 [.string X] rfl rfl (cell_one_new _ _ _) (one_str _) (by unfold maxLen; omega) (by omega) (by simp; omega) ?_; intro v' w2 hown' hgrow _)
      have hb2 := (bl_al HB.out (.cells #[.string X] 9)).grown hgrow (by simp; omega) (fun j hj => (HO1.out.lt j hj).1)
      rw [← HC.out] at hown'
      go_ret
      exact StR.mk HL.out.symm hown' hb2
end Go.Proofs.YtilifijfmdielaaDoor

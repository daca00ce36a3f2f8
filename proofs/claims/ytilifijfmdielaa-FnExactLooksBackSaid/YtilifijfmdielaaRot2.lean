/-
  PROVED HERE: the walks of FirstTurn, BackMotion and LooksBack: the program and the reference agree. CONDITIONS: a text's length fits the model's longest string.
-/
import Derived.Test.YtilifijfmdielaaRot
import Derived.Laws.IdiomStrings
import Derived.Laws.OwnMore
import Derived.Deep.AppendLies
import Derived.Deep.Onto
namespace Go.Proofs.Ytilifijfmdielaa
open Go.RowKit

set_option maxHeartbeats 1000000 in
theorem lFirstTurn_walk (a : ByteArray) (w : World) (ha : a.size ≤ maxLen) (h0 : letB a 24 = true) :
    Calls Try.prog 7 #[.string a] w fun e w' => e = .returned (.tuple #[.string (mtS a a.size), .int .i64 0]) ∧ Below w.heap.size w w' := by
  obtain ⟨l1, l2⟩ := letB_t h0
  have HA := Lib.hid ha
  unfold maxLen at ha
  go_enter Try.func7, Try.ntmps7
  go_wp2_with (go_at_call 15; refine (l06Ok_any _ _ HA.out).mono ?_; rintro e w' ⟨rfl, rfl⟩)
  go_loopw [4, 5, 6] (fun o i _ wr => ∃ k m : Nat, 1 ≤ k ∧ k ≤ a.size ∧ i = .int .i64 k ∧ o = .string (mtS a k) ∧ wr = w.drewN m) (fun _ i _ _ => a.size - (intOf i).toNat)
  case atStart => exact ⟨1, 0, by omega, by omega, rfl, by rw [mtS_one], rfl⟩
  case round =>
    obtain ⟨k, m, hk1, hk, rfl, rfl, rfl⟩ := hrel
    by_cases hlt : k < a.size
    · have ht := mtS_t (s := a) (k := k)
      have hf := mtS_f (s := a) (k := k)
      have HT := Lib.hid ht
      have HF := Lib.hid hf
      clear ht hf
      cases hx : Op.bytesLess (rot a k).toList (mtS a k).toList
      · have HE := Lib.hid (HF.out hx)
        go_wp2_with ((go_at_call 16; refine (l06Turned_any _ _ _ (by unfold maxLen; omega) (by omega) (by omega)).mono ?_; rintro e w' ⟨rfl, n2, rfl⟩; rw [Int.toNat_natCast]))
        go_roundw
        case rel => exact ⟨k + 1, _, by omega, by omega, by go_num, by rw [HE.out], rfl⟩
        case measure => simp [intOf]; omega
      · have HE := Lib.hid (HT.out hx)
        go_wp2_with ((go_at_call 16; refine (l06Turned_any _ _ _ (by unfold maxLen; omega) (by omega) (by omega)).mono ?_; rintro e w' ⟨rfl, n2, rfl⟩; rw [Int.toNat_natCast]))
        go_roundw
        case rel => exact ⟨k + 1, _, by omega, by omega, by go_num, by rw [HE.out], rfl⟩
        case measure => simp [intOf]; omega
    · have hka : k = a.size := by omega
      subst hka
      go_wp2
      go_ret2
      exact ⟨rfl, bl_drewN (Below.refl _ _) _⟩
def ftS (a : ByteArray) : ByteArray := if letB a 24 then mtS a a.size else ByteArray.empty
def ftK (a : ByteArray) : Int := if letB a 24 then 0 else 1
theorem FirstTurn_any (a : ByteArray) (w : World) (ha : a.size ≤ maxLen) :
    Calls Try.prog 8 #[.string a] w fun e w' => e = .returned (.tuple #[.string (ftS a), .int .i64 (ftK a)]) ∧ Below w.heap.size w w' := by
  cases h0 : letB a 24
  · have e1 : ftS a = ByteArray.empty := by simp [ftS, h0]
    have e2 : ftK a = 1 := by simp [ftK, h0]
    rw [e1, e2]
    have HA := Lib.hid ha
    clear e1 e2 ha
    go_enter Try.func8, Try.ntmps8
    go_wp2_with (go_at_call 17; refine (ValidMotion_any _ _ HA.out).mono ?_; rintro e w' ⟨rfl, rfl⟩)
    go_ret2
    exact ⟨rfl, Below.refl _ _⟩
  · have e1 : ftS a = mtS a a.size := by simp [ftS, h0]
    have e2 : ftK a = 0 := by simp [ftK, h0]
    rw [e1, e2]
    exact FirstTurn_walk a w ha h0
theorem lFirstTurn_any (a : ByteArray) (w : World) (ha : a.size ≤ maxLen) :
    Calls Try.prog 7 #[.string a] w fun e w' => e = .returned (.tuple #[.string (ftS a), .int .i64 (ftK a)]) ∧ Below w.heap.size w w' := by
  cases h0 : letB a 24
  · have e1 : ftS a = ByteArray.empty := by simp [ftS, h0]
    have e2 : ftK a = 1 := by simp [ftK, h0]
    rw [e1, e2]
    have HA := Lib.hid ha
    clear e1 e2 ha
    go_enter Try.func7, Try.ntmps7
    go_wp2_with (go_at_call 15; refine (l06Ok_any _ _ HA.out).mono ?_; rintro e w' ⟨rfl, rfl⟩)
    go_ret2
    exact ⟨rfl, Below.refl _ _⟩
  · have e1 : ftS a = mtS a a.size := by simp [ftS, h0]
    have e2 : ftK a = 0 := by simp [ftK, h0]
    rw [e1, e2]
    exact lFirstTurn_walk a w ha h0
set_option maxHeartbeats 1000000 in
theorem law_FirstTurn (a0 : ByteArray) (w0 : a0.size ≤ maxLen) (w : World) :
    Calls Try.prog 3 #[.string a0] w fun e w' => e = .returned (.bool true) ∧ Below w.heap.size w w' := by
  by_cases hb0 : 1048576 < a0.size
  · have hd0 : decide (1048576 < (a0.size : Int)) = true := by simp; omega
    unfold maxLen at w0
    go_enter Try.func3, Try.ntmps3
    go_wp2
    go_ret
    exact ⟨rfl, Below.refl _ _⟩
  have hd0 : decide (1048576 < (a0.size : Int)) = false := by simp; omega
  have HW0 := Lib.hid w0
  unfold maxLen at w0
  go_enter Try.func3, Try.ntmps3
  go_wp2_with (first | (go_at_call 7; refine (lFirstTurn_any _ _ HW0.out).mono ?_; rintro e w2 ⟨rfl, hb2⟩) | (go_at_call 8; refine (FirstTurn_any _ _ HW0.out).mono ?_; rintro e w3 ⟨rfl, hb3⟩))
  go_ret
  exact ⟨rfl, bl_tr hb2 hb3⟩
/-- A text backwards. -/
def revS (s : ByteArray) : ByteArray := ⟨s.data.toList.reverse.toArray⟩
theorem revS_size (s : ByteArray) : (revS s).size = s.size := by
  show (s.data.toList.reverse.toArray).size = _
  simp
theorem info_u8 : (Try.prog.info? 5).map (fun i => (i.zero, i.size, i.bytes)) = some (some (.int .u8 0), 1, 1) := by kernel_rfl
theorem bcells_one (l : List UInt8) : ∀ u ∈ l.map (fun b => Value.int .u8 (b.toNat : Int)), u.oneCell' = true := by
  intro u hu
  simp only [List.mem_map] at hu
  obtain ⟨b, _, rfl⟩ := hu
  rfl
theorem drop_rev {s : ByteArray} {q : Nat} (h : q < s.size) : (s.data.toList.drop q).reverse = (s.data.toList.drop (q + 1)).reverse ++ [s[q]] := by
  rw [List.drop_eq_getElem_cons (by simpa using h), List.reverse_cons]
  rfl
set_option maxHeartbeats 1000000 in
theorem l06Back_any (s : ByteArray) (w : World) (hs : s.size ≤ 1048576) (h1 : 1 ≤ s.size) :
    Calls Try.prog 19 #[.string s] w fun e w' => e = .returned (.string (revS s)) ∧ Below w.heap.size w w' := by
  obtain ⟨i0, hi, hz0, hz1, hz2⟩ := info_parts info_u8
  go_enter Try.func19, Try.ntmps19
  go_wp2
  go_loopw [3, 4] (fun v i wr => ∃ m : Nat, m ≤ s.size ∧ i = .int .i64 ((m : Int) - 1) ∧ wr.ownsRow w.heap.size 5 1 v (s.size - m) (((s.data.toList.drop m).reverse).map fun b => .int .u8 (b.toNat : Int)) ∧ Below w.heap.size w wr) (fun _ i _ => (intOf i + 1).toNat)
  case atStart => exact ⟨s.size, Nat.le_refl _, rfl, by rw [List.drop_eq_nil_of_le (by simp), Nat.sub_self]; exact World.ownsRow_lit (base := w.heap.size) (e := 5) (size := 1) w #[] 0 (Nat.le_refl _) (Nat.zero_le _) (by simp), (Below.refl _ _).alloc (Nat.le_refl _) _⟩
  case round =>
    obtain ⟨m, hm, rfl, ho, hb⟩ := hrel
    have hz := hb.size
    have HO := Lib.hid ho
    have HB := Lib.hid hb
    clear ho hb
    cases m with
    | zero =>
      have ho := HO.out
      rw [Nat.sub_zero, List.drop_zero] at ho
      obtain ⟨g, cap, hv, _, hglt⟩ := ho.form (by omega)
      subst hv
      have hl : (s.data.toList.reverse).length = s.size := by simp
      have hbk : ∀ ty ty2, ty = 33 → ty2 = 9 → (convert ty ty2 (.slice (some ⟨g, 0, none⟩) s.size cap)).run Try.prog wr = .ok (.string (revS s)) wr := by
        rintro ty ty2 rfl rfl
        have := run_convert_bytes_back (P := Try.prog) wr 33 9 5 ⟨g, 0, none⟩ cap s.data.toList.reverse Try.underlying33 Try.underlying5 Try.underlying9 (fun j hj => by
          have hj' : j < s.size := by rw [hl] at hj; exact hj
          have := ho.cells (g := g) rfl j (.int .u8 ((s.data.toList.reverse)[j].toNat : Int)) (by rw [List.getElem?_map, List.getElem?_eq_getElem hj]; rfl)
          exact this)
        rw [hl] at this
        exact this
      have hb2 := hbk _ _ rfl rfl
      clear hbk hl ho
      have e0 : ((0 : Nat) : Int) - 1 = -1 := rfl
      rw [e0]
      clear e0
      go_wp2
      go_ret
      exact ⟨rfl, HB.out⟩
    | succ q =>
      have hq : q < s.size := by omega
      have e1 : ((q + 1 : Nat) : Int) - 1 = (q : Int) := by omega
      rw [e1]
      have hq0 : (0 : Int) ≤ (q : Int) := by omega
      have hq1 : (q : Int) < (s.size : Int) := by omega
      have hdr := drop_rev hq
      have hln : s.size - q = s.size - (q + 1) + 1 := by omega
      have HD := Lib.hid hdr
      have HN := Lib.hid hln
      clear e1 hdr hln
      go_wp2_with (at_builtin; refine wpList_append_own _ rfl _ _ 33 rfl w.heap.size 5 i0 (.int .u8 0) 1 1 Try.underlying33 hi hz0 hz1 hz2 rfl (by decide) _ _ _ rfl (HO.out.alloc _) ⟨wr.heap.size, 0, none⟩ 1 1 [.int .u8 (s[q].toNat : Int)] rfl rfl (cell_one_new _ _ _) (by intro u hu; simp only [List.mem_singleton] at hu; subst hu; rfl) (by unfold maxLen; omega) (by omega) (by simp; omega) ?_; intro v' w1 hown' hgrow _)
      have hb2 := (HB.out.alloc hz (.cells #[.int .u8 (s[q].toNat : Int)] 5)).grown hgrow (by simp; omega) (fun j hj => (HO.out.lt j hj).1)
      go_roundw
      case rel => exact ⟨q, by omega, by go_num, by rw [HN.out, HD.out, List.map_append]; exact hown', hb2⟩
      case measure => simp [intOf]
/-- The cells of a list that is turned round from its ends, after k swaps. -/
def swV (l : List UInt8) (k p : Nat) : UInt8 := if p < k ∨ l.length - k ≤ p then l.getD (l.length - 1 - p) 0 else l.getD p 0
theorem swV_zero (l : List UInt8) {p : Nat} (h : p < l.length) : swV l 0 p = l.getD p 0 := by unfold swV; rw [if_neg (by omega)]
theorem swV_k (l : List UInt8) {k : Nat} (h : k < l.length - 1 - k) : swV l k k = l.getD k 0 := by unfold swV; rw [if_neg (by omega)]
theorem swV_q (l : List UInt8) {k q : Nat} (hq : q = l.length - 1 - k) (h : k < q) : swV l k q = l.getD q 0 := by unfold swV; rw [if_neg (by omega)]
theorem swV_succ (l : List UInt8) {k q p : Nat} (hq : q = l.length - 1 - k) (h : k < q) (hp : p < l.length) : swV l (k + 1) p = if p = k then l.getD q 0 else if p = q then l.getD k 0 else swV l k p := by
  unfold swV
  by_cases e1 : p = k
  · subst e1
    rw [if_pos (by omega), if_pos rfl, hq]
  · rw [if_neg e1]
    by_cases e2 : p = q
    · rw [if_pos e2, if_pos (by omega)]
      congr 1; omega
    · rw [if_neg e2]
      by_cases e3 : p < k ∨ l.length - k ≤ p
      · rw [if_pos e3, if_pos (by omega)]
      · rw [if_neg e3, if_neg (by omega)]
theorem swV_end (l : List UInt8) {k p : Nat} (h : l.length - 1 - k ≤ k) (hp : p < l.length) : swV l k p = l.reverse.getD p 0 := by
  have e : l.reverse.getD p 0 = l.getD (l.length - 1 - p) 0 := by
    rw [List.getD_eq_getElem?_getD, List.getElem?_reverse hp, List.getD_eq_getElem?_getD]
  rw [e]
  unfold swV
  split
  · rfl
  · rename_i hn
    have : l.length - 1 - p = p := by omega
    rw [this]
theorem swap_cells {w : World} {g n k q : Nat} {f : Nat → Value} {x y : Value} (hc : ∀ p, p < n → w.cell? ⟨g, p, none⟩ = some (f p)) (hk : k < n) (hq : q < n) (hne : k ≠ q) :
    ∀ p, p < n → ((w.setCell ⟨g, k, none⟩ x).setCell ⟨g, q, none⟩ y).cell? ⟨g, p, none⟩ = some (if p = k then x else if p = q then y else f p) := by
  intro p hp
  have a1 : (w.setCell ⟨g, k, none⟩ x).cell? ⟨g, k, none⟩ = some x := World.cell?_setCell_same w ⟨g, k, none⟩ x (hc k hk)
  have a2 : (w.setCell ⟨g, k, none⟩ x).cell? ⟨g, q, none⟩ = some (f q) := by rw [World.cell?_setCell_other w _ _ _ (by intro e; injection e with _ e; omega)]; exact hc q hq
  by_cases e1 : p = k
  · subst e1
    rw [if_pos rfl, World.cell?_setCell_other _ _ _ _ (by intro e; injection e with _ e; omega)]
    exact a1
  · rw [if_neg e1]
    by_cases e2 : p = q
    · subst e2
      rw [if_pos rfl]
      exact World.cell?_setCell_same _ _ y a2
    · rw [if_neg e2, World.cell?_setCell_other _ _ _ _ (by intro e; injection e with _ e; omega), World.cell?_setCell_other _ _ _ _ (by intro e; injection e with _ e; omega)]
      exact hc p hp
/-- Block g holds the bytes l; nothing below it has turned. -/
def RevP (g n : Nat) (l : List UInt8) (w w' : World) : Prop := (∀ p, p < n → w'.cell? ⟨g, p, none⟩ = some (.int .u8 ((l.getD p 0).toNat : Int))) ∧ ∀ B, B ≤ g → B ≤ w.heap.size → Below B w w'
set_option maxHeartbeats 2000000 in
theorem Reverse_any (g n c : Nat) (l : List UInt8) (w : World) (hl : l.length = n) (hn1 : 1 ≤ n) (hn : n ≤ 1048576) (hc : ∀ p, p < n → w.cell? ⟨g, p, none⟩ = some (.int .u8 ((l.getD p 0).toNat : Int))) (hf : ∀ p, p < n → w.frozen? ⟨g, p, none⟩ = false) :
    Calls Try.prog 25 #[.slice (some ⟨g, 0, none⟩) n c] w fun e w' => e = .returned (.tuple #[]) ∧ RevP g n l.reverse w w' := by
  have HC := Lib.hid (show ∀ p, p < n → w.cell? ⟨g, p, none⟩ = some (.int .u8 ((swV l 0 p).toNat : Int)) from fun p hp => by rw [swV_zero l (by omega)]; exact hc p hp)
  have HF := Lib.hid hf
  have HL := Lib.hid hl
  clear hc hf hl
  go_enter Try.func25, Try.ntmps25
  go_wp2
  go_loopw [2, 3] (fun i j wr => ∃ k : Nat, k ≤ n ∧ i = .int .i64 k ∧ j = .int .i64 ((n : Int) - 1 - k) ∧ (∀ p, p < n → wr.cell? ⟨g, p, none⟩ = some (.int .u8 ((swV l k p).toNat : Int))) ∧ (∀ p, p < n → wr.frozen? ⟨g, p, none⟩ = false) ∧ ∀ B, B ≤ g → B ≤ w.heap.size → Below B w wr) (fun i _ _ => n - (intOf i).toNat)
  case atStart => exact ⟨0, Nat.zero_le _, rfl, by go_num, HC.out, HF.out, fun _ _ _ => Below.refl _ _⟩
  case round =>
    obtain ⟨k, hk, rfl, rfl, hcs, hfs, hbs⟩ := hrel
    have HCS := Lib.hid hcs
    have HFS := Lib.hid hfs
    have HBS := Lib.hid hbs
    clear hcs hfs hbs
    by_cases hlt : (k : Int) < (n : Int) - 1 - k
    · obtain ⟨q, hq, hqi⟩ : ∃ q : Nat, q = n - 1 - k ∧ (n : Int) - 1 - k = (q : Int) := ⟨n - 1 - k, rfl, by omega⟩
      rw [hqi]
      have hkq : k < q := by omega
      have hql : q = l.length - 1 - k := by rw [HL.out]; exact hq
      have c1 := HCS.out k (by omega)
      have c2 := HCS.out q (by omega)
      rw [swV_k l (by omega)] at c1
      rw [swV_q l hql hkq] at c2
      have f1 := HFS.out k (by omega)
      have f2 := HFS.out q (by omega)
      have hsw := fun (p : Nat) (hp : p < n) => swV_succ l hql hkq (p := p) (by rw [HL.out]; exact hp)
      have HSW := Lib.hid hsw
      obtain ⟨x, hx⟩ : ∃ x, x = l.getD k 0 := ⟨_, rfl⟩
      obtain ⟨y, hy⟩ : ∃ y, y = l.getD q 0 := ⟨_, rfl⟩
      rw [← hx] at c1
      rw [← hy] at c2
      have HX := Lib.hid hx
      have HY := Lib.hid hy
      have s1 : (0 : Int) ≤ (k : Int) := by omega
      have s2 : (k : Int) < (n : Int) := by omega
      have s3 : (0 : Int) ≤ (q : Int) := by omega
      have s4 : (q : Int) < (n : Int) := by omega
      have s5 : (k : Int) < (q : Int) := by omega
      have s6 : k ≠ q := by omega
      have HQ := Lib.hid hq
      have HQI := Lib.hid hqi
      clear hq hqi hql hsw hx hy hlt
      go_wp2
      go_region
      go_wp2
      go_roundw
      case rel =>
        refine ⟨k + 1, by omega, by go_num, congrArg (Value.int .i64) (by have := HQI.out; omega), fun p hp => ?_, fun p hp => by simpa using HFS.out p hp, fun B h1 h2 => (((HBS.out B h1 h2).setCell (p := ⟨g, k, none⟩) h1 _).setCell (p := ⟨g, q, none⟩) h1 _).drew⟩
        have h := swap_cells (x := .int .u8 (y.toNat : Int)) (y := .int .u8 (x.toNat : Int)) HCS.out (k := k) (q := q) (by omega) (by omega) s6 p hp
        rw [HSW.out p hp, ← HX.out, ← HY.out]
        refine h.trans ?_
        by_cases e1 : p = k
        · rw [if_pos e1, if_pos e1]
        · rw [if_neg e1, if_neg e1]
          by_cases e2 : p = q
          · rw [if_pos e2, if_pos e2]
          · rw [if_neg e2, if_neg e2]
      case measure => simp [intOf]; omega
    · go_wp2
      go_end0
      exact ⟨rfl, fun p hp => by rw [← swV_end l (k := k) (by rw [HL.out]; omega) (by rw [HL.out]; exact hp)]; exact HCS.out p hp, HBS.out⟩
set_option maxHeartbeats 1000000 in
theorem reversed_any (s : ByteArray) (w : World) (hs : s.size ≤ 1048576) (h1 : 1 ≤ s.size) :
    Calls Try.prog 20 #[.string s] w fun e w' => e = .returned (.string (revS s)) ∧ Below w.heap.size w w' := by
  have hcv := fun W => run_bytes_of_string (P := Try.prog) W 9 33 5 s Try.underlying9 Try.underlying33 Try.underlying5
  have hsz : s.data.toList.length = s.size := by simp
  have HSZ := Lib.hid hsz
  have HS := Lib.hid (show s.size ≤ 1048576 ∧ 1 ≤ s.size from ⟨hs, h1⟩)
  clear hsz
  go_enter Try.func20, Try.ntmps20
  go_wp2_with fail
  clear hcv
  refine (Reverse_any w.heap.size s.size _ s.data.toList _ HSZ.out HS.out.2 HS.out.1 (fun p hp => ?_) (fun p hp => ?_)).mono ?_
  · refine (World.cell?_alloc_mark w _ _ _ p).trans ((bytesRow_at s _ p hp).trans ?_)
    congr 3
    have hp' : p < s.data.toList.length := by rw [HSZ.out]; exact hp
    rw [List.getD_eq_getElem?_getD, List.getElem?_eq_getElem hp']
    rfl
  · refine (World.frozen?_alloc_mark w _ _ _ _ p).trans ?_
    have : s.size ≤ (bytesRow s (grownCap w s.size 0 5)).size := by
      unfold bytesRow
      rw [Array.size_append, Array.size_map]
      exact Nat.le_add_right _ _
    have h2 : decide ((bytesRow s (grownCap w s.size 0 5)).size ≤ p) = false := by simp; omega
    rw [h2]; rfl
  rintro e w2 ⟨rfl, hrv⟩
  have hl : (s.data.toList.reverse).length = s.size := by simp
  have hb : Below w.heap.size w w2 := ((Below.refl w.heap.size w).alloc (Nat.le_refl _) _).drew.trans (hrv.2 w.heap.size (Nat.le_refl _) (by simp))
  have hbk : ∀ (cap : Nat), (convert 33 9 (.slice (some ⟨w.heap.size, 0, none⟩) s.size cap)).run Try.prog w2 = .ok (.string (revS s)) w2 := fun cap => by
    have := run_convert_bytes_back (P := Try.prog) w2 33 9 5 ⟨w.heap.size, 0, none⟩ cap s.data.toList.reverse Try.underlying33 Try.underlying5 Try.underlying9 (fun j hj => by
      have hj' : j < s.size := by rw [hl] at hj; exact hj
      have h3 := hrv.1 j hj'
      rw [List.getD_eq_getElem?_getD, List.getElem?_eq_getElem hj] at h3
      rw [Go.WideShapes.add_plain, Nat.zero_add]
      exact h3)
    rw [hl] at this
    exact this
  have HB := Lib.hid hb
  clear hrv hb hl
  go_wp2
  go_ret
  exact ⟨rfl, HB.out⟩
set_option maxHeartbeats 1000000 in
theorem law_BackMotion (a0 : ByteArray) (w0 : a0.size ≤ maxLen) (w : World) :
    Calls Try.prog 4 #[.string a0] w fun e w' => e = .returned (.bool true) ∧ Below w.heap.size w w' := by
  by_cases hb0 : 1048576 < a0.size
  · have hd0 : decide (1048576 < (a0.size : Int)) = true := by simp; omega
    unfold maxLen at w0
    go_enter Try.func4, Try.ntmps4
    go_wp2
    go_ret
    exact ⟨rfl, Below.refl _ _⟩
  have hd0 : decide (1048576 < (a0.size : Int)) = false := by simp; omega
  have HW0 := Lib.hid w0
  have hs0 : a0.size ≤ 1048576 := by omega
  unfold maxLen at w0
  cases h0 : letB a0 24
  · go_enter Try.func4, Try.ntmps4
    go_wp2_with (first | (go_at_call 15; refine (l06Ok_any _ _ HW0.out).mono ?_; rintro e w' ⟨rfl, rfl⟩) | (go_at_call 17; refine (ValidMotion_any _ _ HW0.out).mono ?_; rintro e w' ⟨rfl, rfl⟩) | go_in)
    go_ret
    exact ⟨rfl, Below.refl _ _⟩
  · have hs1 : 1 ≤ a0.size := by have := letB_t h0; omega
    go_enter Try.func4, Try.ntmps4
    go_wp2_with (first | (go_at_call 15; refine (l06Ok_any _ _ HW0.out).mono ?_; rintro e w' ⟨rfl, rfl⟩) | (go_at_call 17; refine (ValidMotion_any _ _ HW0.out).mono ?_; rintro e w' ⟨rfl, rfl⟩) | (go_at_call 19; refine (l06Back_any _ _ hs0 hs1).mono ?_; rintro e w2 ⟨rfl, hb2⟩) | (go_at_call 20; refine (reversed_any _ _ hs0 hs1).mono ?_; rintro e w3 ⟨rfl, hb3⟩) | go_in)
    go_ret
    exact ⟨rfl, bl_tr hb2 hb3⟩
set_option maxHeartbeats 1000000 in
theorem law_LooksBack (a0 : ByteArray) (w0 : a0.size ≤ maxLen) (w : World) :
    Calls Try.prog 6 #[.string a0] w fun e w' => e = .returned (.bool true) ∧ Below w.heap.size w w' := by
  by_cases hb0 : 1048576 < a0.size
  · have hd0 : decide (1048576 < (a0.size : Int)) = true := by simp; omega
    unfold maxLen at w0
    go_enter Try.func6, Try.ntmps6
    go_wp2
    go_ret
    exact ⟨rfl, Below.refl _ _⟩
  have hd0 : decide (1048576 < (a0.size : Int)) = false := by simp; omega
  have HW0 := Lib.hid w0
  have hs0 : a0.size ≤ 1048576 := by omega
  have HW1 := Lib.hid (show (revS a0).size ≤ maxLen from by rw [revS_size]; exact w0)
  unfold maxLen at w0
  cases h0 : letB a0 24
  · go_enter Try.func6, Try.ntmps6
    go_wp2_with (first | (go_at_call 15; refine (l06Ok_any _ _ HW0.out).mono ?_; rintro e w' ⟨rfl, rfl⟩) | (go_at_call 17; refine (ValidMotion_any _ _ HW0.out).mono ?_; rintro e w' ⟨rfl, rfl⟩) | go_in)
    go_ret
    exact ⟨rfl, Below.refl _ _⟩
  · have hs1 : 1 ≤ a0.size := by have := letB_t h0; omega
    have HL := Lib.hid (letB_low h0)
    go_enter Try.func6, Try.ntmps6
    go_wp2_with (first | (go_at_call 15; refine (l06Ok_any _ _ HW0.out).mono ?_; rintro e w' ⟨rfl, rfl⟩) | (go_at_call 17; refine (ValidMotion_any _ _ HW0.out).mono ?_; rintro e w' ⟨rfl, rfl⟩) | (go_at_call 19; refine (l06Back_any _ _ hs0 hs1).mono ?_; rintro e w2 ⟨rfl, hb2⟩) | (go_at_call 20; refine (reversed_any _ _ hs0 hs1).mono ?_; rintro e w3 ⟨rfl, hb3⟩) | (go_at_call 21; refine (l06Same_any _ _ _ HW0.out HW1.out).mono ?_; rintro e w4 ⟨rfl, hb4⟩) | (go_at_call 22; refine (sameMotion_any _ _ _ HW0.out HW1.out HL.out).mono ?_; rintro e w5 ⟨rfl, hb5⟩) | go_in)
    go_ret
    exact ⟨rfl, bl_tr (bl_tr hb2 hb4) (bl_tr hb3 hb5)⟩
end Go.Proofs.Ytilifijfmdielaa

/-
  PROVED HERE: the walk of MissedPictures: the program and the reference agree. CONDITIONS: none beyond that each number is an int64.
-/
import Derived.Test.YtdmiieijflochaaHas
namespace Go.Proofs.Ytdmiieijflochaa
open Go.RowKit

/-- The numbers below k that do not stand in xs. -/
def msI (xs : List Int) : Nat → List Int
  | 0 => []
  | k + 1 => if hasB xs k then msI xs k else msI xs k ++ [(k : Int)]
theorem msI_t {xs : List Int} {k : Nat} (h : hasB xs k = true) : msI xs (k + 1) = msI xs k := by simp [msI, h]
theorem msI_f {xs : List Int} {k : Nat} (h : hasB xs k = false) : msI xs (k + 1) = msI xs k ++ [(k : Int)] := by simp [msI, h]
theorem msI_len (xs : List Int) (k : Nat) : (msI xs k).length ≤ k := by
  induction k with
  | zero => simp [msI]
  | succ k ih =>
    cases h : hasB xs k
    · rw [msI_f h, List.length_append]; simp; omega
    · rw [msI_t h]; omega
def mpX (x y : Int) : List Int := if inB x 1 48 then (if inB y 1 48 then msI (ordI x y y.toNat) x.toNat else []) else []
def mpK (x y : Int) : Int := if inB x 1 48 then (if inB y 1 48 then 0 else 2) else 2
theorem mpX_le (x y : Int) : (mpX x y).length ≤ 1000000 := by
  unfold mpX
  split
  · split
    · rename_i h _; have := inB_t h; have := msI_len (ordI x y y.toNat) x.toNat; omega
    · simp
  · simp
/-- The table of what was seen. -/
def seT (xs : List Int) (n k : Nat) : List Value := (List.range n).map fun (j : Nat) => .bool (hasB (xs.take k) j)
theorem seT_len (xs : List Int) (n k : Nat) : (seT xs n k).length = n := by simp [seT]
theorem seT_zero (xs : List Int) (n : Nat) : seT xs n 0 = List.replicate n (.bool false) := by
  apply List.ext_getElem?
  intro j
  by_cases hj : j < n
  · simp [seT, hj, hasB]
  · rw [List.getElem?_eq_none (by rw [seT_len]; omega), List.getElem?_eq_none (by simp; omega)]
theorem hasB_snoc (xs : List Int) (a x : Int) : hasB (xs ++ [a]) x = (hasB xs x || (x == a)) := by
  simp only [hasB, List.contains_append, List.contains_cons, List.contains_nil, Bool.or_false]
theorem seT_succ {xs : List Int} {n k m : Nat} (hk : k < xs.length) (hm : xs.getD k 0 = (m : Int)) : (seT xs n k).set m (.bool true) = seT xs n (k + 1) := by
  apply List.ext_getElem?
  intro j
  have ht : xs.take (k + 1) = xs.take k ++ [(m : Int)] := by
    rw [List.take_succ_eq_append_getElem hk, show xs[k] = xs.getD k 0 by simp [List.getD, hk], hm]
  by_cases hj : j < n
  · rw [List.getElem?_set]
    by_cases e : m = j
    · subst e
      simp [seT, hj, ht, hasB_snoc]
    · rw [if_neg e]
      have : ((j : Int) == (m : Int)) = false := by simp; omega
      simp [seT, hj, ht, hasB_snoc, this]
  · rw [List.getElem?_eq_none (by rw [List.length_set, seT_len]; omega), List.getElem?_eq_none (by rw [seT_len]; omega)]
theorem seT_get {xs : List Int} {n j : Nat} (hj : j < n) : (seT xs n xs.length)[j]? = some (.bool (hasB xs j)) := by simp [seT, hj]
theorem ordI_bd {p s : Int} {n k : Nat} (hk : k < n) (h1 : 1 ≤ p) : ∃ m : Nat, (ordI p s n).getD k 0 = (m : Int) ∧ (m : Int) < p := by
  have r0 := Int.emod_nonneg (nearV p s k) (show p ≠ 0 by omega)
  have r1 := Int.emod_lt_of_pos (nearV p s k) (show 0 < p by omega)
  refine ⟨(nearV p s k % p).toNat, ?_, by omega⟩
  have : (ordI p s n).getD k 0 = nearV p s k % p := by simp [ordI, List.getD, hk]
  rw [this]; omega
theorem RI.setCell {w : World} {A : Option Addr} {n : Nat} {xs : List Int} (h : RI w A n xs) {p : Addr} (hp : ∀ b off, A = some ⟨b, off, none⟩ → p.block ≠ b) (u : Value) : RI (w.setCell p u) A n xs :=
  ⟨h.1, fun hn => by
    obtain ⟨b, off, e, hl, hc⟩ := h.2 hn
    refine ⟨b, off, e, by simpa [World.setCell] using hl, fun j hj => ?_⟩
    rw [World.cell?_setCell_other w p _ u (fun e1 => hp b off e (by rw [e1]))]
    exact hc j hj⟩
theorem info_bool : (Try.prog.info? 4).map (fun i => (i.zero, i.size, i.bytes)) = some (some (.bool false), 1, 1) := by kernel_rfl
theorem discOk_any (x y : Int) (w : World) :
    Calls Try.prog 60 #[.int .i64 x, .int .i64 y] w fun e w' => e = .returned (.bool (inB x 1 48 && inB y 1 48)) ∧ w = w' := by
  cases h : inB x 1 48 <;> cases h2 : inB y 1 48
  all_goals
    go_enter Try.func60, Try.ntmps60
    go_wp2_with (first | (go_at_call 47; refine (within_any _ _ _ _).mono ?_; rintro e w' ⟨rfl, rfl⟩) | (go_at_call 45; refine (l00In_any _ _ _ _).mono ?_; rintro e w' ⟨rfl, rfl⟩) | go_in)
    go_ret
    exact ⟨rfl, rfl⟩
theorem discOk_t {x y : Int} (h1 : inB x 1 48 = true) (h2 : inB y 1 48 = true) (w : World) :
    Calls Try.prog 60 #[.int .i64 x, .int .i64 y] w fun e w' => e = .returned (.bool true) ∧ w = w' := by
  have := discOk_any x y w
  rw [h1, h2] at this
  exact this
theorem l03Code_any (x y : Int) (w : World) :
    Calls Try.prog 58 #[.int .i64 x, .int .i64 y] w fun e w' => e = .returned (.int .i64 (if inB x 1 48 && inB y 1 48 then 0 else 2)) ∧ w = w' := by
  cases h : inB x 1 48 <;> cases h2 : inB y 1 48
  all_goals
    go_enter Try.func58, Try.ntmps58
    go_wp2_with (first | (go_at_call 47; refine (within_any _ _ _ _).mono ?_; rintro e w' ⟨rfl, rfl⟩) | (go_at_call 45; refine (l00In_any _ _ _ _).mono ?_; rintro e w' ⟨rfl, rfl⟩) | go_in)
    go_ret
    exact ⟨rfl, rfl⟩
theorem l03Code_t {x y : Int} (h1 : inB x 1 48 = true) (h2 : inB y 1 48 = true) (w : World) :
    Calls Try.prog 58 #[.int .i64 x, .int .i64 y] w fun e w' => e = .returned (.int .i64 0) ∧ w = w' := by
  have := l03Code_any x y w
  rw [h1, h2] at this
  exact this
set_option maxHeartbeats 2000000 in
theorem MissedPictures_walk (x y : Int) (w : World) (h1 : inB x 1 48 = true) (h2 : inB y 1 48 = true) :
    Calls Try.prog 34 #[.int .i64 x, .int .i64 y] w (SlC w.heap.size (msI (ordI x y y.toNat) x.toNat) 0 w) := by
  obtain ⟨i0, hi, hz0, hz1, hz2⟩ := info_parts info_int64
  obtain ⟨j0, hj, jz0, jz1, jz2⟩ := info_parts info_bool
  obtain ⟨x1, x2⟩ := inB_t h1
  obtain ⟨y1, y2⟩ := inB_t h2
  obtain ⟨X, rfl⟩ : ∃ X : Nat, x = X := ⟨x.toNat, by omega⟩
  rw [show (X : Int).toNat = X from rfl]
  have hol := ordI_len (X : Int) y y.toNat
  obtain ⟨n, hn⟩ : ∃ n, y.toNat = n := ⟨_, rfl⟩
  have hbd : ∀ k, k < n → ∃ m : Nat, (ordI (X : Int) y n).getD k 0 = (m : Int) ∧ (m : Int) < X := fun k hk => ordI_bd hk (by omega)
  have hc := seenOrder_any (X : Int) y
  rw [hn] at hol hc ⊢
  obtain ⟨os, hos⟩ : ∃ os, ordI (X : Int) y n = os := ⟨_, rfl⟩
  rw [hos] at hol hbd hc ⊢
  have HC := Lib.hid hc
  have HL := Lib.hid hol
  have HBD := Lib.hid hbd
  have hn48 : n ≤ 48 := by omega
  clear hol hbd hc hos hn
  go_enter Try.func34, Try.ntmps34
  go_wp2_with (first | (go_at_call 60; refine (discOk_t h1 h2 _).mono ?_; rintro e w' ⟨rfl, rfl⟩) | (at_make; refine wpList_make_full _ rfl _ _ 66 rfl w.heap.size 4 j0 (.bool false) 1 Try.underlying66 hj jz0 jz1 _ _ _ _ X rfl rfl rfl rfl (by rw [jz2]; omega) (by unfold maxLen; omega) (Nat.le_refl _) ?_; intro w1 hown hgrow))
  refine (HC.out _ (by omega) (by omega) (by omega) (by omega)).mono ?_
  rintro e w2 ⟨Ao, co, rfl, own2, hb2⟩
  rw [HL.out] at own2 ⊢
  have hb1 : Below w.heap.size w w1 := (Below.refl _ _).grown hgrow (Nat.le_refl _) (fun k hk => by cases hk)
  have hs1 : w1.ownsRow w.heap.size 4 1 (.slice (some ⟨w.heap.size, 0, none⟩) X X) X (seT os X 0) := by rw [seT_zero]; simpa [toList_madeCells_one, Value.cells] using hown
  have hlt1 : w.heap.size < w1.heap.size := (hs1.lt w.heap.size rfl).2
  have HB2 := Lib.hid (show Below w.heap.size w w2 from bl_tr (bl_al hb1 _) hb2)
  have HS2 := Lib.hid (own_below (hs1.alloc (.cells #[] 2)) hb2)
  have HO2 := Lib.hid (own_below (World.ownsRow_lit (e := 2) (size := 1) (base := w.heap.size + 1) w1 #[] 0 hlt1 (Nat.zero_le _) (by simp)) hb2)
  have HR2 := Lib.hid (RI.of_own own2)
  have HLB := Lib.hid (show ∀ b off, Ao = some ⟨b, off, none⟩ → w.heap.size < b from fun b off e => by have := (own_lt own2 b off e).1; simp at this; omega)
  clear own2 hb2 hb1 hs1 hown hgrow
  go_wp2
  go_loopw [9, 23] (fun _ i wr => ∃ k : Nat, k ≤ n ∧ i = .int .i64 k ∧ wr.ownsRow w.heap.size 4 1 (.slice (some ⟨w.heap.size, 0, none⟩) X X) X (seT os X k) ∧ wr.ownsRow (w.heap.size + 1) 2 1 (.slice (some ⟨w1.heap.size, 0, none⟩) 0 0) 0 [] ∧ RI wr Ao n os ∧ Below w.heap.size w wr) (fun _ i _ => n - (intOf i).toNat)
  case atStart => exact ⟨0, Nat.zero_le _, rfl, HS2.out, HO2.out, HR2.out, HB2.out⟩
  case round =>
    obtain ⟨k, hk, rfl, hs, ho, hr, hb⟩ := hrel
    have HS := Lib.hid hs
    have HO := Lib.hid ho
    have HR := Lib.hid hr
    have HB := Lib.hid hb
    clear hs ho hr hb
    by_cases hlt : k < n
    · obtain ⟨b1, o1, hAA, g1⟩ := HR.out.at_ hlt
      have hne := HLB.out b1 o1 hAA
      obtain ⟨m, hm, hmx⟩ := HBD.out k hlt
      rw [hm] at g1
      have hset := seT_succ (n := X) (by rw [HL.out]; exact hlt) hm
      have hst := HS.out.stored m (.bool true)
      rw [hset] at hst
      have hc2 : wr.cell? ⟨w.heap.size, m, none⟩ = some ((seT os X k)[m]'(by rw [seT_len]; omega)) := by rw [HS.out.cellAt m (by omega)]; exact List.getElem?_eq_getElem _
      have hf := HS.out.frozenAt m
      have HST := Lib.hid hst
      have HO3 := Lib.hid (ownsRow_setCell_other (a := ⟨w.heap.size, m, none⟩) HO.out (fun e => by have := (HO.out.lt _ e).1; simp at this; omega) (.bool true))
      have HR3 := Lib.hid (RI.setCell (p := ⟨w.heap.size, m, none⟩) HR.out (fun b off e => by have := HLB.out b off e; show w.heap.size ≠ b; omega) (.bool true))
      have HB3 := Lib.hid (HB.out.setCell (p := ⟨w.heap.size, m, none⟩) (Nat.le_refl _) (.bool true))
      subst hAA
      clear hset hst hm
      go_wp2
      go_roundw
      case rel => exact ⟨k + 1, by omega, by go_num, HST.out.1, HO3.out, HR3.out, HB3.out⟩
      case measure => simp [intOf]; omega
    · have e : k = n := by omega
      subst e
      go_wp2
      obtain ⟨wo, rfl⟩ : ∃ wo : World, wo = wr := ⟨_, rfl⟩
      go_loopw [7, 10, 11, 33] (fun v _ _ i wr => ∃ j : Nat, j ≤ X ∧ i = .int .i64 j ∧ wr.ownsRow w.heap.size 4 1 (.slice (some ⟨w.heap.size, 0, none⟩) X X) X (seT os X k) ∧ wr.ownsRow (w.heap.size + 1) 2 1 v (msI os j).length ((msI os j).map (Value.int .i64)) ∧ Below w.heap.size w wr) (fun _ _ _ i _ => X - (intOf i).toNat)
      case atStart => exact ⟨0, Nat.zero_le _, rfl, HS.out, HO.out, HB.out⟩
      case round =>
        obtain ⟨j, hj2, rfl, hs, ho, hb⟩ := hrel
        have HS3 := Lib.hid hs
        have HO3 := Lib.hid ho
        have HB3 := Lib.hid hb
        have hz := hb.size
        have hln := msI_len os j
        clear hs ho hb
        by_cases hlt2 : j < X
        · have hc2 := HS3.out.cellAt j (by omega)
          have hsg := seT_get (xs := os) hlt2
          rw [HL.out] at hsg
          rw [hsg] at hc2
          have hlw : w.heap.size < wr.heap.size := (HS3.out.lt w.heap.size rfl).2
          clear hsg
          cases hx : hasB os (j : Int)
          · rw [hx] at hc2
            have hsf := msI_f hx
            have hl1 : (msI os (j + 1)).length = (msI os j).length + 1 := by rw [hsf]; simp
            have HSF := Lib.hid hsf
            have HL1 := Lib.hid hl1
            clear hsf hl1
            go_wp2_with (at_builtin; refine wpList_append_own _ rfl _ _ 31 rfl (w.heap.size + 1) 2 i0 (.int .i64 0) 1 8 Try.underlying31 hi hz0 hz1 hz2 rfl (by decide) _ _ _ rfl (HO3.out.alloc _) ⟨wr.heap.size, 0, none⟩ 1 1 [.int .i64 (j : Int)] rfl rfl (cell_one_new _ _ _) (one_int _ _) (by unfold maxLen; omega) (by omega) (by simp; omega) ?_; intro v' w3 hown' hgrow _)
            have hb3 := (HB3.out.alloc hz (.cells #[.int .i64 (j : Int)] 2)).grown hgrow (by simp; omega) (fun q hq => Nat.le_trans (Nat.le_succ _) (HO3.out.lt q hq).1)
            have hs3 := (HS3.out.alloc (.cells #[.int .i64 (j : Int)] 2)).kept hgrow (.inr (fun e => by have := (HO3.out.lt w.heap.size (e.symm.trans rfl)).1; omega))
            go_roundw
            case rel => exact ⟨j + 1, by omega, by go_num, hs3, by rw [HL1.out, HSF.out, List.map_append]; exact hown', hb3⟩
            case measure => simp [intOf]; omega
          · rw [hx] at hc2
            have HSF := Lib.hid (msI_t hx)
            go_wp2
            go_roundw
            case rel => exact ⟨j + 1, by omega, by go_num, HS3.out, by rw [HSF.out]; exact HO3.out, HB3.out⟩
            case measure => simp [intOf]; omega
        · have e : j = X := by omega
          subst e
          go_wp2
          go_ret2
          obtain ⟨A1, c1, h1, h2, h3⟩ := SlR.mk rfl (HO3.out.mono (Nat.le_succ _)) HB3.out
          simp only [Ending.returned.injEq] at h1
          rw [h1]
          exact ⟨A1, c1, rfl, h2, h3⟩
set_option maxHeartbeats 2000000 in
theorem lMissed_walk (x y : Int) (w : World) (h1 : inB x 1 48 = true) (h2 : inB y 1 48 = true) :
    Calls Try.prog 33 #[.int .i64 x, .int .i64 y] w (SlC w.heap.size (msI (ordI x y y.toNat) x.toNat) 0 w) := by
  obtain ⟨i0, hi, hz0, hz1, hz2⟩ := info_parts info_int64
  obtain ⟨x1, x2⟩ := inB_t h1
  obtain ⟨y1, y2⟩ := inB_t h2
  obtain ⟨X, rfl⟩ : ∃ X : Nat, x = X := ⟨x.toNat, by omega⟩
  rw [show (X : Int).toNat = X from rfl]
  have hol := ordI_len (X : Int) y y.toNat
  obtain ⟨n, hn⟩ : ∃ n, y.toNat = n := ⟨_, rfl⟩
  have hc := l03Order_any (X : Int) y
  rw [hn] at hol hc ⊢
  obtain ⟨os, hos⟩ : ∃ os, ordI (X : Int) y n = os := ⟨_, rfl⟩
  rw [hos] at hol hc ⊢
  have HC := Lib.hid hc
  have HL := Lib.hid hol
  have hn48 : n ≤ 48 := by omega
  clear hol hc hos hn
  go_enter Try.func33, Try.ntmps33
  go_wp2_with (first | (go_at_call 58; refine (l03Code_t h1 h2 _).mono ?_; rintro e w' ⟨rfl, rfl⟩))
  refine (HC.out _ (by omega) (by omega) (by omega) (by omega)).mono ?_
  rintro e w2 ⟨Ao, co, rfl, own2, hb2⟩
  rw [HL.out] at own2 ⊢
  have HB2 := Lib.hid hb2
  have HR2 := Lib.hid (RI.of_own own2)
  have hz2' := hb2.size
  have HO2 := Lib.hid (World.ownsRow_lit (e := 2) (size := 1) (base := w2.heap.size) w2 #[] 0 (Nat.le_refl _) (Nat.zero_le _) (by simp))
  clear own2 hb2
  go_wp2
  go_loopw [8, 9] (fun v i wr => ∃ j : Nat, j ≤ X ∧ i = .int .i64 j ∧ wr.ownsRow w2.heap.size 2 1 v (msI os j).length ((msI os j).map (Value.int .i64)) ∧ Below w.heap.size w wr ∧ Below w2.heap.size w2 wr) (fun _ i _ => X - (intOf i).toNat)
  case atStart => exact ⟨0, Nat.zero_le _, rfl, HO2.out, HB2.out.alloc hz2' _, (Below.refl _ _).alloc (Nat.le_refl _) _⟩
  case round =>
    obtain ⟨j, hj2, rfl, ho, hb, hb2⟩ := hrel
    have HO3 := Lib.hid ho
    have HB3 := Lib.hid hb
    have HB4 := Lib.hid hb2
    have HR3 := Lib.hid (HR2.out.below hb2)
    have hz := hb.size
    have hzb := hb2.size
    have hln := msI_len os j
    clear ho hb hb2
    by_cases hlt2 : j < X
    · cases hx : hasB os (j : Int)
      · have hsf := msI_f hx
        have hl1 : (msI os (j + 1)).length = (msI os j).length + 1 := by rw [hsf]; simp
        have HSF := Lib.hid hsf
        have HL1 := Lib.hid hl1
        clear hsf hl1
        go_wp2_with (first | (go_at_call 62; refine (l00Has_any _ _ _ os _ _ (by omega) HR3.out).mono ?_; rintro e w' ⟨rfl, rfl⟩) | (at_builtin; refine wpList_append_own _ rfl _ _ 31 rfl w2.heap.size 2 i0 (.int .i64 0) 1 8 Try.underlying31 hi hz0 hz1 hz2 rfl (by decide) _ _ _ rfl (HO3.out.alloc _) ⟨wr.heap.size, 0, none⟩ 1 1 [.int .i64 (j : Int)] rfl rfl (cell_one_new _ _ _) (one_int _ _) (by unfold maxLen; omega) (by omega) (by simp; omega) ?_; intro v' w3 hown' hgrow _))
        have hb3 := (HB3.out.alloc hz (.cells #[.int .i64 (j : Int)] 2)).grown hgrow (by simp; omega) (fun q hq => Nat.le_trans hz2' (HO3.out.lt q hq).1)
        have hb4 := (HB4.out.alloc hzb (.cells #[.int .i64 (j : Int)] 2)).grown hgrow (by simp; omega) (fun q hq => (HO3.out.lt q hq).1)
        go_roundw
        case rel => exact ⟨j + 1, by omega, by go_num, by rw [HL1.out, HSF.out, List.map_append]; exact hown', hb3, hb4⟩
        case measure => simp [intOf]; omega
      · have HSF := Lib.hid (msI_t hx)
        go_wp2_with (first | (go_at_call 62; refine (l00Has_any _ _ _ os _ _ (by omega) HR3.out).mono ?_; rintro e w' ⟨rfl, rfl⟩))
        go_roundw
        case rel => exact ⟨j + 1, by omega, by go_num, by rw [HSF.out]; exact HO3.out, HB3.out, HB4.out⟩
        case measure => simp [intOf]; omega
    · have e : j = X := by omega
      subst e
      go_wp2
      go_ret2
      obtain ⟨A1, c1, h1, h2, h3⟩ := SlR.mk rfl (HO3.out.mono hz2') HB3.out
      simp only [Ending.returned.injEq] at h1
      rw [h1]
      exact ⟨A1, c1, rfl, h2, h3⟩
theorem MissedPictures_any (x y : Int) (w : World) :
    Calls Try.prog 34 #[.int .i64 x, .int .i64 y] w (SlC w.heap.size (mpX x y) (mpK x y) w) := by
  cases h0 : inB x 1 48 <;> cases h1 : inB y 1 48
  case true.true =>
    have e1 : mpX x y = msI (ordI x y y.toNat) x.toNat := by simp [mpX, h0, h1]
    have e2 : mpK x y = 0 := by simp [mpK, h0, h1]
    rw [e1, e2]
    exact MissedPictures_walk x y w h0 h1
  all_goals
    have e1 : mpX x y = [] := by simp [mpX, h0, h1]
    have e2 : mpK x y = 2 := by simp [mpK, h0, h1]
    rw [e1, e2]
    clear e1 e2
    go_enter Try.func34, Try.ntmps34
    go_wp2_with (go_at_call 60; refine (discOk_any _ _ _).mono ?_; rintro e w' ⟨rfl, rfl⟩)
    go_ret2
    exact SlC.none_ (Below.refl _ _)
theorem lMissedPictures_any (x y : Int) (w : World) :
    Calls Try.prog 33 #[.int .i64 x, .int .i64 y] w (SlC w.heap.size (mpX x y) (mpK x y) w) := by
  cases h0 : inB x 1 48 <;> cases h1 : inB y 1 48
  case true.true =>
    have e1 : mpX x y = msI (ordI x y y.toNat) x.toNat := by simp [mpX, h0, h1]
    have e2 : mpK x y = 0 := by simp [mpK, h0, h1]
    rw [e1, e2]
    exact lMissed_walk x y w h0 h1
  all_goals
    have e1 : mpX x y = [] := by simp [mpX, h0, h1]
    have e2 : mpK x y = 2 := by simp [mpK, h0, h1]
    rw [e1, e2]
    clear e1 e2
    go_enter Try.func33, Try.ntmps33
    go_wp2_with (go_at_call 58; refine (l03Code_any _ _ _).mono ?_; rintro e w' ⟨rfl, rfl⟩)
    go_ret2
    exact SlC.none_ (Below.refl _ _)
set_option maxHeartbeats 2000000 in
theorem law_MissedPictures (x : Int) (_wx : (Lit.int .i64 x).wf = true) (y : Int) (_wy : (Lit.int .i64 y).wf = true) (w : World) :
    Calls Try.prog 10 #[.int .i64 x, .int .i64 y] w fun e w' => e = .returned (.bool true) ∧ Below w.heap.size w w' := by
  have hn := mpX_le x y
  have hn2 : (mpX x y).length ≤ 1152921504606846976 := by omega
  go_enter Try.func10, Try.ntmps10
  go_wp2_with fail
  refine (lMissedPictures_any _ _ _).mono ?_
  rintro e w1 ⟨A0, c0, rfl, own0, hb0⟩
  have T1 : Below w.heap.size w w1 := by
    repeat (first | exact Below.refl _ _ | assumption | refine bl_drewN ?_ _ | refine Below.drew ?_ | refine bl_al ?_ _ | (refine Below.setCell ?_ (by simp <;> omega) _) | refine bl_tr ?_ (by assumption))
  have OWN0 := Lib.hid own0
  have R0 := Lib.hid (RI.of_own own0)
  have L0 := Lib.hid (own_lt own0)
  have U1 := Lib.hid T1
  clear own0 hb0 T1
  go_wp2_with fail
  refine (MissedPictures_any _ _ _).mono ?_
  rintro e w2 ⟨A1, c1, rfl, own1, hb1⟩
  have M1 := Lib.hid (show Below w1.heap.size w1 w2 from by
    repeat (first | exact Below.refl _ _ | assumption | refine bl_drewN ?_ _ | refine Below.drew ?_ | refine bl_al ?_ _ | (refine Below.setCell ?_ (by simp <;> omega) _) | refine bl_tr ?_ (by assumption)))
  have T2 : Below w.heap.size w w2 := bl_tr U1.out M1.out
  have OWN1 := Lib.hid own1
  have R1 := Lib.hid (RI.of_own own1)
  have R02 := Lib.hid (R0.out.below M1.out)
  have U2 := Lib.hid T2
  have LB := Lib.hid (show ∀ k, (Value.slice A1 (mpX x y).length c1).ownBlock = some k → w1.heap.size ≤ k from fun k hk => Nat.le_trans (by first | exact Nat.le_refl _ | (simp; omega) | (simp; done)) (own1.lt k hk).1)
  clear own1 hb1 T2
  go_wp2_with fail
  refine (eqInt64S_same _ _ _ _ _ (mpX x y) _ hn2 R1.out R02.out).mono ?_
  rintro e w' ⟨rfl, k1, rfl⟩
  go_wp2_with fail
  refine (markInt64S_any _ _ _ _ _ 1 _ hn2 (by omega) (by omega) (own_drewN OWN1.out _)).mono ?_
  rintro e w3 ⟨rfl, own3, hg3⟩
  have R13 := Lib.hid (RI.of_own own3)
  have T3 : Below w.heap.size w w3 := (bl_drewN U2.out _).grown hg3 U2.out.size (fun k hk => Nat.le_trans U1.out.size (LB.out k hk))
  have R03 := Lib.hid (RI.grown (R02.out.drewN k1) (fun b off hA => (L0.out b off hA).2) hg3 (fun k hk => LB.out k hk))
  have U3 := Lib.hid T3
  clear own3 hg3 T3
  have p1 : (0 : Int) ≤ 1 + ((mpX x y).length : Int) := by omega
  have p2 : (1 : Int) + ((mpX x y).length : Int) ≤ 2000000 := by omega
  go_wp2_with fail
  refine (heldInt64S_same _ _ _ 1 _ hn2 (by omega) (by omega) R13.out).mono ?_
  rintro e w' ⟨rfl, k2, rfl⟩
  go_wp2_with fail
  refine (MissedPictures_any _ _ _).mono ?_
  rintro e w4 ⟨A2, c2, rfl, own4, hb4⟩
  have M3 := Lib.hid (show Below w3.heap.size w3 w4 from by
    repeat (first | exact Below.refl _ _ | assumption | refine bl_drewN ?_ _ | refine Below.drew ?_ | refine bl_al ?_ _ | (refine Below.setCell ?_ (by simp <;> omega) _) | refine bl_tr ?_ (by assumption)))
  have U4 := Lib.hid (bl_tr U3.out M3.out)
  have R24 := Lib.hid (RI.of_own own4)
  have R04 := Lib.hid (R03.out.below M3.out)
  have R14 := Lib.hid (R13.out.below M3.out)
  clear own4 hb4
  go_wp2_with fail
  refine (eqInt64S_same _ _ _ _ _ (mpX x y) _ hn2 R24.out R04.out).mono ?_
  rintro e w' ⟨rfl, k3, rfl⟩
  go_wp2_with fail
  refine (heldInt64S_same _ _ _ 1 _ hn2 (by omega) (by omega) (R14.out.drewN k3)).mono ?_
  rintro e w' ⟨rfl, k4, rfl⟩
  go_wp2_with fail
  go_ret
  exact ⟨rfl, bl_drewN U4.out _⟩
end Go.Proofs.Ytdmiieijflochaa

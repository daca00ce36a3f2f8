/-
  PROVED HERE: contracts of the laws' own helpers over slices of points: size, copy, equality, marks, looking the marks up again; what a slice of points reads as. CONDITIONS: as each theorem names them.
-/
import Derived.Test.YtofjohkhhomldaaSl
import Derived.Laws.StructEq
namespace Go.Proofs.Ytofjohkhhomldaa
open Go.RowKit

abbrev Pnt := Int × Int
/-- The cells of points. -/
def flat (ps : List Pnt) : List Value := ps.flatMap fun p => [.int .i64 p.1, .int .i64 p.2]
theorem flat_nil : flat [] = [] := rfl
theorem flat_cons (p : Pnt) (ps : List Pnt) : flat (p :: ps) = .int .i64 p.1 :: .int .i64 p.2 :: flat ps := by simp [flat]
theorem flat_app (ps qs : List Pnt) : flat (ps ++ qs) = flat ps ++ flat qs := by simp [flat]
theorem flat_one (p : Pnt) : flat [p] = [.int .i64 p.1, .int .i64 p.2] := by simp [flat]
theorem flat_len (ps : List Pnt) : (flat ps).length = ps.length * 2 := by
  induction ps with
  | nil => rfl
  | cons p ps ih => rw [flat_cons, List.length_cons, List.length_cons, ih, List.length_cons]; omega
theorem flat_get0 : ∀ (ps : List Pnt) (k : Nat), k < ps.length → (flat ps)[k * 2]? = some (.int .i64 (ps.getD k (0, 0)).1)
  | [], k, h => absurd h (by simp)
  | p :: ps, 0, _ => by simp [flat_cons]
  | p :: ps, k + 1, h => by
    rw [flat_cons, show (k + 1) * 2 = k * 2 + 1 + 1 by omega, List.getElem?_cons_succ, List.getElem?_cons_succ, flat_get0 ps k (by simpa using h)]
    simp [List.getD]
theorem flat_get1 : ∀ (ps : List Pnt) (k : Nat), k < ps.length → (flat ps)[k * 2 + 1]? = some (.int .i64 (ps.getD k (0, 0)).2)
  | [], k, h => absurd h (by simp)
  | p :: ps, 0, _ => by simp [flat_cons]
  | p :: ps, k + 1, h => by
    rw [flat_cons, show (k + 1) * 2 + 1 = k * 2 + 1 + 1 + 1 by omega, List.getElem?_cons_succ, List.getElem?_cons_succ, flat_get1 ps k (by simpa using h)]
    simp [List.getD]
theorem flat_int (ps : List Pnt) : ∀ u ∈ flat ps, u.oneCell' = true := by
  intro u hu
  simp only [flat, List.mem_flatMap] at hu
  obtain ⟨p, _, hp⟩ := hu
  simp only [List.mem_cons, List.mem_nil_iff, or_false] at hp
  rcases hp with rfl | rfl <;> rfl

/-- The slice with this address and length reads as the points ps. -/
def PI (w : World) (A : Option Addr) (n : Nat) (ps : List Pnt) : Prop :=
  ps.length = n ∧ (0 < n → ∃ b off, A = some ⟨b, off, none⟩ ∧ b < w.heap.size ∧ ∀ j, j < n → w.cell? ⟨b, off + j * 2, none⟩ = some (.int .i64 (ps.getD j (0, 0)).1) ∧ w.cell? ⟨b, off + j * 2 + 1, none⟩ = some (.int .i64 (ps.getD j (0, 0)).2))
theorem PI.at_ {w : World} {A : Option Addr} {n : Nat} {ps : List Pnt} (h : PI w A n ps) {k : Nat} (hk : k < n) : ∃ b off, A = some ⟨b, off, none⟩ ∧ w.cell? ⟨b, off + k * 2, none⟩ = some (.int .i64 (ps.getD k (0, 0)).1) ∧ w.cell? ⟨b, off + k * 2 + 1, none⟩ = some (.int .i64 (ps.getD k (0, 0)).2) := by
  obtain ⟨b, off, e, _, hc⟩ := h.2 (by omega)
  exact ⟨b, off, e, hc k hk⟩
theorem PI.below {w w' : World} {A : Option Addr} {n : Nat} {ps : List Pnt} (h : PI w A n ps) (hb : Below w.heap.size w w') : PI w' A n ps :=
  ⟨h.1, fun hn => by
    obtain ⟨b, off, e, hl, hc⟩ := h.2 hn
    exact ⟨b, off, e, Nat.lt_of_lt_of_le hl hb.size, fun j hj => ⟨(hb.cell (p := ⟨b, off + j * 2, none⟩) hl).trans (hc j hj).1, (hb.cell (p := ⟨b, off + j * 2 + 1, none⟩) hl).trans (hc j hj).2⟩⟩⟩
theorem PI.drewN {w : World} {A : Option Addr} {n : Nat} {ps : List Pnt} (h : PI w A n ps) (k : Nat) : PI (w.drewN k) A n ps := h
theorem PI.alloc {w : World} {A : Option Addr} {n : Nat} {ps : List Pnt} (h : PI w A n ps) (o : Obj) : PI (w.alloc o) A n ps := h.below ((Below.refl _ _).alloc (Nat.le_refl _) o)
theorem PI.lt {w : World} {A : Option Addr} {n : Nat} {ps : List Pnt} (h : PI w A n ps) : 0 < n → ∀ b off, A = some ⟨b, off, none⟩ → b < w.heap.size := fun hn b off e => by
  obtain ⟨b1, o1, e1, hb, _⟩ := h.2 hn
  rw [e] at e1; injection e1 with e1; injection e1 with e1; omega
theorem PI.grown' {w w' : World} {A : Option Addr} {n : Nat} {ps : List Pnt} {row : Option Nat} {B : Nat} (h : PI w A n ps) (hB : 0 < n → ∀ b off, A = some ⟨b, off, none⟩ → b < B) (hg : w.grownBy w' row) (hr : ∀ k, row = some k → B ≤ k) : PI w' A n ps :=
  ⟨h.1, fun hn => by
    obtain ⟨b, off, e, hl, hc⟩ := h.2 hn
    refine ⟨b, off, e, Nat.lt_of_lt_of_le hl hg.size, fun j hj => ?_⟩
    have hne : some b ≠ row := fun e1 => by have := hr b e1.symm; have := hB hn b off e; omega
    exact ⟨(World.cell?_of_block (a := ⟨b, off + j * 2, none⟩) (hg.block b hl hne)).trans (hc j hj).1, (World.cell?_of_block (a := ⟨b, off + j * 2 + 1, none⟩) (hg.block b hl hne)).trans (hc j hj).2⟩⟩
theorem PI.of_own {w : World} {base e : Nat} {A : Option Addr} {n c : Nat} {ps : List Pnt} (h : w.ownsRow base e 2 (.slice A n c) n (flat ps)) : PI w A n ps := by
  have hl : ps.length = n := by have := h.1; rw [flat_len] at this; omega
  refine ⟨hl, fun hn => ?_⟩
  obtain ⟨g, cap, hv, _, hlt⟩ := h.form hn
  have hA : A = some ⟨g, 0, none⟩ := by injection hv
  subst hA
  refine ⟨g, 0, rfl, hlt, fun j hj => ⟨?_, ?_⟩⟩
  · have := h.cells (g := g) rfl (j * 2) _ (flat_get0 ps j (by omega))
    simpa [Addr.add_lit] using this
  · have := h.cells (g := g) rfl (j * 2 + 1) _ (flat_get1 ps j (by omega))
    simpa [Addr.add_lit, Nat.add_assoc] using this
theorem ownP_lt {w : World} {base e : Nat} {A : Option Addr} {n c : Nat} {xs : List Value} (h : w.ownsRow base e 2 (.slice A n c) n xs) : ∀ b off, A = some ⟨b, off, none⟩ → base ≤ b ∧ b < w.heap.size :=
  fun b off hA => h.lt b (by subst hA; rfl)
/-- A slice of its own that reads as ps is handed back. -/
def PlR (B : Nat) (ps : List Pnt) (w : World) (e : Ending) (w' : World) : Prop :=
  ∃ A c, e = .returned (.slice A ps.length c) ∧ w'.ownsRow B 61 2 (.slice A ps.length c) ps.length (flat ps) ∧ Below B w w'
theorem PlR.mk {B n : Nat} {ps : List Pnt} {w w' : World} {v : Value} (hn : ps.length = n) (ho : w'.ownsRow B 61 2 v n (flat ps)) (hb : Below B w w') : PlR B ps w (.returned v) w' := by
  subst hn
  rcases ho.2 with ⟨rfl, h0⟩ | ⟨g, cap, cur, rfl, _⟩
  · rw [h0] at ho
    have : ps = [] := List.eq_nil_of_length_eq_zero h0
    subst this
    exact ⟨none, 0, rfl, ho, hb⟩
  · exact ⟨_, _, rfl, ho, hb⟩
/-- A slice of its own that reads as ps is handed back, with a code. -/
def PlC (B : Nat) (ps : List Pnt) (code : Int) (w : World) (e : Ending) (w' : World) : Prop :=
  ∃ A c, e = .returned (.tuple #[.slice A ps.length c, .int .i64 code]) ∧ w'.ownsRow B 61 2 (.slice A ps.length c) ps.length (flat ps) ∧ Below B w w'
theorem PlC.none_ {B : Nat} {code : Int} {w w' : World} (hb : Below B w w') : PlC B [] code w (.returned (.tuple #[.slice none 0 0, .int .i64 code])) w' := ⟨none, 0, rfl, World.ownsRow_nil _ _ _ _, hb⟩
theorem info_Point : (Try.prog.info? 61).map (fun i => (i.zero, i.size, i.bytes)) = some (some (.agg #[.int .i64 0, .int .i64 0]), 2, 16) := by kernel_rfl
/-- There is no room for them. -/
theorem szP_no (A : Option Addr) (n c : Nat) (left : Int) (w : World) (hn : n ≤ maxLen) (h0 : 0 ≤ left) (h1 : left ≤ 1048576) (h : left < n) :
    Calls Try.prog 13 #[.slice A n c, .int .i64 left] w fun e w' => e = .returned (.int .i64 (-1)) ∧ w = w' := by
  unfold maxLen at hn
  have hd : decide (left - (n : Int) < 0) = true := by simp; omega
  go_enter Try.func13, Try.ntmps13
  go_wp2
  go_ret
  exact ⟨rfl, rfl⟩
/-- There is room. -/
theorem szP_yes (A : Option Addr) (n c : Nat) (left : Int) (w : World) (h : (n : Int) ≤ left) (h1 : left ≤ 1048576) :
    Calls Try.prog 13 #[.slice A n c, .int .i64 left] w fun e w' => e = .returned (.int .i64 (left - n)) ∧ w = w' := by
  have hd : decide (left - (n : Int) < 0) = false := by simp; omega
  go_enter Try.func13, Try.ntmps13
  go_wp2
  go_ret
  exact ⟨rfl, rfl⟩
theorem toPoint_any (x y : Int) (w : World) :
    Calls Try.prog 49 #[.agg #[.int .i64 x, .int .i64 y]] w fun e w' => e = .returned (.agg #[.int .i64 x, .int .i64 y]) ∧ ∃ c1 c2 c3 : Array Value, w' = ((w.alloc (.cells c1 63)).alloc (.cells c2 61)).alloc (.cells c3 61) := by
  go_enter Try.func49, Try.ntmps49
  go_wp2
  simp [bodyPost, results, Try.results49, go_sem]
  exact ⟨_, _, _, rfl⟩
theorem eqPoint_any (x y : Int) (w : World) :
    Calls Try.prog 51 #[.agg #[.int .i64 x, .int .i64 y], .agg #[.int .i64 x, .int .i64 y]] w fun e w' => e = .returned (.bool true) ∧ ∃ (c1 c2 : Array Value) (k : Nat), w' = ((w.alloc (.cells c1 61)).alloc (.cells c2 61)).drewN k := by
  go_enter Try.func51, Try.ntmps51
  go_wp2_with (go_quiet (fail))
  go_ret
  exact ⟨rfl, _, _, 0, rfl⟩
/-- A copy that is k points far. -/
def cpP (ps : List Pnt) (n k : Nat) : List Value := flat (ps.take k) ++ List.replicate ((n - k) * 2) (.int .i64 0)
theorem cpP_zero (ps : List Pnt) (n : Nat) : cpP ps n 0 = List.replicate (n * 2) (.int .i64 0) := by simp [cpP, flat_nil]
theorem cpP_all (ps : List Pnt) (n : Nat) (h : ps.length = n) : cpP ps n n = flat ps := by simp [cpP, ← h]
theorem cpP_len {ps : List Pnt} {n k : Nat} (h : ps.length = n) (hk : k ≤ n) : (cpP ps n k).length = n * 2 := by
  rw [cpP, List.length_append, flat_len, List.length_replicate, List.length_take]; omega
theorem cpP_succ {ps : List Pnt} {n k : Nat} (h : ps.length = n) (hk : k < n) : ((cpP ps n k).set (k * 2) (.int .i64 (ps.getD k (0, 0)).1)).set (k * 2 + 1) (.int .i64 (ps.getD k (0, 0)).2) = cpP ps n (k + 1) := by
  have hl : (flat (ps.take k)).length = k * 2 := by rw [flat_len, List.length_take]; omega
  have e1 : (n - k) * 2 = (n - (k + 1)) * 2 + 1 + 1 := by omega
  have e2 : ps.take (k + 1) = ps.take k ++ [ps.getD k (0, 0)] := by
    rw [List.take_succ_eq_append_getElem (by omega)]; simp [List.getD, show k < ps.length by omega]
  unfold cpP
  rw [e1, List.replicate_succ, List.replicate_succ, List.set_append_right _ _ (by omega), hl, Nat.sub_self, List.set_cons_zero, List.set_append_right _ _ (by omega), hl, show k * 2 + 1 - k * 2 = 1 by omega, List.set_cons_succ, List.set_cons_zero, e2, flat_app, flat_one, List.append_assoc]
  rfl
/-- Marks in points. -/
def mkP (k0 : Int) (n : Nat) : List Pnt := (List.range n).map fun (j : Nat) => (k0 + ((j * 2 : Nat) : Int), k0 + ((j * 2 + 1 : Nat) : Int))
theorem mkP_len (k0 : Int) (n : Nat) : (mkP k0 n).length = n := by simp [mkP]
theorem mkP_get (k0 : Int) (n j : Nat) (h : j < n) : (mkP k0 n).getD j (0, 0) = (k0 + ((j * 2 : Nat) : Int), k0 + ((j * 2 + 1 : Nat) : Int)) := by simp [mkP, List.getD, h]
theorem mkTo_flat (xs : List Value) (k0 : Int) (n : Nat) (h : xs.length = n * 2) : mkTo xs k0 (n * 2) = flat (mkP k0 n) := by
  apply List.ext_getElem?
  intro j
  by_cases hj : j < n * 2
  · rw [mkTo_get xs k0 (n * 2) j (by omega), if_pos hj]
    rcases Nat.mod_two_eq_zero_or_one j with e | e
    · obtain ⟨q, rfl⟩ : ∃ q, j = q * 2 := ⟨j / 2, by omega⟩
      rw [flat_get0 _ q (by rw [mkP_len]; omega), mkP_get k0 n q (by omega)]
    · obtain ⟨q, rfl⟩ : ∃ q, j = q * 2 + 1 := ⟨j / 2, by omega⟩
      rw [flat_get1 _ q (by rw [mkP_len]; omega), mkP_get k0 n q (by omega)]
  · rw [List.getElem?_eq_none (by rw [mkTo_len]; omega), List.getElem?_eq_none (by rw [flat_len, mkP_len]; omega)]
theorem made_two (n : Nat) : (madeCells #[Value.int .i64 0, .int .i64 0] (n * 2)).toList = List.replicate (n * 2) (.int .i64 0) := by
  apply List.ext_getElem?
  intro j
  by_cases hj : j < n * 2
  · rcases Nat.mod_two_eq_zero_or_one j with e | e <;> simp [madeCells, hj, e]
  · rw [List.getElem?_eq_none (by simp [madeCells]; omega), List.getElem?_eq_none (by simp; omega)]
set_option maxHeartbeats 1000000 in
theorem toPointS_any (A : Option Addr) (n c : Nat) (ps : List Pnt) (w : World) (hn : n ≤ 1048576) (hA : PI w A n ps) :
    Calls Try.prog 15 #[.slice A n c] w (PlR w.heap.size ps w) := by
  have hl := hA.1
  obtain ⟨i0, hi, hz0, hz1, hz2⟩ := info_parts info_Point
  have HA := Lib.hid hA
  have HL := Lib.hid hl
  clear hA hl
  go_enter Try.func15, Try.ntmps15
  go_wp2_with (at_make; refine wpList_make_full _ rfl _ _ 25 rfl w.heap.size 61 i0 (.agg #[.int .i64 0, .int .i64 0]) 2 Try.underlying25 hi hz0 hz1 _ _ _ _ n rfl rfl rfl rfl (by rw [hz2]; omega) (by unfold maxLen; omega) (Nat.le_refl _) ?_; intro w1 hown hgrow)
  have hb1 : Below w.heap.size w w1 := (Below.refl _ _).grown hgrow (Nat.le_refl _) (fun k hk => by cases hk)
  have ho1 : w1.ownsRow w.heap.size 61 2 (.slice (some ⟨w.heap.size, 0, none⟩) n n) n (cpP ps n 0) := by rw [cpP_zero, ← made_two]; simpa [Value.cells] using hown
  have HO1 := Lib.hid ho1
  have HB1 := Lib.hid hb1
  clear ho1 hb1 hown hgrow
  go_loopw [4] (fun i wr => ∃ k : Nat, k ≤ n ∧ i = .int .i64 k ∧ wr.ownsRow w.heap.size 61 2 (.slice (some ⟨w.heap.size, 0, none⟩) n n) n (cpP ps n k) ∧ Below w.heap.size w wr) (fun i _ => n - (intOf i).toNat)
  case atStart => exact ⟨0, Nat.zero_le _, rfl, HO1.out, HB1.out⟩
  case round =>
    obtain ⟨k, hk, rfl, ho, hb⟩ := hrel
    have HO := Lib.hid ho
    have HB := Lib.hid hb
    clear ho hb
    by_cases hlt : k < n
    · obtain ⟨b1, o1, hAA, h1, h2⟩ := (HA.out.below HB.out).at_ hlt
      subst hAA
      have hc2 : wr.cell? ⟨w.heap.size, k * 2, none⟩ = some ((cpP ps n k)[k * 2]'(by rw [cpP_len HL.out hk]; omega)) := by rw [HO.out.cellAt (k * 2) (by omega)]; exact List.getElem?_eq_getElem _
      have hc3 : wr.cell? ⟨w.heap.size, k * 2 + 1, none⟩ = some ((cpP ps n k)[k * 2 + 1]'(by rw [cpP_len HL.out hk]; omega)) := by rw [HO.out.cellAt (k * 2 + 1) (by omega)]; exact List.getElem?_eq_getElem _
      have hf2 := HO.out.frozenAt (k * 2)
      have hf3 := HO.out.frozenAt (k * 2 + 1)
      have hz : w.heap.size < wr.heap.size := World.block_lt_of_cell? wr _ hc2
      have hz2 : w.heap.size < wr.heap.size + 1 := by omega
      have hz3 : w.heap.size < wr.heap.size + 1 + 1 := by omega
      have hcs := cpP_succ HL.out hlt
      obtain ⟨x, hx⟩ : ∃ x, x = (ps.getD k (0, 0)).1 := ⟨_, rfl⟩
      obtain ⟨y, hy⟩ : ∃ y, y = (ps.getD k (0, 0)).2 := ⟨_, rfl⟩
      rw [← hx] at h1 hcs
      rw [← hy] at h2 hcs
      have HCS := Lib.hid hcs
      clear hx hy hcs
      go_wp2_with (go_at_call 49; refine (toPoint_any _ _ _).mono ?_; rintro e w' ⟨rfl, o1, o2, o3, rfl⟩)
      go_roundw
      case rel =>
        have s1 := HO.out.stored (k * 2) (.int .i64 x)
        have s2 := s1.1.stored (k * 2 + 1) (.int .i64 y)
        rw [HCS.out] at s2
        exact ⟨k + 1, by omega, by go_num, ((s2.1.alloc _).alloc _).alloc _, bl_al (bl_al (bl_al ((HB.out.setCell (p := ⟨w.heap.size, k * 2, none⟩) (Nat.le_refl _) _).setCell (p := ⟨w.heap.size, k * 2 + 1, none⟩) (Nat.le_refl _) _) _) _) _⟩
      case measure => simp [intOf]; omega
    · go_wp2
      go_ret
      have e : k = n := by omega
      subst e
      exact PlR.mk HL.out (by rw [← cpP_all ps k HL.out]; exact HO.out) HB.out
set_option maxHeartbeats 1000000 in
theorem eqPointS_same (A B : Option Addr) (n ca cb : Nat) (ps : List Pnt) (w : World) (hn : n ≤ 1152921504606846976) (hA : PI w A n ps) (hB : PI w B n ps) :
    Calls Try.prog 17 #[.slice A n ca, .slice B n cb] w fun e w' => e = .returned (.bool true) ∧ Below w.heap.size w w' := by
  have HA := Lib.hid hA
  have HB := Lib.hid hB
  clear hA hB
  go_enter Try.func17, Try.ntmps17
  go_wp2
  go_loopw [5] (fun i wr => ∃ k : Nat, k ≤ n ∧ i = .int .i64 k ∧ Below w.heap.size w wr) (fun i _ => n - (intOf i).toNat)
  case atStart => exact ⟨0, Nat.zero_le _, rfl, Below.refl _ _⟩
  case round =>
    obtain ⟨k, hk, rfl, hb⟩ := hrel
    have HBW := Lib.hid hb
    clear hb
    by_cases hlt : k < n
    · obtain ⟨b1, o1, rfl, h1, h1'⟩ := (HA.out.below HBW.out).at_ hlt
      obtain ⟨b2, o2, rfl, h2, h2'⟩ := (HB.out.below HBW.out).at_ hlt
      obtain ⟨x, hx⟩ : ∃ x, x = (ps.getD k (0, 0)).1 := ⟨_, rfl⟩
      obtain ⟨y, hy⟩ : ∃ y, y = (ps.getD k (0, 0)).2 := ⟨_, rfl⟩
      rw [← hx] at h1 h2
      rw [← hy] at h1' h2'
      clear hx hy
      go_wp2
      go_region_held3 (fun w' => (w'.cell? ⟨b1, o1 + k * 2, none⟩ = some (.int .i64 x) ∧ w'.cell? ⟨b1, o1 + k * 2 + 1, none⟩ = some (.int .i64 y)) ∧ w'.cell? ⟨b2, o2 + k * 2, none⟩ = some (.int .i64 x) ∧ w'.cell? ⟨b2, o2 + k * 2 + 1, none⟩ = some (.int .i64 y)) (((try dsimp only); (refine ⟨⟨?_, ?_⟩, ?_, ?_⟩ <;> (with_reducible (repeat (first | assumption | refine keepD ?_ | refine keepN ?_ _ | refine keepA ?_))))))
        (first | (go_at_call 51; refine (eqPoint_any _ _ _).mono ?_; rintro e w' ⟨rfl, o1, o2, k1, rfl⟩))
      go_wp2
      go_roundw
      case rel => exact ⟨k + 1, by omega, by go_num, bl_drewN (bl_al (bl_al HBW.out _) _) _⟩
      case measure => simp [intOf]; omega
    · go_wp2
      go_ret
      exact ⟨rfl, HBW.out⟩
set_option maxHeartbeats 1000000 in
theorem markPointS_any (base : Nat) (A : Option Addr) (n c : Nat) (xs : List Value) (k0 : Int) (w : World) (hn : n ≤ 1152921504606846976) (hk0 : 0 ≤ k0) (hk1 : k0 ≤ 1152921504606846976) (hown : w.ownsRow base 61 2 (.slice A n c) n xs) :
    Calls Try.prog 24 #[.slice A n c, .int .i64 k0] w fun e w' => e = .returned (.int .i64 (k0 + (n * 2 : Nat))) ∧ w'.ownsRow base 61 2 (.slice A n c) n (flat (mkP k0 n)) ∧ w.grownBy w' (Value.slice A n c).ownBlock := by
  have HO := Lib.hid hown
  have hl : xs.length = n * 2 := by simpa using hown.1
  have HL := Lib.hid hl
  clear hown hl
  go_enter Try.func24, Try.ntmps24
  go_wp2
  go_loopw [1, 5] (fun q i wr => ∃ k : Nat, k ≤ n ∧ i = .int .i64 k ∧ q = .int .i64 (k0 + (k * 2 : Nat)) ∧ wr.ownsRow base 61 2 (.slice A n c) n (mkTo xs k0 (k * 2)) ∧ w.grownBy wr (Value.slice A n c).ownBlock) (fun _ i _ => n - (intOf i).toNat)
  case atStart => exact ⟨0, Nat.zero_le _, rfl, by simp, HO.out, World.grownBy.refl _ _⟩
  case round =>
    obtain ⟨k, hk, rfl, rfl, ho, hg⟩ := hrel
    have HO2 := Lib.hid ho
    have HG := Lib.hid hg
    clear ho hg
    by_cases hlt : k < n
    · obtain ⟨g, cap, hv, _, _⟩ := HO2.out.form (by omega)
      obtain ⟨rfl, rfl⟩ : A = some ⟨g, 0, none⟩ ∧ c = cap := by injection hv; exact ⟨by assumption, by assumption⟩
      have hf := HO2.out.frozenAt (k * 2)
      have hf3 := HO2.out.frozenAt (k * 2 + 1)
      have hc2 : wr.cell? ⟨g, k * 2, none⟩ = some ((mkTo xs k0 (k * 2))[k * 2]'(by rw [mkTo_len, HL.out]; omega)) := by rw [HO2.out.cellAt (k * 2) (by omega)]; exact List.getElem?_eq_getElem _
      have hc3 : wr.cell? ⟨g, k * 2 + 1, none⟩ = some ((mkTo xs k0 (k * 2))[k * 2 + 1]'(by rw [mkTo_len, HL.out]; omega)) := by rw [HO2.out.cellAt (k * 2 + 1) (by omega)]; exact List.getElem?_eq_getElem _
      have hst := HO2.out.stored (k * 2) (.int .i64 (k0 + (k * 2 : Nat)))
      have hst' := hst.1.stored (k * 2 + 1) (.int .i64 (k0 + (k * 2 : Nat) + 1))
      have hmk : ((mkTo xs k0 (k * 2)).set (k * 2) (.int .i64 (k0 + (k * 2 : Nat)))).set (k * 2 + 1) (.int .i64 (k0 + (k * 2 : Nat) + 1)) = mkTo xs k0 ((k + 1) * 2) := by
        rw [show (k + 1) * 2 = k * 2 + 1 + 1 by omega, mkTo, mkTo, show k0 + ((k * 2 + 1 : Nat) : Int) = k0 + ((k * 2 : Nat) : Int) + 1 by omega]
      rw [hmk] at hst'
      have HS := Lib.hid (show _ ∧ _ from ⟨hst'.1, grown_trans (grown_trans HG.out hst.2) hst'.2⟩)
      clear hst hst' hmk
      go_wp2
      go_roundw
      case rel => exact ⟨k + 1, by omega, by go_num, by go_num, HS.out.1, HS.out.2⟩
      case measure => simp [intOf]; omega
    · go_wp2
      go_ret
      have e : k = n := by omega
      subst e
      exact ⟨rfl, by rw [← mkTo_flat xs k0 k HL.out]; exact HO2.out, HG.out⟩
set_option maxHeartbeats 1000000 in
theorem heldPointS_same (A : Option Addr) (n c : Nat) (k0 : Int) (w : World) (hn : n ≤ 1152921504606846976) (hk0 : 0 ≤ k0) (hk1 : k0 ≤ 1152921504606846976) (hA : PI w A n (mkP k0 n)) :
    Calls Try.prog 25 #[.slice A n c, .int .i64 k0] w fun e w' => e = .returned (.int .i64 (k0 + (n * 2 : Nat))) ∧ ∃ k, w' = w.drewN k := by
  have HA := Lib.hid hA
  clear hA
  go_enter Try.func25, Try.ntmps25
  go_wp2
  go_loopw [1, 5] (fun q i wr => ∃ k m : Nat, k ≤ n ∧ i = .int .i64 k ∧ q = .int .i64 (k0 + (k * 2 : Nat)) ∧ wr = w.drewN m) (fun _ i _ => n - (intOf i).toNat)
  case atStart => exact ⟨0, 0, Nat.zero_le _, rfl, by simp, rfl⟩
  case round =>
    obtain ⟨k, m, hk, rfl, rfl, rfl⟩ := hrel
    by_cases hlt : k < n
    · obtain ⟨b1, o1, rfl, h1, h2⟩ := HA.out.at_ hlt
      rw [mkP_get k0 n k hlt] at h1 h2
      rw [show k0 + ((k * 2 + 1 : Nat) : Int) = k0 + ((k * 2 : Nat) : Int) + 1 by omega] at h2
      go_wp2
      go_roundw
      case rel => exact ⟨k + 1, m, by omega, by go_num, by go_num, rfl⟩
      case measure => simp [intOf]; omega
    · go_wp2
      go_ret
      have e : k = n := by omega
      subst e
      exact ⟨rfl, _, rfl⟩
end Go.Proofs.Ytofjohkhhomldaa

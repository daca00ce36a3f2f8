/-
  PROVED HERE: contracts of the laws' own helpers over slices of slices of ints: equality, marks, looking the marks up again; rows that the call makes. CONDITIONS: as each theorem names them.
-/
import Derived.Test.YticdilgnjnnaiaaTouch
namespace Go.Proofs.Yticdilgnjnnaiaa
open Go.RowKit

theorem info_Q : (Try.prog.info? 22).map (fun i => (i.zero, i.size, i.bytes)) = some (some (.slice none 0 0), 1, 24) := by kernel_rfl
abbrev Qrd (xss : List (List Int)) (j : Nat) : List Int := xss.getD j []
/-- How many rows and things there are. -/
def Qbulk (xss : List (List Int)) : Nat := xss.length + (xss.map fun r => r.length).sum
/-- How many marks they take. -/
def Qcnt (xss : List (List Int)) : Nat := (xss.map fun r => r.length * 1).sum
theorem Qbulk_len (xss : List (List Int)) : xss.length ≤ Qbulk xss := by unfold Qbulk; omega
theorem Qcnt_eq (xss : List (List Int)) : Qcnt xss = (xss.map fun r => r.length).sum * 1 := by
  unfold Qcnt
  induction xss with
  | nil => rfl
  | cons x xs ih => simp only [List.map_cons, List.sum_cons, ih]; omega
theorem Qcnt_le (xss : List (List Int)) : Qcnt xss ≤ Qbulk xss * 1 := by rw [Qcnt_eq]; unfold Qbulk; omega
theorem Qsum_le (xss : List (List Int)) (k : Nat) : ((xss.take k).map fun r => r.length).sum ≤ (xss.map fun r => r.length).sum := by
  conv => rhs; rw [← List.take_append_drop k xss]
  rw [List.map_append, List.sum_append]; omega
theorem Qsum_take (xss : List (List Int)) (k : Nat) (h : k < xss.length) : ((xss.take (k + 1)).map fun r => r.length).sum = ((xss.take k).map fun r => r.length).sum + (Qrd xss k).length := by
  rw [List.take_succ_eq_append_getElem h, List.map_append, List.sum_append]
  simp [Qrd, List.getD, h]
theorem Qcnt_take (xss : List (List Int)) (k : Nat) (h : k < xss.length) : Qcnt (xss.take (k + 1)) = Qcnt (xss.take k) + (Qrd xss k).length * 1 := by
  rw [Qcnt_eq, Qcnt_eq, Qsum_take xss k h]; omega
theorem Qcnt_take_le (xss : List (List Int)) (k : Nat) : Qcnt (xss.take k) ≤ Qcnt xss := by
  rw [Qcnt_eq, Qcnt_eq]
  have := Qsum_le xss k
  omega
theorem Qlen_le (xss : List (List Int)) (k : Nat) (h : k < xss.length) : (Qrd xss k).length ≤ Qbulk xss := by
  have h1 := Qsum_take xss k h
  have h2 := Qsum_le xss (k + 1)
  unfold Qbulk; omega
/-- The slice with this address and length reads as the rows xss; all its blocks lie below hi. -/
def RWQ (w : World) (hi : Nat) (A : Option Addr) (n : Nat) (xss : List (List Int)) : Prop :=
  xss.length = n ∧ (0 < n → ∃ b off, A = some ⟨b, off, none⟩ ∧ b < hi ∧ ∀ j, j < n →
    ∃ Aj cj, w.cell? ⟨b, off + j, none⟩ = some (.slice Aj (Qrd xss j).length cj) ∧ AI w hi Aj (Qrd xss j).length (Qrd xss j))
section
variable {w w' : World} {hi n : Nat} {A : Option Addr} {xss : List (List Int)}
theorem RWQ.at_ (h : RWQ w hi A n xss) {k : Nat} (hk : k < n) : ∃ b off Aj cj, A = some ⟨b, off, none⟩ ∧ b < hi ∧ b < w.heap.size ∧ w.cell? ⟨b, off + k, none⟩ = some (.slice Aj (Qrd xss k).length cj) ∧ AI w hi Aj (Qrd xss k).length (Qrd xss k) := by
  obtain ⟨b, off, e, hb, hc⟩ := h.2 (by omega)
  obtain ⟨Aj, cj, c2, hp⟩ := hc k hk
  exact ⟨b, off, Aj, cj, e, hb, World.block_lt_of_cell? w _ c2, c2, hp⟩
theorem RWQ.below (h : RWQ w hi A n xss) (hb : Below w.heap.size w w') : RWQ w' hi A n xss :=
  ⟨h.1, fun hn => by
    obtain ⟨b, off, e, hl, hc⟩ := h.2 hn
    refine ⟨b, off, e, hl, fun j hj => ?_⟩
    obtain ⟨Aj, cj, c2, hp⟩ := hc j hj
    exact ⟨Aj, cj, bcell_of hb c2, hp.below hb⟩⟩
theorem RWQ.drewN (h : RWQ w hi A n xss) (k : Nat) : RWQ (w.drewN k) hi A n xss := h
end
/-- The cells of rows; As, Cs: where each one lies. -/
def Qrc (As : Nat → Option Addr) (Cs : Nat → Nat) (xss : List (List Int)) : List Value := (List.range xss.length).map fun j => .slice (As j) (Qrd xss j).length (Cs j)
theorem Qrc_len (As : Nat → Option Addr) (Cs : Nat → Nat) (xss : List (List Int)) : (Qrc As Cs xss).length = xss.length := by simp [Qrc]
theorem Qrc_get (As : Nat → Option Addr) (Cs : Nat → Nat) (xss : List (List Int)) {j : Nat} (h : j < xss.length) : (Qrc As Cs xss)[j]? = some (.slice (As j) (Qrd xss j).length (Cs j)) := by simp [Qrc, h]
def Qupd {α : Type} (f : Nat → α) (n : Nat) (a : α) : Nat → α := fun j => if j = n then a else f j
theorem Qupd_at {α : Type} (f : Nat → α) (n : Nat) (a : α) : Qupd f n a n = a := by simp [Qupd]
theorem Qupd_lt {α : Type} (f : Nat → α) (n : Nat) (a : α) {j : Nat} (h : j < n) : Qupd f n a j = f j := by unfold Qupd; rw [if_neg (by omega)]
theorem Qrd_snoc_lt {xss : List (List Int)} {x : List Int} {j : Nat} (h : j < xss.length) : Qrd (xss ++ [x]) j = Qrd xss j := by simp [Qrd, List.getD, h, List.getElem?_append_left h]
theorem Qrd_snoc (xss : List (List Int)) (x : List Int) : Qrd (xss ++ [x]) xss.length = x := by simp [Qrd, List.getD]
theorem Qrc_snoc (As : Nat → Option Addr) (Cs : Nat → Nat) (xss : List (List Int)) (x : List Int) (A : Option Addr) (c : Nat) : Qrc (Qupd As xss.length A) (Qupd Cs xss.length c) (xss ++ [x]) = Qrc As Cs xss ++ [.slice A x.length c] := by
  unfold Qrc
  rw [List.length_append, List.length_singleton, List.range_succ, List.map_append]
  congr 1
  · refine List.map_congr_left fun j hj => ?_
    have ha := List.mem_range.1 hj
    rw [Qrd_snoc_lt ha, Qupd_lt _ _ _ ha, Qupd_lt _ _ _ ha]
  · simp only [List.map_cons, List.map_nil, Qrd_snoc, Qupd_at]
theorem Qtake_rd {xss : List (List Int)} {k : Nat} (h : k < xss.length) : xss.take (k + 1) = xss.take k ++ [Qrd xss k] := by
  rw [List.take_succ_eq_append_getElem h]; simp [Qrd, List.getD, h]
structure OWQf (w : World) (lo hi : Nat) (A : Option Addr) (n c : Nat) (As : Nat → Option Addr) (Cs : Nat → Nat) (xss : List (List Int)) : Prop where
  len : xss.length = n
  row : w.ownsRow lo 22 1 (.slice A n c) n (Qrc As Cs xss)
  top : ∀ k, (Value.slice A n c).ownBlock = some k → k < hi
  inn : ∀ j, j < n → OI w lo hi (As j) (Qrd xss j).length (Cs j) (Qrd xss j)
  far : ∀ i j, i < n → j < n → i ≠ j → ∀ g, (As i).map Addr.block = some g → (As j).map Addr.block ≠ some g
/-- A slice of rows whose blocks lie in a range, the call's own. -/
def OWQ (w : World) (lo hi : Nat) (A : Option Addr) (n c : Nat) (xss : List (List Int)) : Prop := ∃ As Cs, OWQf w lo hi A n c As Cs xss
theorem Qown_blk (A : Option Addr) (n c : Nat) : (Value.slice A n c).ownBlock = A.map Addr.block := by cases A <;> rfl
section
variable {w w' : World} {lo hi B1 B2 n c : Nat} {A : Option Addr} {xss : List (List Int)}
theorem OWQ.below (h : OWQ w lo hi A n c xss) (hb : Below w.heap.size w w') : OWQ w' lo hi A n c xss := by
  obtain ⟨As, Cs, h⟩ := h
  exact ⟨As, Cs, h.len, own_below h.row hb, h.top, fun j hj => (h.inn j hj).below hb, h.far⟩
theorem OWQ.drewN (h : OWQ w lo hi A n c xss) (k : Nat) : OWQ (w.drewN k) lo hi A n c xss := by
  obtain ⟨As, Cs, h⟩ := h
  exact ⟨As, Cs, h.len, own_drewN h.row k, h.top, fun j hj => (h.inn j hj).drewN k, h.far⟩
theorem OWQ.touch (h : OWQ w lo hi A n c xss) (t : Touch B1 B2 w w') (ho : hi ≤ B1 ∨ B2 ≤ lo) : OWQ w' lo hi A n c xss := by
  obtain ⟨As, Cs, h⟩ := h
  exact ⟨As, Cs, h.len, own_touch h.row h.top t ho, h.top, fun j hj => (h.inn j hj).touch t ho, h.far⟩
theorem OWQf.kr {As : Nat → Option Addr} {Cs : Nat → Nat} (h : OWQf w lo hi A n c As Cs xss) : RWQ w hi A n xss := by
  refine ⟨h.len, fun hn => ?_⟩
  obtain ⟨g, cap, hv, _, hlt⟩ := h.row.form hn
  have hA : A = some ⟨g, 0, none⟩ := by injection hv
  subst hA
  refine ⟨g, 0, rfl, h.top g rfl, fun j hj => ?_⟩
  have hg := Qrc_get As Cs xss (j := j) (by rw [h.len]; exact hj)
  have c1 := h.row.cells (g := g) rfl j _ hg
  refine ⟨As j, Cs j, by simpa [Addr.add_lit] using c1, (h.inn j hj).ri, fun _ b off e => ?_⟩
  exact (h.inn j hj).2 b (by rw [Qown_blk, e]; rfl)
theorem OWQ.ki (h : OWQ w lo hi A n c xss) : RWQ w hi A n xss := by
  obtain ⟨As, Cs, h⟩ := h
  exact h.kr
theorem OWQ.mk (h : OWQ w lo w.heap.size A n c xss) : OWQ w lo w.heap.size A n c xss := h
theorem OWQ.nil (w : World) (lo hi : Nat) : OWQ w lo hi none 0 0 [] := ⟨fun _ => none, fun _ => 0, rfl, World.ownsRow_nil _ _ _ _, (fun k hk => by cases hk), (fun j hj => absurd hj (by omega)), (fun i j hi => absurd hi (by omega))⟩
end
/-- A slice of rows of its own that reads as xss is handed back, with a code. -/
def WCQ (B : Nat) (xss : List (List Int)) (code : Int) (w : World) (e : Ending) (w' : World) : Prop :=
  ∃ A c, e = .returned (.tuple #[.slice A xss.length c, .int .i64 code]) ∧ OWQ w' B w'.heap.size A xss.length c xss ∧ Below B w w'
theorem WCQ.none_ {B : Nat} {code : Int} {w w' : World} (hb : Below B w w') : WCQ B [] code w (.returned (.tuple #[.slice none 0 0, .int .i64 code])) w' := ⟨none, 0, rfl, OWQ.nil _ _ _, hb⟩
/-- Rows and what lies in them never share a block. -/
theorem Qapart {w : World} {B B' n m s s' : Nat} {u v : Value} {xs ys : List Value} (h : w.ownsRow B 22 s u n xs) (h' : w.ownsRow B' 2 s' v m ys) : ∀ g, u.ownBlock = some g → v.ownBlock ≠ some g := by
  intro g h1 h2
  rcases h.2 with ⟨e1, _⟩ | ⟨g1, _, _, e1, _, hh1, _⟩
  · rw [e1] at h1; cases h1
  · rcases h'.2 with ⟨e2, _⟩ | ⟨g2, _, _, e2, _, hh2, _⟩
    · rw [e2] at h2; cases h2
    · rw [e1] at h1
      rw [e2] at h2
      have b1 : g1 = g := by injection h1
      have b2 : g2 = g := by injection h2
      subst b1
      subst b2
      rw [hh1] at hh2
      injection hh2 with hh2
      injection hh2 with _ ht
      exact absurd ht (by decide)
/-- The first k rows, each in a block of its own. -/
structure NWQ (w : World) (lo : Nat) (As : Nat → Option Addr) (Cs : Nat → Nat) (xss : List (List Int)) (k : Nat) : Prop where
  inn : ∀ j, j < k → OI w lo w.heap.size (As j) (Qrd xss j).length (Cs j) (Qrd xss j)
  far : ∀ i j, i < k → j < k → i ≠ j → ∀ g, (As i).map Addr.block = some g → (As j).map Addr.block ≠ some g
theorem OI.wide_ {w : World} {lo hi hi' n c : Nat} {A : Option Addr} {ps : List Int} (h : OI w lo hi A n c ps) (hh : hi ≤ hi') : OI w lo hi' A n c ps := ⟨h.1, fun k hk => Nat.lt_of_lt_of_le (h.2 k hk) hh⟩
theorem NWQ.zero (w : World) (lo : Nat) (As : Nat → Option Addr) (Cs : Nat → Nat) (xss : List (List Int)) : NWQ w lo As Cs xss 0 := ⟨fun _ h => absurd h (by omega), fun _ _ h => absurd h (by omega)⟩
theorem NWQ.below {w w' : World} {lo : Nat} {As : Nat → Option Addr} {Cs : Nat → Nat} {xss : List (List Int)} {k : Nat} (h : NWQ w lo As Cs xss k) (hb : Below w.heap.size w w') : NWQ w' lo As Cs xss k := ⟨fun j hj => ((h.inn j hj).below hb).wide_ hb.size, h.far⟩
theorem NWQ.drewN {w : World} {lo : Nat} {As : Nat → Option Addr} {Cs : Nat → Nat} {xss : List (List Int)} {k : Nat} (h : NWQ w lo As Cs xss k) (m : Nat) : NWQ (w.drewN m) lo As Cs xss k := ⟨fun j hj => (h.inn j hj).drewN m, h.far⟩
theorem NWQ.grown {w w' : World} {lo e : Nat} {As : Nat → Option Addr} {Cs : Nat → Nat} {xss : List (List Int)} {k : Nat} (h : NWQ w lo As Cs xss k) {n : Nat} {v : Value} {xs : List Value} {size : Nat} (hv : w.ownsRow e 22 size v n xs) (hg : w.grownBy w' v.ownBlock) : NWQ w' lo As Cs xss k :=
  ⟨fun j hj => OI.wide_ ⟨(h.inn j hj).1.kept hg (by
    cases hb : (Value.slice (As j) (Qrd xss j).length (Cs j)).ownBlock with
    | none => exact .inl rfl
    | some b => exact .inr fun hx => Qapart hv (h.inn j hj).1 b hx.symm hb), (h.inn j hj).2⟩ hg.size, h.far⟩
theorem NWQ.succ {w w' : World} {lo : Nat} {As : Nat → Option Addr} {Cs : Nat → Nat} {xss : List (List Int)} {k : Nat} {A : Option Addr} {c : Nat} (h : NWQ w lo As Cs xss k) (hb : Below w.heap.size w w') (hlo : lo ≤ w.heap.size)
    (hown : w'.ownsRow w.heap.size 2 1 (.slice A (Qrd xss k).length c) (Qrd xss k).length (List.map (Value.int .i64) (Qrd xss k))) : NWQ w' lo (Qupd As k A) (Qupd Cs k c) xss (k + 1) := by
  constructor
  · intro j hj
    by_cases e : j = k
    · subst e
      rw [Qupd_at, Qupd_at]
      exact OI.mk (hown.mono hlo)
    · rw [Qupd_lt _ _ _ (by omega), Qupd_lt _ _ _ (by omega)]
      exact (h.below hb).inn j (by omega)
  · intro i j hi hj hne g
    by_cases e : i = k
    · subst e
      rw [Qupd_at, Qupd_lt _ _ _ (by omega)]
      intro h1 h2
      have a1 := (hown.lt g (by rw [Qown_blk]; exact h1)).1
      have a2 := (h.inn j (by omega)).2 g (by rw [Qown_blk]; exact h2)
      omega
    · by_cases e2 : j = k
      · subst e2
        rw [Qupd_at, Qupd_lt _ _ _ (by omega)]
        intro h1 h2
        have a1 := (hown.lt g (by rw [Qown_blk]; exact h2)).1
        have a2 := (h.inn i (by omega)).2 g (by rw [Qown_blk]; exact h1)
        omega
      · rw [Qupd_lt _ _ _ (by omega), Qupd_lt _ _ _ (by omega)]
        exact h.far i j (by omega) (by omega) hne g
theorem NWQ.ok {w : World} {lo n c : Nat} {A : Option Addr} {As : Nat → Option Addr} {Cs : Nat → Nat} {xss : List (List Int)} (hl : xss.length = n) (ho : w.ownsRow lo 22 1 (.slice A n c) n (Qrc As Cs xss)) (hi : NWQ w lo As Cs xss n) : OWQ w lo w.heap.size A n c xss :=
  ⟨As, Cs, hl, ho, fun k hk => (ho.lt k hk).2, hi.inn, hi.far⟩
set_option maxHeartbeats 2000000 in
theorem eqInt64SS_same {hi hi' : Nat} (A B : Option Addr) (n ca cb : Nat) (xss : List (List Int)) (w : World) (hn : Qbulk xss ≤ 1152921504606846976) (hA : RWQ w hi A n xss) (hB : RWQ w hi' B n xss) :
    Calls Try.prog 25 #[.slice A n ca, .slice B n cb] w fun e w' => e = .returned (.bool true) ∧ Below w.heap.size w w' := by
  have HL := Lib.hid hA.1
  have HN := Lib.hid hn
  have hn2 : n ≤ 1152921504606846976 := by have := Qbulk_len xss; have := hA.1; omega
  have HA := Lib.hid hA
  have HB := Lib.hid hB
  clear hA hB hn
  go_enter Try.func25, Try.ntmps25
  go_wp2
  go_loopw [5] (fun i wr => ∃ k : Nat, k ≤ n ∧ i = .int .i64 k ∧ Below w.heap.size w wr) (fun i _ => n - (intOf i).toNat)
  case atStart => exact ⟨0, Nat.zero_le _, rfl, Below.refl _ _⟩
  case round =>
    obtain ⟨k, hk, rfl, hb⟩ := hrel
    have HBW := Lib.hid hb
    clear hb
    by_cases hlt : k < n
    · obtain ⟨b1, o1, A1, c1, hAA, _, hbl1, g1, hp1⟩ := (HA.out.below HBW.out).at_ hlt
      obtain ⟨b2, o2, A2, c2, hBB, _, hbl2, g3, hp2⟩ := (HB.out.below HBW.out).at_ hlt
      subst hAA
      subst hBB
      have hkl : (Qrd xss k).length ≤ 1152921504606846976 := Nat.le_trans (Qlen_le xss k (by rw [HL.out]; exact hlt)) HN.out
      obtain ⟨ps, hx⟩ : ∃ p, p = Qrd xss k := ⟨_, rfl⟩
      rw [← hx] at g1 g3 hp1 hp2 hkl
      have HP1 := Lib.hid hp1
      have HP2 := Lib.hid hp2
      clear hx hp1 hp2
      go_wp2
      go_region_held3 (fun w' => w'.cell? ⟨b1, o1 + k, none⟩ = some (.slice A1 ps.length c1) ∧ w'.cell? ⟨b2, o2 + k, none⟩ = some (.slice A2 ps.length c2)) (((try dsimp only); (refine ⟨?_, ?_⟩ <;> (first | ((with_reducible (repeat (first | assumption | refine keepD ?_ | refine keepN ?_ _ | refine keepA ?_))); done) | (refine bcell_of hb1 ?_; with_reducible (repeat (first | assumption | refine keepD ?_ | refine keepN ?_ _ | refine keepA ?_)); done)))))
        (first | (go_at_call 14; refine (eqInt64S_same _ _ _ _ _ ps _ hkl (HP1.out.ri.drewN _) (HP2.out.ri.drewN _)).mono ?_; rintro e w' ⟨rfl, k1, rfl⟩))
      go_wp2
      go_roundw
      case rel => exact ⟨k + 1, by omega, by go_num, (by first | exact bl_drewN (bl_drewN HBW.out _) _ | exact bl_drewN HBW.out _)⟩
      case measure => simp [intOf]; omega
    · go_wp2
      go_ret
      exact ⟨rfl, HBW.out⟩
/-- The first k rows marked. -/
def midQ (k0 : Int) (xss : List (List Int)) (k : Nat) : List (List Int) := (List.range xss.length).map fun j => if j < k then mkI (k0 + (Qcnt (xss.take j) : Nat)) (Qrd xss j).length else Qrd xss j
/-- All rows marked. -/
def mkQQ (k0 : Int) (xss : List (List Int)) : List (List Int) := midQ k0 xss xss.length
theorem midQ_len (k0 : Int) (xss : List (List Int)) (k : Nat) : (midQ k0 xss k).length = xss.length := by simp [midQ]
theorem mkQQ_len (k0 : Int) (xss : List (List Int)) : (mkQQ k0 xss).length = xss.length := midQ_len _ _ _
theorem midQ_rd (k0 : Int) (xss : List (List Int)) (k j : Nat) (h : j < xss.length) : Qrd (midQ k0 xss k) j = if j < k then mkI (k0 + (Qcnt (xss.take j) : Nat)) (Qrd xss j).length else Qrd xss j := by
  simp [Qrd, midQ, List.getD, h]
theorem midQ_ge (k0 : Int) (xss : List (List Int)) {k j : Nat} (h : j < xss.length) (hj : ¬ j < k) : Qrd (midQ k0 xss k) j = Qrd xss j := by rw [midQ_rd _ _ _ _ h, if_neg hj]
theorem midQ_same (k0 : Int) (xss : List (List Int)) {k j : Nat} (h : j < xss.length) (hj : j ≠ k) : Qrd (midQ k0 xss (k + 1)) j = Qrd (midQ k0 xss k) j := by
  rw [midQ_rd _ _ _ _ h, midQ_rd _ _ _ _ h]
  by_cases h1 : j < k
  · rw [if_pos h1, if_pos (by omega)]
  · rw [if_neg h1, if_neg (by omega)]
theorem midQ_at (k0 : Int) (xss : List (List Int)) {k : Nat} (h : k < xss.length) : Qrd (midQ k0 xss (k + 1)) k = mkI (k0 + (Qcnt (xss.take k) : Nat)) (Qrd xss k).length := by rw [midQ_rd _ _ _ _ h, if_pos (by omega)]
theorem midQ_jl (k0 : Int) (xss : List (List Int)) {k j : Nat} (h : j < xss.length) : (Qrd (midQ k0 xss k) j).length = (Qrd xss j).length := by
  rw [midQ_rd _ _ _ _ h]
  split
  · rw [mkI_len]
  · rfl
theorem midQ_zero (k0 : Int) (xss : List (List Int)) : midQ k0 xss 0 = xss := by
  apply List.ext_getElem
  · rw [midQ_len]
  · intro j h1 h2
    simp [midQ, Qrd, List.getD, h2]
theorem Qrc_mid (As : Nat → Option Addr) (Cs : Nat → Nat) (k0 : Int) (xss : List (List Int)) (k : Nat) : Qrc As Cs (midQ k0 xss k) = Qrc As Cs xss := by
  unfold Qrc
  rw [midQ_len]
  refine List.map_congr_left fun j hj => ?_
  rw [midQ_jl k0 xss (List.mem_range.1 hj)]
set_option maxHeartbeats 4000000 in
theorem markInt64SS_any (lo hi : Nat) (A : Option Addr) (n c : Nat) (k0 : Int) (xss : List (List Int)) (w : World) (hn : Qbulk xss ≤ 10000000) (hk0 : 0 ≤ k0) (hk1 : k0 ≤ 1000000000) (hown : OWQ w lo hi A n c xss) :
    Calls Try.prog 26 #[.slice A n c, .int .i64 k0] w fun e w' => e = .returned (.int .i64 (k0 + (Qcnt xss : Nat))) ∧ OWQ w' lo hi A n c (mkQQ k0 xss) ∧ Touch lo hi w w' := by
  obtain ⟨As, Cs, hok⟩ := hown
  have HL := Lib.hid hok.len
  have HN := Lib.hid hn
  have hn2 : n ≤ 1152921504606846976 := by have := Qbulk_len xss; have := hok.len; omega
  have HO := Lib.hid (show OWQf w lo hi A n c As Cs (midQ k0 xss 0) from by rw [midQ_zero]; exact hok)
  clear hok hn
  go_enter Try.func26, Try.ntmps26
  go_wp2
  go_loopw [1, 5] (fun q i wr => ∃ k : Nat, k ≤ n ∧ i = .int .i64 k ∧ q = .int .i64 (k0 + (Qcnt (xss.take k) : Nat)) ∧ OWQf wr lo hi A n c As Cs (midQ k0 xss k) ∧ Touch lo hi w wr) (fun _ i _ => n - (intOf i).toNat)
  case atStart => exact ⟨0, Nat.zero_le _, rfl, by simp [Qcnt], HO.out, Touch.refl _ _ _⟩
  case round =>
    obtain ⟨k, hk, rfl, rfl, ho, ht⟩ := hrel
    have HO2 := Lib.hid ho
    have HT := Lib.hid ht
    clear ho ht
    by_cases hlt : k < n
    · have hkl : k < xss.length := by rw [HL.out]; exact hlt
      obtain ⟨g, cap, hv, _, _⟩ := HO2.out.row.form (by omega)
      obtain ⟨rfl, rfl⟩ : A = some ⟨g, 0, none⟩ ∧ c = cap := by injection hv; exact ⟨by assumption, by assumption⟩
      clear hv
      have hkf := Qrc_get As Cs (midQ k0 xss k) (j := k) (by rw [midQ_len]; exact hkl)
      rw [midQ_jl _ _ hkl] at hkf
      have hc3 : wr.cell? ⟨g, k, none⟩ = some (.slice (As k) (Qrd xss k).length (Cs k)) := by rw [HO2.out.row.cellAt k (by omega)]; exact hkf
      have hct := Qcnt_take xss k hkl
      have hcl : Qcnt (xss.take k) ≤ Qbulk xss * 1 := Nat.le_trans (Qcnt_take_le xss k) (Qcnt_le xss)
      have hcn := HN.out
      have hml : (Qrd xss k).length ≤ 1152921504606846976 := Nat.le_trans (Qlen_le xss k hkl) (by omega)
      have hin := HO2.out.inn k hlt
      rw [midQ_ge k0 xss hkl (by omega)] at hin
      obtain ⟨K, hK⟩ : ∃ K : Nat, K = Qcnt (xss.take k) := ⟨_, rfl⟩
      obtain ⟨m, hm⟩ : ∃ m : Nat, m = (Qrd xss k).length := ⟨_, rfl⟩
      rw [← hK] at hct hcl ⊢
      rw [← hm] at hc3 hct hml hin
      have HIO := Lib.hid hin
      have HK := Lib.hid hK
      have HM := Lib.hid hm
      have HCT := Lib.hid hct
      have hKb : (K : Int) ≤ 20000000 := by omega
      clear hkf hin hK hm hct hcn hcl
      go_wp2_with fail
      refine (markInt64S_any lo _ _ _ _ _ _ hml (by omega) (by omega) HIO.out.1).mono ?_
      rintro e w2 ⟨rfl, own2, hg2⟩
      have HG2 := Lib.hid hg2
      have HW2 := Lib.hid own2
      clear own2 hg2
      go_wp2
      go_roundw
      case rel =>
        have hblk : ∀ q, (Value.slice (As k) m (Cs k)).ownBlock = some q → lo ≤ q ∧ q < hi := fun q hq => ⟨(HIO.out.1.lt q hq).1, HIO.out.2 q hq⟩
        have t1 : Touch lo hi wr w2 := Touch.of_grown HG2.out hblk
        have hrow : w2.ownsRow lo 22 1 (.slice (some ⟨g, 0, none⟩) n c) n (Qrc As Cs (midQ k0 xss k)) := HO2.out.row.kept HG2.out (.inr fun e => Qapart HO2.out.row HIO.out.1 g rfl e.symm)
        rw [Qrc_mid, ← Qrc_mid As Cs k0 xss (k + 1)] at hrow
        refine ⟨k + 1, by omega, by go_num, by rw [HCT.out]; go_num, ⟨by rw [midQ_len]; exact HL.out, hrow, HO2.out.top, fun j hj => ?_, HO2.out.far⟩, HT.out.trans t1⟩
        have hjl : j < xss.length := by rw [HL.out]; exact hj
        by_cases e : j = k
        · subst e
          rw [midQ_at k0 xss hjl, ← HK.out, ← HM.out, mkI_len]
          exact ⟨HW2.out, HIO.out.2⟩
        · rw [midQ_same k0 xss hjl e]
          have hj0 := HO2.out.inn j hj
          refine ⟨hj0.1.kept HG2.out ?_, hj0.2⟩
          rw [Qown_blk, Qown_blk]
          cases hb : (As j).map Addr.block with
          | none => exact .inl rfl
          | some q => exact .inr fun e2 => HO2.out.far j k hj hlt e q hb e2.symm
      case measure => simp [intOf]; omega
    · go_wp2
      go_ret
      have e : k = n := by omega
      have hl := HL.out
      subst e
      subst hl
      rw [List.take_length]
      exact ⟨rfl, ⟨As, Cs, HO2.out⟩, HT.out⟩
set_option maxHeartbeats 2000000 in
theorem heldInt64SS_same {hi : Nat} (xss : List (List Int)) (A : Option Addr) (n c : Nat) (k0 : Int) (w : World) (hn : Qbulk xss ≤ 10000000) (hk0 : 0 ≤ k0) (hk1 : k0 ≤ 1000000000) (hA : RWQ w hi A n (mkQQ k0 xss)) :
    Calls Try.prog 27 #[.slice A n c, .int .i64 k0] w fun e w' => e = .returned (.int .i64 (k0 + (Qcnt xss : Nat))) ∧ ∃ k, w' = w.drewN k := by
  have hl : xss.length = n := by have := hA.1; rw [mkQQ, midQ_len] at this; exact this
  have HL := Lib.hid hl
  have HN := Lib.hid hn
  have hn2 : n ≤ 1152921504606846976 := by have := Qbulk_len xss; omega
  have HA := Lib.hid hA
  clear hA hn hl
  go_enter Try.func27, Try.ntmps27
  go_wp2
  go_loopw [1, 5] (fun q i wr => ∃ k m : Nat, k ≤ n ∧ i = .int .i64 k ∧ q = .int .i64 (k0 + (Qcnt (xss.take k) : Nat)) ∧ wr = w.drewN m) (fun _ i _ => n - (intOf i).toNat)
  case atStart => exact ⟨0, 0, Nat.zero_le _, rfl, by simp [Qcnt], rfl⟩
  case round =>
    obtain ⟨k, m, hk, rfl, rfl, rfl⟩ := hrel
    by_cases hlt : k < n
    · have hkl : k < xss.length := by rw [HL.out]; exact hlt
      obtain ⟨b1, o1, A1, c1, hAA, _, hbl1, g2, hp1⟩ := HA.out.at_ hlt
      subst hAA
      rw [mkQQ, midQ_rd _ _ _ _ hkl, if_pos hkl] at g2 hp1
      rw [mkI_len] at g2 hp1
      have hct := Qcnt_take xss k hkl
      have hcl : Qcnt (xss.take k) ≤ Qbulk xss * 1 := Nat.le_trans (Qcnt_take_le xss k) (Qcnt_le xss)
      have hcn := HN.out
      have hml : (Qrd xss k).length ≤ 1152921504606846976 := Nat.le_trans (Qlen_le xss k hkl) (by omega)
      obtain ⟨K, hK⟩ : ∃ K : Nat, K = Qcnt (xss.take k) := ⟨_, rfl⟩
      obtain ⟨q, hq⟩ : ∃ q : Nat, q = (Qrd xss k).length := ⟨_, rfl⟩
      rw [← hK] at hct hcl hp1 ⊢
      rw [← hq] at hct hml g2 hp1
      have HCT := Lib.hid hct
      have HP := Lib.hid hp1
      have hKb : (K : Int) ≤ 20000000 := by omega
      have hnn : decide (k0 + (K : Int) + (q : Int) < 0) = false := by simp; omega
      clear hK hq hct hp1 hcn hcl
      go_wp2_with fail
      refine (heldInt64S_same _ _ _ _ _ hml (by omega) (by omega) (HP.out.ri.drewN _)).mono ?_
      rintro e w' ⟨rfl, d1, rfl⟩
      go_wp2
      go_roundw
      case rel => exact ⟨k + 1, _, by omega, by go_num, by rw [HCT.out]; go_num, rfl⟩
      case measure => simp [intOf]; omega
    · go_wp2
      go_ret
      have e : k = n := by omega
      have hl := HL.out
      subst e
      subst hl
      rw [List.take_length]
      exact ⟨rfl, _, rfl⟩
end Go.Proofs.Yticdilgnjnnaiaa

/-
  PROVED HERE: contracts of the laws' own helpers over slices of slices of points: equality, marks, looking the marks up again; rows that the call makes. CONDITIONS: as each theorem names them.
-/
import Derived.Test.YtofjohkhhomldaaTouch
namespace Go.Proofs.Ytofjohkhhomldaa
open Go.RowKit

theorem info_P : (Try.prog.info? 25).map (fun i => (i.zero, i.size, i.bytes)) = some (some (.slice none 0 0), 1, 24) := by kernel_rfl
abbrev Prd (xss : List (List Pnt)) (j : Nat) : List Pnt := xss.getD j []
/-- How many rows and things there are. -/
def Pbulk (xss : List (List Pnt)) : Nat := xss.length + (xss.map fun r => r.length).sum
/-- How many marks they take. -/
def Pcnt (xss : List (List Pnt)) : Nat := (xss.map fun r => r.length * 2).sum
theorem Pbulk_len (xss : List (List Pnt)) : xss.length ≤ Pbulk xss := by unfold Pbulk; omega
theorem Pcnt_eq (xss : List (List Pnt)) : Pcnt xss = (xss.map fun r => r.length).sum * 2 := by
  unfold Pcnt
  induction xss with
  | nil => rfl
  | cons x xs ih => simp only [List.map_cons, List.sum_cons, ih]; omega
theorem Pcnt_le (xss : List (List Pnt)) : Pcnt xss ≤ Pbulk xss * 2 := by rw [Pcnt_eq]; unfold Pbulk; omega
theorem Psum_le (xss : List (List Pnt)) (k : Nat) : ((xss.take k).map fun r => r.length).sum ≤ (xss.map fun r => r.length).sum := by
  conv => rhs; rw [← List.take_append_drop k xss]
  rw [List.map_append, List.sum_append]; omega
theorem Psum_take (xss : List (List Pnt)) (k : Nat) (h : k < xss.length) : ((xss.take (k + 1)).map fun r => r.length).sum = ((xss.take k).map fun r => r.length).sum + (Prd xss k).length := by
  rw [List.take_succ_eq_append_getElem h, List.map_append, List.sum_append]
  simp [Prd, List.getD, h]
theorem Pcnt_take (xss : List (List Pnt)) (k : Nat) (h : k < xss.length) : Pcnt (xss.take (k + 1)) = Pcnt (xss.take k) + (Prd xss k).length * 2 := by
  rw [Pcnt_eq, Pcnt_eq, Psum_take xss k h]; omega
theorem Pcnt_take_le (xss : List (List Pnt)) (k : Nat) : Pcnt (xss.take k) ≤ Pcnt xss := by
  rw [Pcnt_eq, Pcnt_eq]
  have := Psum_le xss k
  omega
theorem Plen_le (xss : List (List Pnt)) (k : Nat) (h : k < xss.length) : (Prd xss k).length ≤ Pbulk xss := by
  have h1 := Psum_take xss k h
  have h2 := Psum_le xss (k + 1)
  unfold Pbulk; omega
/-- The slice with this address and length reads as the rows xss; all its blocks lie below hi. -/
def RWP (w : World) (hi : Nat) (A : Option Addr) (n : Nat) (xss : List (List Pnt)) : Prop :=
  xss.length = n ∧ (0 < n → ∃ b off, A = some ⟨b, off, none⟩ ∧ b < hi ∧ ∀ j, j < n →
    ∃ Aj cj, w.cell? ⟨b, off + j, none⟩ = some (.slice Aj (Prd xss j).length cj) ∧ AP w hi Aj (Prd xss j).length (Prd xss j))
section
variable {w w' : World} {hi n : Nat} {A : Option Addr} {xss : List (List Pnt)}
theorem RWP.at_ (h : RWP w hi A n xss) {k : Nat} (hk : k < n) : ∃ b off Aj cj, A = some ⟨b, off, none⟩ ∧ b < hi ∧ b < w.heap.size ∧ w.cell? ⟨b, off + k, none⟩ = some (.slice Aj (Prd xss k).length cj) ∧ AP w hi Aj (Prd xss k).length (Prd xss k) := by
  obtain ⟨b, off, e, hb, hc⟩ := h.2 (by omega)
  obtain ⟨Aj, cj, c2, hp⟩ := hc k hk
  exact ⟨b, off, Aj, cj, e, hb, World.block_lt_of_cell? w _ c2, c2, hp⟩
theorem RWP.below (h : RWP w hi A n xss) (hb : Below w.heap.size w w') : RWP w' hi A n xss :=
  ⟨h.1, fun hn => by
    obtain ⟨b, off, e, hl, hc⟩ := h.2 hn
    refine ⟨b, off, e, hl, fun j hj => ?_⟩
    obtain ⟨Aj, cj, c2, hp⟩ := hc j hj
    exact ⟨Aj, cj, bcell_of hb c2, hp.below hb⟩⟩
theorem RWP.drewN (h : RWP w hi A n xss) (k : Nat) : RWP (w.drewN k) hi A n xss := h
end
/-- The cells of rows; As, Cs: where each one lies. -/
def Prc (As : Nat → Option Addr) (Cs : Nat → Nat) (xss : List (List Pnt)) : List Value := (List.range xss.length).map fun j => .slice (As j) (Prd xss j).length (Cs j)
theorem Prc_len (As : Nat → Option Addr) (Cs : Nat → Nat) (xss : List (List Pnt)) : (Prc As Cs xss).length = xss.length := by simp [Prc]
theorem Prc_get (As : Nat → Option Addr) (Cs : Nat → Nat) (xss : List (List Pnt)) {j : Nat} (h : j < xss.length) : (Prc As Cs xss)[j]? = some (.slice (As j) (Prd xss j).length (Cs j)) := by simp [Prc, h]
def Pupd {α : Type} (f : Nat → α) (n : Nat) (a : α) : Nat → α := fun j => if j = n then a else f j
theorem Pupd_at {α : Type} (f : Nat → α) (n : Nat) (a : α) : Pupd f n a n = a := by simp [Pupd]
theorem Pupd_lt {α : Type} (f : Nat → α) (n : Nat) (a : α) {j : Nat} (h : j < n) : Pupd f n a j = f j := by unfold Pupd; rw [if_neg (by omega)]
theorem Prd_snoc_lt {xss : List (List Pnt)} {x : List Pnt} {j : Nat} (h : j < xss.length) : Prd (xss ++ [x]) j = Prd xss j := by simp [Prd, List.getD, h, List.getElem?_append_left h]
theorem Prd_snoc (xss : List (List Pnt)) (x : List Pnt) : Prd (xss ++ [x]) xss.length = x := by simp [Prd, List.getD]
theorem Prc_snoc (As : Nat → Option Addr) (Cs : Nat → Nat) (xss : List (List Pnt)) (x : List Pnt) (A : Option Addr) (c : Nat) : Prc (Pupd As xss.length A) (Pupd Cs xss.length c) (xss ++ [x]) = Prc As Cs xss ++ [.slice A x.length c] := by
  unfold Prc
  rw [List.length_append, List.length_singleton, List.range_succ, List.map_append]
  congr 1
  · refine List.map_congr_left fun j hj => ?_
    have ha := List.mem_range.1 hj
    rw [Prd_snoc_lt ha, Pupd_lt _ _ _ ha, Pupd_lt _ _ _ ha]
  · simp only [List.map_cons, List.map_nil, Prd_snoc, Pupd_at]
theorem Ptake_rd {xss : List (List Pnt)} {k : Nat} (h : k < xss.length) : xss.take (k + 1) = xss.take k ++ [Prd xss k] := by
  rw [List.take_succ_eq_append_getElem h]; simp [Prd, List.getD, h]
structure OWPf (w : World) (lo hi : Nat) (A : Option Addr) (n c : Nat) (As : Nat → Option Addr) (Cs : Nat → Nat) (xss : List (List Pnt)) : Prop where
  len : xss.length = n
  row : w.ownsRow lo 25 1 (.slice A n c) n (Prc As Cs xss)
  top : ∀ k, (Value.slice A n c).ownBlock = some k → k < hi
  inn : ∀ j, j < n → OP w lo hi (As j) (Prd xss j).length (Cs j) (Prd xss j)
  far : ∀ i j, i < n → j < n → i ≠ j → ∀ g, (As i).map Addr.block = some g → (As j).map Addr.block ≠ some g
/-- A slice of rows whose blocks lie in a range, the call's own. -/
def OWP (w : World) (lo hi : Nat) (A : Option Addr) (n c : Nat) (xss : List (List Pnt)) : Prop := ∃ As Cs, OWPf w lo hi A n c As Cs xss
theorem Pown_blk (A : Option Addr) (n c : Nat) : (Value.slice A n c).ownBlock = A.map Addr.block := by cases A <;> rfl
section
variable {w w' : World} {lo hi B1 B2 n c : Nat} {A : Option Addr} {xss : List (List Pnt)}
theorem OWP.below (h : OWP w lo hi A n c xss) (hb : Below w.heap.size w w') : OWP w' lo hi A n c xss := by
  obtain ⟨As, Cs, h⟩ := h
  exact ⟨As, Cs, h.len, own_below h.row hb, h.top, fun j hj => (h.inn j hj).below hb, h.far⟩
theorem OWP.drewN (h : OWP w lo hi A n c xss) (k : Nat) : OWP (w.drewN k) lo hi A n c xss := by
  obtain ⟨As, Cs, h⟩ := h
  exact ⟨As, Cs, h.len, own_drewN h.row k, h.top, fun j hj => (h.inn j hj).drewN k, h.far⟩
theorem OWP.touch (h : OWP w lo hi A n c xss) (t : Touch B1 B2 w w') (ho : hi ≤ B1 ∨ B2 ≤ lo) : OWP w' lo hi A n c xss := by
  obtain ⟨As, Cs, h⟩ := h
  exact ⟨As, Cs, h.len, own_touch h.row h.top t ho, h.top, fun j hj => (h.inn j hj).touch t ho, h.far⟩
theorem OWPf.kr {As : Nat → Option Addr} {Cs : Nat → Nat} (h : OWPf w lo hi A n c As Cs xss) : RWP w hi A n xss := by
  refine ⟨h.len, fun hn => ?_⟩
  obtain ⟨g, cap, hv, _, hlt⟩ := h.row.form hn
  have hA : A = some ⟨g, 0, none⟩ := by injection hv
  subst hA
  refine ⟨g, 0, rfl, h.top g rfl, fun j hj => ?_⟩
  have hg := Prc_get As Cs xss (j := j) (by rw [h.len]; exact hj)
  have c1 := h.row.cells (g := g) rfl j _ hg
  refine ⟨As j, Cs j, by simpa [Addr.add_lit] using c1, (h.inn j hj).pi, fun _ b off e => ?_⟩
  exact (h.inn j hj).2 b (by rw [Pown_blk, e]; rfl)
theorem OWP.ki (h : OWP w lo hi A n c xss) : RWP w hi A n xss := by
  obtain ⟨As, Cs, h⟩ := h
  exact h.kr
theorem OWP.mk (h : OWP w lo w.heap.size A n c xss) : OWP w lo w.heap.size A n c xss := h
theorem OWP.nil (w : World) (lo hi : Nat) : OWP w lo hi none 0 0 [] := ⟨fun _ => none, fun _ => 0, rfl, World.ownsRow_nil _ _ _ _, (fun k hk => by cases hk), (fun j hj => absurd hj (by omega)), (fun i j hi => absurd hi (by omega))⟩
end
/-- A slice of rows of its own that reads as xss is handed back, with a code. -/
def WCP (B : Nat) (xss : List (List Pnt)) (code : Int) (w : World) (e : Ending) (w' : World) : Prop :=
  ∃ A c, e = .returned (.tuple #[.slice A xss.length c, .int .i64 code]) ∧ OWP w' B w'.heap.size A xss.length c xss ∧ Below B w w'
theorem WCP.none_ {B : Nat} {code : Int} {w w' : World} (hb : Below B w w') : WCP B [] code w (.returned (.tuple #[.slice none 0 0, .int .i64 code])) w' := ⟨none, 0, rfl, OWP.nil _ _ _, hb⟩
/-- Rows and what lies in them never share a block. -/
theorem Papart {w : World} {B B' n m s s' : Nat} {u v : Value} {xs ys : List Value} (h : w.ownsRow B 25 s u n xs) (h' : w.ownsRow B' 61 s' v m ys) : ∀ g, u.ownBlock = some g → v.ownBlock ≠ some g := by
  intro g h1 h2
  rcases h.2 with ⟨e1, _⟩ | ⟨g1, _, _, e1, _, hh1, _⟩
  · rw [e1] at h1; cases h1
  · rcases h'.2 with ⟨e2, _⟩ | ⟨g2, _, _, e2, _, hh2, _⟩
    · rw [e2] at h2; cases h2
    · rw [e1] at h1
      rw [e2] at h2
      have b1 : g1 = g := by injection h1
      have b2 : g2 = g := by injection h2
      subst b1
      subst b2
      rw [hh1] at hh2
      injection hh2 with hh2
      injection hh2 with _ ht
      exact absurd ht (by decide)
/-- The first k rows, each in a block of its own. -/
structure NWP (w : World) (lo : Nat) (As : Nat → Option Addr) (Cs : Nat → Nat) (xss : List (List Pnt)) (k : Nat) : Prop where
  inn : ∀ j, j < k → OP w lo w.heap.size (As j) (Prd xss j).length (Cs j) (Prd xss j)
  far : ∀ i j, i < k → j < k → i ≠ j → ∀ g, (As i).map Addr.block = some g → (As j).map Addr.block ≠ some g
theorem OP.wide_ {w : World} {lo hi hi' n c : Nat} {A : Option Addr} {ps : List Pnt} (h : OP w lo hi A n c ps) (hh : hi ≤ hi') : OP w lo hi' A n c ps := ⟨h.1, fun k hk => Nat.lt_of_lt_of_le (h.2 k hk) hh⟩
theorem NWP.zero (w : World) (lo : Nat) (As : Nat → Option Addr) (Cs : Nat → Nat) (xss : List (List Pnt)) : NWP w lo As Cs xss 0 := ⟨fun _ h => absurd h (by omega), fun _ _ h => absurd h (by omega)⟩
theorem NWP.below {w w' : World} {lo : Nat} {As : Nat → Option Addr} {Cs : Nat → Nat} {xss : List (List Pnt)} {k : Nat} (h : NWP w lo As Cs xss k) (hb : Below w.heap.size w w') : NWP w' lo As Cs xss k := ⟨fun j hj => ((h.inn j hj).below hb).wide_ hb.size, h.far⟩
theorem NWP.drewN {w : World} {lo : Nat} {As : Nat → Option Addr} {Cs : Nat → Nat} {xss : List (List Pnt)} {k : Nat} (h : NWP w lo As Cs xss k) (m : Nat) : NWP (w.drewN m) lo As Cs xss k := ⟨fun j hj => (h.inn j hj).drewN m, h.far⟩
theorem NWP.grown {w w' : World} {lo e : Nat} {As : Nat → Option Addr} {Cs : Nat → Nat} {xss : List (List Pnt)} {k : Nat} (h : NWP w lo As Cs xss k) {n : Nat} {v : Value} {xs : List Value} {size : Nat} (hv : w.ownsRow e 25 size v n xs) (hg : w.grownBy w' v.ownBlock) : NWP w' lo As Cs xss k :=
  ⟨fun j hj => OP.wide_ ⟨(h.inn j hj).1.kept hg (by
    cases hb : (Value.slice (As j) (Prd xss j).length (Cs j)).ownBlock with
    | none => exact .inl rfl
    | some b => exact .inr fun hx => Papart hv (h.inn j hj).1 b hx.symm hb), (h.inn j hj).2⟩ hg.size, h.far⟩
theorem NWP.succ {w w' : World} {lo : Nat} {As : Nat → Option Addr} {Cs : Nat → Nat} {xss : List (List Pnt)} {k : Nat} {A : Option Addr} {c : Nat} (h : NWP w lo As Cs xss k) (hb : Below w.heap.size w w') (hlo : lo ≤ w.heap.size)
    (hown : w'.ownsRow w.heap.size 61 2 (.slice A (Prd xss k).length c) (Prd xss k).length (flat (Prd xss k))) : NWP w' lo (Pupd As k A) (Pupd Cs k c) xss (k + 1) := by
  constructor
  · intro j hj
    by_cases e : j = k
    · subst e
      rw [Pupd_at, Pupd_at]
      exact OP.mk (hown.mono hlo)
    · rw [Pupd_lt _ _ _ (by omega), Pupd_lt _ _ _ (by omega)]
      exact (h.below hb).inn j (by omega)
  · intro i j hi hj hne g
    by_cases e : i = k
    · subst e
      rw [Pupd_at, Pupd_lt _ _ _ (by omega)]
      intro h1 h2
      have a1 := (hown.lt g (by rw [Pown_blk]; exact h1)).1
      have a2 := (h.inn j (by omega)).2 g (by rw [Pown_blk]; exact h2)
      omega
    · by_cases e2 : j = k
      · subst e2
        rw [Pupd_at, Pupd_lt _ _ _ (by omega)]
        intro h1 h2
        have a1 := (hown.lt g (by rw [Pown_blk]; exact h2)).1
        have a2 := (h.inn i (by omega)).2 g (by rw [Pown_blk]; exact h1)
        omega
      · rw [Pupd_lt _ _ _ (by omega), Pupd_lt _ _ _ (by omega)]
        exact h.far i j (by omega) (by omega) hne g
theorem NWP.ok {w : World} {lo n c : Nat} {A : Option Addr} {As : Nat → Option Addr} {Cs : Nat → Nat} {xss : List (List Pnt)} (hl : xss.length = n) (ho : w.ownsRow lo 25 1 (.slice A n c) n (Prc As Cs xss)) (hi : NWP w lo As Cs xss n) : OWP w lo w.heap.size A n c xss :=
  ⟨As, Cs, hl, ho, fun k hk => (ho.lt k hk).2, hi.inn, hi.far⟩
set_option maxHeartbeats 2000000 in
theorem eqPointSS_same {hi hi' : Nat} (A B : Option Addr) (n ca cb : Nat) (xss : List (List Pnt)) (w : World) (hn : Pbulk xss ≤ 1152921504606846976) (hA : RWP w hi A n xss) (hB : RWP w hi' B n xss) :
    Calls Try.prog 46 #[.slice A n ca, .slice B n cb] w fun e w' => e = .returned (.bool true) ∧ Below w.heap.size w w' := by
  have HL := Lib.hid hA.1
  have HN := Lib.hid hn
  have hn2 : n ≤ 1152921504606846976 := by have := Pbulk_len xss; have := hA.1; omega
  have HA := Lib.hid hA
  have HB := Lib.hid hB
  clear hA hB hn
  go_enter Try.func46, Try.ntmps46
  go_wp2
  go_loopw [5] (fun i wr => ∃ k : Nat, k ≤ n ∧ i = .int .i64 k ∧ Below w.heap.size w wr) (fun i _ => n - (intOf i).toNat)
  case atStart => exact ⟨0, Nat.zero_le _, rfl, Below.refl _ _⟩
  case round =>
    obtain ⟨k, hk, rfl, hb⟩ := hrel
    have HBW := Lib.hid hb
    clear hb
    by_cases hlt : k < n
    · obtain ⟨b1, o1, A1, c1, hAA, _, hbl1, g1, hp1⟩ := (HA.out.below HBW.out).at_ hlt
      obtain ⟨b2, o2, A2, c2, hBB, _, hbl2, g3, hp2⟩ := (HB.out.below HBW.out).at_ hlt
      subst hAA
      subst hBB
      have hkl : (Prd xss k).length ≤ 1152921504606846976 := Nat.le_trans (Plen_le xss k (by rw [HL.out]; exact hlt)) HN.out
      obtain ⟨ps, hx⟩ : ∃ p, p = Prd xss k := ⟨_, rfl⟩
      rw [← hx] at g1 g3 hp1 hp2 hkl
      have HP1 := Lib.hid hp1
      have HP2 := Lib.hid hp2
      clear hx hp1 hp2
      go_wp2
      go_region_held3 (fun w' => w'.cell? ⟨b1, o1 + k, none⟩ = some (.slice A1 ps.length c1) ∧ w'.cell? ⟨b2, o2 + k, none⟩ = some (.slice A2 ps.length c2)) (((try dsimp only); (refine ⟨?_, ?_⟩ <;> (first | ((with_reducible (repeat (first | assumption | refine keepD ?_ | refine keepN ?_ _ | refine keepA ?_))); done) | (refine bcell_of hb1 ?_; with_reducible (repeat (first | assumption | refine keepD ?_ | refine keepN ?_ _ | refine keepA ?_)); done)))))
        (first | (go_at_call 17; refine (eqPointS_same _ _ _ _ _ ps _ hkl (HP1.out.pi.drewN _) (HP2.out.pi.drewN _)).mono ?_; rintro e w1 ⟨rfl, hb1⟩))
      have hb3 := Lib.hid (show Below w.heap.size w w1 from bl_tr (bl_drewN HBW.out _) hb1)
      clear hb1
      go_wp2
      go_roundw
      case rel => exact ⟨k + 1, by omega, by go_num, hb3.out⟩
      case measure => simp [intOf]; omega
    · go_wp2
      go_ret
      exact ⟨rfl, HBW.out⟩
/-- The first k rows marked. -/
def midP (k0 : Int) (xss : List (List Pnt)) (k : Nat) : List (List Pnt) := (List.range xss.length).map fun j => if j < k then mkP (k0 + (Pcnt (xss.take j) : Nat)) (Prd xss j).length else Prd xss j
/-- All rows marked. -/
def mkPP (k0 : Int) (xss : List (List Pnt)) : List (List Pnt) := midP k0 xss xss.length
theorem midP_len (k0 : Int) (xss : List (List Pnt)) (k : Nat) : (midP k0 xss k).length = xss.length := by simp [midP]
theorem mkPP_len (k0 : Int) (xss : List (List Pnt)) : (mkPP k0 xss).length = xss.length := midP_len _ _ _
theorem midP_rd (k0 : Int) (xss : List (List Pnt)) (k j : Nat) (h : j < xss.length) : Prd (midP k0 xss k) j = if j < k then mkP (k0 + (Pcnt (xss.take j) : Nat)) (Prd xss j).length else Prd xss j := by
  simp [Prd, midP, List.getD, h]
theorem midP_ge (k0 : Int) (xss : List (List Pnt)) {k j : Nat} (h : j < xss.length) (hj : ¬ j < k) : Prd (midP k0 xss k) j = Prd xss j := by rw [midP_rd _ _ _ _ h, if_neg hj]
theorem midP_same (k0 : Int) (xss : List (List Pnt)) {k j : Nat} (h : j < xss.length) (hj : j ≠ k) : Prd (midP k0 xss (k + 1)) j = Prd (midP k0 xss k) j := by
  rw [midP_rd _ _ _ _ h, midP_rd _ _ _ _ h]
  by_cases h1 : j < k
  · rw [if_pos h1, if_pos (by omega)]
  · rw [if_neg h1, if_neg (by omega)]
theorem midP_at (k0 : Int) (xss : List (List Pnt)) {k : Nat} (h : k < xss.length) : Prd (midP k0 xss (k + 1)) k = mkP (k0 + (Pcnt (xss.take k) : Nat)) (Prd xss k).length := by rw [midP_rd _ _ _ _ h, if_pos (by omega)]
theorem midP_jl (k0 : Int) (xss : List (List Pnt)) {k j : Nat} (h : j < xss.length) : (Prd (midP k0 xss k) j).length = (Prd xss j).length := by
  rw [midP_rd _ _ _ _ h]
  split
  · rw [mkP_len]
  · rfl
theorem midP_zero (k0 : Int) (xss : List (List Pnt)) : midP k0 xss 0 = xss := by
  apply List.ext_getElem
  · rw [midP_len]
  · intro j h1 h2
    simp [midP, Prd, List.getD, h2]
theorem Prc_mid (As : Nat → Option Addr) (Cs : Nat → Nat) (k0 : Int) (xss : List (List Pnt)) (k : Nat) : Prc As Cs (midP k0 xss k) = Prc As Cs xss := by
  unfold Prc
  rw [midP_len]
  refine List.map_congr_left fun j hj => ?_
  rw [midP_jl k0 xss (List.mem_range.1 hj)]
set_option maxHeartbeats 4000000 in
theorem markPointSS_any (lo hi : Nat) (A : Option Addr) (n c : Nat) (k0 : Int) (xss : List (List Pnt)) (w : World) (hn : Pbulk xss ≤ 10000000) (hk0 : 0 ≤ k0) (hk1 : k0 ≤ 1000000000) (hown : OWP w lo hi A n c xss) :
    Calls Try.prog 47 #[.slice A n c, .int .i64 k0] w fun e w' => e = .returned (.int .i64 (k0 + (Pcnt xss : Nat))) ∧ OWP w' lo hi A n c (mkPP k0 xss) ∧ Touch lo hi w w' := by
  obtain ⟨As, Cs, hok⟩ := hown
  have HL := Lib.hid hok.len
  have HN := Lib.hid hn
  have hn2 : n ≤ 1152921504606846976 := by have := Pbulk_len xss; have := hok.len; omega
  have HO := Lib.hid (show OWPf w lo hi A n c As Cs (midP k0 xss 0) from by rw [midP_zero]; exact hok)
  clear hok hn
  go_enter Try.func47, Try.ntmps47
  go_wp2
  go_loopw [1, 5] (fun q i wr => ∃ k : Nat, k ≤ n ∧ i = .int .i64 k ∧ q = .int .i64 (k0 + (Pcnt (xss.take k) : Nat)) ∧ OWPf wr lo hi A n c As Cs (midP k0 xss k) ∧ Touch lo hi w wr) (fun _ i _ => n - (intOf i).toNat)
  case atStart => exact ⟨0, Nat.zero_le _, rfl, by simp [Pcnt], HO.out, Touch.refl _ _ _⟩
  case round =>
    obtain ⟨k, hk, rfl, rfl, ho, ht⟩ := hrel
    have HO2 := Lib.hid ho
    have HT := Lib.hid ht
    clear ho ht
    by_cases hlt : k < n
    · have hkl : k < xss.length := by rw [HL.out]; exact hlt
      obtain ⟨g, cap, hv, _, _⟩ := HO2.out.row.form (by omega)
      obtain ⟨rfl, rfl⟩ : A = some ⟨g, 0, none⟩ ∧ c = cap := by injection hv; exact ⟨by assumption, by assumption⟩
      clear hv
      have hkf := Prc_get As Cs (midP k0 xss k) (j := k) (by rw [midP_len]; exact hkl)
      rw [midP_jl _ _ hkl] at hkf
      have hc3 : wr.cell? ⟨g, k, none⟩ = some (.slice (As k) (Prd xss k).length (Cs k)) := by rw [HO2.out.row.cellAt k (by omega)]; exact hkf
      have hct := Pcnt_take xss k hkl
      have hcl : Pcnt (xss.take k) ≤ Pbulk xss * 2 := Nat.le_trans (Pcnt_take_le xss k) (Pcnt_le xss)
      have hcn := HN.out
      have hml : (Prd xss k).length ≤ 1152921504606846976 := Nat.le_trans (Plen_le xss k hkl) (by omega)
      have hin := HO2.out.inn k hlt
      rw [midP_ge k0 xss hkl (by omega)] at hin
      obtain ⟨K, hK⟩ : ∃ K : Nat, K = Pcnt (xss.take k) := ⟨_, rfl⟩
      obtain ⟨m, hm⟩ : ∃ m : Nat, m = (Prd xss k).length := ⟨_, rfl⟩
      rw [← hK] at hct hcl ⊢
      rw [← hm] at hc3 hct hml hin
      have HIO := Lib.hid hin
      have HK := Lib.hid hK
      have HM := Lib.hid hm
      have HCT := Lib.hid hct
      have hKb : (K : Int) ≤ 20000000 := by omega
      clear hkf hin hK hm hct hcn hcl
      go_wp2_with fail
      refine (markPointS_any lo _ _ _ _ _ _ hml (by omega) (by omega) HIO.out.1).mono ?_
      rintro e w2 ⟨rfl, own2, hg2⟩
      have HG2 := Lib.hid hg2
      have HW2 := Lib.hid own2
      clear own2 hg2
      go_wp2
      go_roundw
      case rel =>
        have hblk : ∀ q, (Value.slice (As k) m (Cs k)).ownBlock = some q → lo ≤ q ∧ q < hi := fun q hq => ⟨(HIO.out.1.lt q hq).1, HIO.out.2 q hq⟩
        have t1 : Touch lo hi wr w2 := Touch.of_grown HG2.out hblk
        have hrow : w2.ownsRow lo 25 1 (.slice (some ⟨g, 0, none⟩) n c) n (Prc As Cs (midP k0 xss k)) := HO2.out.row.kept HG2.out (.inr fun e => Papart HO2.out.row HIO.out.1 g rfl e.symm)
        rw [Prc_mid, ← Prc_mid As Cs k0 xss (k + 1)] at hrow
        refine ⟨k + 1, by omega, by go_num, by rw [HCT.out]; go_num, ⟨by rw [midP_len]; exact HL.out, hrow, HO2.out.top, fun j hj => ?_, HO2.out.far⟩, HT.out.trans t1⟩
        have hjl : j < xss.length := by rw [HL.out]; exact hj
        by_cases e : j = k
        · subst e
          rw [midP_at k0 xss hjl, ← HK.out, ← HM.out, mkP_len]
          exact ⟨HW2.out, HIO.out.2⟩
        · rw [midP_same k0 xss hjl e]
          have hj0 := HO2.out.inn j hj
          refine ⟨hj0.1.kept HG2.out ?_, hj0.2⟩
          rw [Pown_blk, Pown_blk]
          cases hb : (As j).map Addr.block with
          | none => exact .inl rfl
          | some q => exact .inr fun e2 => HO2.out.far j k hj hlt e q hb e2.symm
      case measure => simp [intOf]; omega
    · go_wp2
      go_ret
      have e : k = n := by omega
      have hl := HL.out
      subst e
      subst hl
      rw [List.take_length]
      exact ⟨rfl, ⟨As, Cs, HO2.out⟩, HT.out⟩
set_option maxHeartbeats 2000000 in
theorem heldPointSS_same {hi : Nat} (xss : List (List Pnt)) (A : Option Addr) (n c : Nat) (k0 : Int) (w : World) (hn : Pbulk xss ≤ 10000000) (hk0 : 0 ≤ k0) (hk1 : k0 ≤ 1000000000) (hA : RWP w hi A n (mkPP k0 xss)) :
    Calls Try.prog 48 #[.slice A n c, .int .i64 k0] w fun e w' => e = .returned (.int .i64 (k0 + (Pcnt xss : Nat))) ∧ ∃ k, w' = w.drewN k := by
  have hl : xss.length = n := by have := hA.1; rw [mkPP, midP_len] at this; exact this
  have HL := Lib.hid hl
  have HN := Lib.hid hn
  have hn2 : n ≤ 1152921504606846976 := by have := Pbulk_len xss; omega
  have HA := Lib.hid hA
  clear hA hn hl
  go_enter Try.func48, Try.ntmps48
  go_wp2
  go_loopw [1, 5] (fun q i wr => ∃ k m : Nat, k ≤ n ∧ i = .int .i64 k ∧ q = .int .i64 (k0 + (Pcnt (xss.take k) : Nat)) ∧ wr = w.drewN m) (fun _ i _ => n - (intOf i).toNat)
  case atStart => exact ⟨0, 0, Nat.zero_le _, rfl, by simp [Pcnt], rfl⟩
  case round =>
    obtain ⟨k, m, hk, rfl, rfl, rfl⟩ := hrel
    by_cases hlt : k < n
    · have hkl : k < xss.length := by rw [HL.out]; exact hlt
      obtain ⟨b1, o1, A1, c1, hAA, _, hbl1, g2, hp1⟩ := HA.out.at_ hlt
      subst hAA
      rw [mkPP, midP_rd _ _ _ _ hkl, if_pos hkl] at g2 hp1
      rw [mkP_len] at g2 hp1
      have hct := Pcnt_take xss k hkl
      have hcl : Pcnt (xss.take k) ≤ Pbulk xss * 2 := Nat.le_trans (Pcnt_take_le xss k) (Pcnt_le xss)
      have hcn := HN.out
      have hml : (Prd xss k).length ≤ 1152921504606846976 := Nat.le_trans (Plen_le xss k hkl) (by omega)
      obtain ⟨K, hK⟩ : ∃ K : Nat, K = Pcnt (xss.take k) := ⟨_, rfl⟩
      obtain ⟨q, hq⟩ : ∃ q : Nat, q = (Prd xss k).length := ⟨_, rfl⟩
      rw [← hK] at hct hcl hp1 ⊢
      rw [← hq] at hct hml g2 hp1
      have HCT := Lib.hid hct
      have HP := Lib.hid hp1
      have hKb : (K : Int) ≤ 20000000 := by omega
      have hnn : decide (k0 + (K : Int) + ((q * 2 : Nat) : Int) < 0) = false := by simp; omega
      clear hK hq hct hp1 hcn hcl
      go_wp2_with fail
      refine (heldPointS_same _ _ _ _ _ hml (by omega) (by omega) (HP.out.pi.drewN _)).mono ?_
      rintro e w' ⟨rfl, d1, rfl⟩
      go_wp2
      go_roundw
      case rel => exact ⟨k + 1, _, by omega, by go_num, by rw [HCT.out]; go_num, rfl⟩
      case measure => simp [intOf]; omega
    · go_wp2
      go_ret
      have e : k = n := by omega
      have hl := HL.out
      subst e
      subst hl
      rw [List.take_length]
      exact ⟨rfl, _, rfl⟩
end Go.Proofs.Ytofjohkhhomldaa

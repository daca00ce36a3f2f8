/-
  PROVED HERE: contracts of the laws' own helpers over slices of key poses that the call owns: copy, equality, marks, looking the marks up again. CONDITIONS: as each theorem names them.
-/
import Derived.Test.YtofjohkhhomldaaKeys
namespace Go.Proofs.Ytofjohkhhomldaa
open Go.RowKit

/-- The cells of key poses; As, Cs: where each one's joints lie. -/
def kfl (As : Nat → Option Addr) (Cs : Nat → Nat) (ks : List Key) : List Value := (List.range ks.length).flatMap fun j => [.int .i64 (kd ks j).1, .slice (As j) (kd ks j).2.length (Cs j)]
theorem rng_len (f : Nat → Value × Value) (n : Nat) : ((List.range n).flatMap fun j => [(f j).1, (f j).2]).length = n * 2 := by
  induction n with
  | zero => rfl
  | succ n ih => rw [List.range_succ, List.flatMap_append, List.length_append, ih]; simp; omega
theorem rng_get (f : Nat → Value × Value) : ∀ n j, j < n → ((List.range n).flatMap fun j => [(f j).1, (f j).2])[j * 2]? = some (f j).1 ∧ ((List.range n).flatMap fun j => [(f j).1, (f j).2])[j * 2 + 1]? = some (f j).2 := by
  intro n
  induction n with
  | zero => intro j h; exact absurd h (by omega)
  | succ n ih =>
    intro j h
    rw [List.range_succ, List.flatMap_append]
    have hl := rng_len f n
    by_cases e : j = n
    · subst e
      rw [List.getElem?_append_right (by omega), List.getElem?_append_right (by omega), hl]
      simp
    · rw [List.getElem?_append_left (by omega), List.getElem?_append_left (by omega)]
      exact ih j (by omega)
theorem kfl_len (As : Nat → Option Addr) (Cs : Nat → Nat) (ks : List Key) : (kfl As Cs ks).length = ks.length * 2 := rng_len (fun j => (.int .i64 (kd ks j).1, .slice (As j) (kd ks j).2.length (Cs j))) ks.length
theorem kfl_get (As : Nat → Option Addr) (Cs : Nat → Nat) (ks : List Key) {j : Nat} (h : j < ks.length) : (kfl As Cs ks)[j * 2]? = some (.int .i64 (kd ks j).1) ∧ (kfl As Cs ks)[j * 2 + 1]? = some (.slice (As j) (kd ks j).2.length (Cs j)) := rng_get (fun j => (.int .i64 (kd ks j).1, .slice (As j) (kd ks j).2.length (Cs j))) ks.length j h
theorem kd_snoc_lt {ks : List Key} {x : Key} {j : Nat} (h : j < ks.length) : kd (ks ++ [x]) j = kd ks j := by simp [kd, List.getD, h, List.getElem?_append_left h]
theorem kd_snoc (ks : List Key) (x : Key) : kd (ks ++ [x]) ks.length = x := by simp [kd, List.getD]
/-- One more thing at place n. -/
def upd {α : Type} (f : Nat → α) (n : Nat) (a : α) : Nat → α := fun j => if j = n then a else f j
theorem upd_at {α : Type} (f : Nat → α) (n : Nat) (a : α) : upd f n a n = a := by simp [upd]
theorem upd_lt {α : Type} (f : Nat → α) (n : Nat) (a : α) {j : Nat} (h : j < n) : upd f n a j = f j := by unfold upd; rw [if_neg (by omega)]
theorem kfl_snoc (As : Nat → Option Addr) (Cs : Nat → Nat) (ks : List Key) (x : Key) (A : Option Addr) (c : Nat) : kfl (upd As ks.length A) (upd Cs ks.length c) (ks ++ [x]) = kfl As Cs ks ++ [.int .i64 x.1, .slice A x.2.length c] := by
  unfold kfl
  rw [List.length_append, List.length_singleton, List.range_succ, List.flatMap_append]
  congr 1
  · have : ∀ (l : List Nat), (∀ j ∈ l, j < ks.length) → (l.flatMap fun j => [Value.int .i64 (kd (ks ++ [x]) j).1, .slice (upd As ks.length A j) (kd (ks ++ [x]) j).2.length (upd Cs ks.length c j)]) = l.flatMap fun j => [Value.int .i64 (kd ks j).1, .slice (As j) (kd ks j).2.length (Cs j)] := by
      intro l
      induction l with
      | nil => intro _; rfl
      | cons a l ih =>
        intro h
        have ha := h a List.mem_cons_self
        rw [List.flatMap_cons, List.flatMap_cons, ih (fun j hj => h j (List.mem_cons_of_mem _ hj)), kd_snoc_lt ha, upd_lt _ _ _ ha, upd_lt _ _ _ ha]
    exact this _ (fun j hj => List.mem_range.1 hj)
  · simp only [List.flatMap_cons, List.flatMap_nil, List.append_nil, kd_snoc, upd_at]
theorem bfroz_of {W w1 : World} (hb : Below W.heap.size W w1) {b o : Nat} {v : Value} (h : W.cell? ⟨b, o, none⟩ = some v) (hf : W.frozen? ⟨b, o, none⟩ = false) : w1.frozen? ⟨b, o, none⟩ = false :=
  (hb.frozen (p := ⟨b, o, none⟩) (World.block_lt_of_cell? W _ h)).trans hf
structure OKf (w : World) (lo hi : Nat) (A : Option Addr) (n c : Nat) (As : Nat → Option Addr) (Cs : Nat → Nat) (ks : List Key) : Prop where
  len : ks.length = n
  row : w.ownsRow lo 74 2 (.slice A n c) n (kfl As Cs ks)
  top : ∀ k, (Value.slice A n c).ownBlock = some k → k < hi
  inn : ∀ j, j < n → OP w lo hi (As j) (kd ks j).2.length (Cs j) (kd ks j).2
  far : ∀ i j, i < n → j < n → i ≠ j → ∀ g, (As i).map Addr.block = some g → (As j).map Addr.block ≠ some g
/-- A slice of key poses whose blocks lie in a range, the call's own. -/
def OK (w : World) (lo hi : Nat) (A : Option Addr) (n c : Nat) (ks : List Key) : Prop := ∃ As Cs, OKf w lo hi A n c As Cs ks
theorem own_blk (A : Option Addr) (n c : Nat) : (Value.slice A n c).ownBlock = A.map Addr.block := by cases A <;> rfl
section
variable {w w' : World} {lo hi B1 B2 n c : Nat} {A : Option Addr} {ks : List Key}
theorem OK.below (h : OK w lo hi A n c ks) (hb : Below w.heap.size w w') : OK w' lo hi A n c ks := by
  obtain ⟨As, Cs, h⟩ := h
  exact ⟨As, Cs, h.len, own_below h.row hb, h.top, fun j hj => (h.inn j hj).below hb, h.far⟩
theorem OK.drewN (h : OK w lo hi A n c ks) (k : Nat) : OK (w.drewN k) lo hi A n c ks := by
  obtain ⟨As, Cs, h⟩ := h
  exact ⟨As, Cs, h.len, own_drewN h.row k, h.top, fun j hj => (h.inn j hj).drewN k, h.far⟩
theorem OK.touch (h : OK w lo hi A n c ks) (t : Touch B1 B2 w w') (ho : hi ≤ B1 ∨ B2 ≤ lo) : OK w' lo hi A n c ks := by
  obtain ⟨As, Cs, h⟩ := h
  exact ⟨As, Cs, h.len, own_touch h.row h.top t ho, h.top, fun j hj => (h.inn j hj).touch t ho, h.far⟩
theorem OKf.kr {As : Nat → Option Addr} {Cs : Nat → Nat} (h : OKf w lo hi A n c As Cs ks) : KR w hi A n ks := by
  refine ⟨h.len, fun hn => ?_⟩
  obtain ⟨g, cap, hv, _, hlt⟩ := h.row.form hn
  have hA : A = some ⟨g, 0, none⟩ := by injection hv
  subst hA
  refine ⟨g, 0, rfl, h.top g rfl, fun j hj => ?_⟩
  have hg := kfl_get As Cs ks (j := j) (by rw [h.len]; exact hj)
  have c0 := h.row.cells (g := g) rfl (j * 2) _ hg.1
  have c1 := h.row.cells (g := g) rfl (j * 2 + 1) _ hg.2
  refine ⟨by simpa [Addr.add_lit] using c0, As j, Cs j, by simpa [Addr.add_lit, Nat.add_assoc] using c1, (h.inn j hj).pi, fun _ b off e => ?_⟩
  exact (h.inn j hj).2 b (by rw [own_blk, e]; rfl)
theorem OK.ki (h : OK w lo hi A n c ks) : KR w hi A n ks := by
  obtain ⟨As, Cs, h⟩ := h
  exact h.kr
end
theorem OP.wide {w : World} {lo hi hi' n c : Nat} {A : Option Addr} {ps : List Pnt} (h : OP w lo hi A n c ps) (hh : hi ≤ hi') : OP w lo hi' A n c ps := ⟨h.1, fun k hk => Nat.lt_of_lt_of_le (h.2 k hk) hh⟩
/-- A slice of its own that reads as ks is handed back. -/
def KyR (B : Nat) (ks : List Key) (w : World) (e : Ending) (w' : World) : Prop :=
  ∃ A c, e = .returned (.slice A ks.length c) ∧ OK w' B w'.heap.size A ks.length c ks ∧ Below B w w'
def KyC (B : Nat) (ks : List Key) (code : Int) (w : World) (e : Ending) (w' : World) : Prop :=
  ∃ A c, e = .returned (.tuple #[.slice A ks.length c, .int .i64 code]) ∧ OK w' B w'.heap.size A ks.length c ks ∧ Below B w w'
theorem OK.mk {w : World} {lo : Nat} {A : Option Addr} {n c : Nat} {ks : List Key} (h : OK w lo w.heap.size A n c ks) : OK w lo w.heap.size A n c ks := h
theorem OK.nil (w : World) (lo hi : Nat) : OK w lo hi none 0 0 [] := ⟨fun _ => none, fun _ => 0, rfl, World.ownsRow_nil _ _ _ _, (fun k hk => by cases hk), (fun j hj => absurd hj (by omega)), (fun i j hi => absurd hi (by omega))⟩
theorem KyC.none_ {B : Nat} {code : Int} {w w' : World} (hb : Below B w w') : KyC B [] code w (.returned (.tuple #[.slice none 0 0, .int .i64 code])) w' := ⟨none, 0, rfl, OK.nil _ _ _, hb⟩
set_option maxHeartbeats 1000000 in
theorem toKeyPose_any (A : Option Addr) (n c : Nat) (t : Int) (ps : List Pnt) (w : World) (hn : n ≤ 1048576) (hA : PI w A n ps) :
    Calls Try.prog 62 #[.agg #[.int .i64 t, .slice A n c]] w fun e w' => ∃ A1 c1, e = .returned (.agg #[.int .i64 t, .slice A1 ps.length c1]) ∧ w'.ownsRow w.heap.size 61 2 (.slice A1 ps.length c1) ps.length (flat ps) ∧ Below w.heap.size w w' := by
  have HA := Lib.hid hA
  clear hA
  go_enter Try.func62, Try.ntmps62
  go_wp2_with fail
  refine (toPointS_any _ _ _ ps _ hn (((HA.out.alloc _).alloc _).alloc _)).mono ?_
  rintro e w1 ⟨A1, c1, rfl, own1, hb1⟩
  have d0 : w1.cell? ⟨w.heap.size + 1 + 1, 0, none⟩ = some (.int .i64 t) := bcell_of hb1 (by simp [go_sem])
  have d1 : w1.cell? ⟨w.heap.size + 1 + 1, 1, none⟩ = some (.slice none 0 0) := bcell_of hb1 (by simp [go_sem])
  have e0 : w1.cell? ⟨w.heap.size + 1, 0, none⟩ = some (.int .i64 0) := bcell_of hb1 (by simp [go_sem])
  have e1 : w1.cell? ⟨w.heap.size + 1, 1, none⟩ = some (.slice none 0 0) := bcell_of hb1 (by simp [go_sem])
  have f1 : w1.frozen? ⟨w.heap.size + 1 + 1, 1, none⟩ = false := (hb1.frozen (p := ⟨w.heap.size + 1 + 1, 1, none⟩) (by simp)).trans (by simp [go_sem])
  have g0 : w1.frozen? ⟨w.heap.size + 1, 0, none⟩ = false := (hb1.frozen (p := ⟨w.heap.size + 1, 0, none⟩) (by simp)).trans (by simp [go_sem])
  have g1 : w1.frozen? ⟨w.heap.size + 1, 1, none⟩ = false := (hb1.frozen (p := ⟨w.heap.size + 1, 1, none⟩) (by simp)).trans (by simp [go_sem])
  have OWN := Lib.hid (show w1.ownsRow (w.heap.size + 3) 61 2 (.slice A1 ps.length c1) ps.length (flat ps) from by simpa using own1)
  have HBW := Lib.hid (show Below w.heap.size w w1 from bl_tr (bl_al (bl_al (bl_al (Below.refl _ _) _) _) _) hb1)
  clear own1 hb1
  go_wp2
  refine bodyPost_ret (v := .agg #[.int .i64 t, .slice A1 ps.length c1]) (by simp [results, Try.results62, go_sem, *]) rfl ⟨A1, c1, rfl, ?_, ?_⟩
  · exact (ownsRow_setCell_below (ownsRow_setCell_below (ownsRow_setCell_below OWN.out (by simp) _) (by simp) _) (by simp) _).mono (by omega)
  · exact ((HBW.out.setCell (p := ⟨w.heap.size + 1 + 1, 1, none⟩) (by simp; omega) _).setCell (p := ⟨w.heap.size + 1, 0, none⟩) (by simp) _).setCell (p := ⟨w.heap.size + 1, 1, none⟩) (by simp) _
/-- Cells of key poses that are not laid yet. -/
def zK : Nat → List Value
  | 0 => []
  | m + 1 => .int .i64 0 :: .slice none 0 0 :: zK m
theorem zK_len (m : Nat) : (zK m).length = m * 2 := by
  induction m with
  | zero => rfl
  | succ m ih => simp only [zK, List.length_cons, ih]; omega
theorem zK_get : ∀ m j, j < m → (zK m)[j * 2]? = some (.int .i64 0) ∧ (zK m)[j * 2 + 1]? = some (.slice none 0 0)
  | 0, _, h => absurd h (by omega)
  | m + 1, 0, _ => ⟨rfl, rfl⟩
  | m + 1, j + 1, h => by
    have := zK_get m j (by omega)
    rw [show (j + 1) * 2 = j * 2 + 1 + 1 by omega, zK]
    simpa using this
theorem made_key (n : Nat) : (madeCells #[Value.int .i64 0, .slice none 0 0] (n * 2)).toList = zK n := by
  apply List.ext_getElem?
  intro j
  by_cases hj : j < n * 2
  · rcases Nat.mod_two_eq_zero_or_one j with e | e
    · obtain ⟨q, rfl⟩ : ∃ q, j = q * 2 := ⟨j / 2, by omega⟩
      rw [(zK_get n q (by omega)).1]
      simp [madeCells, hj]
    · obtain ⟨q, rfl⟩ : ∃ q, j = q * 2 + 1 := ⟨j / 2, by omega⟩
      rw [(zK_get n q (by omega)).2]
      simp [madeCells, hj, e]
  · rw [List.getElem?_eq_none (by simp [madeCells]; omega), List.getElem?_eq_none (by rw [zK_len]; omega)]
theorem set2_mid (l : List Value) (k m : Nat) (a b : Value) (h : l.length = k * 2) : ((l ++ zK (m + 1)).set (k * 2) a).set (k * 2 + 1) b = (l ++ [a, b]) ++ zK m := by
  rw [List.set_append_right _ _ (by omega), h, Nat.sub_self, zK, List.set_cons_zero, List.set_append_right _ _ (by omega), h, show k * 2 + 1 - k * 2 = 1 by omega, List.set_cons_succ, List.set_cons_zero, List.append_assoc]
  rfl
theorem take_kd {ks : List Key} {k : Nat} (h : k < ks.length) : ks.take (k + 1) = ks.take k ++ [kd ks k] := by
  rw [List.take_succ_eq_append_getElem h]; simp [kd, List.getD, h]
theorem OP.setCell {w : World} {lo hi n c : Nat} {A : Option Addr} {ps : List Pnt} (h : OP w lo hi A n c ps) {p : Addr} (hp : p.block < lo) (u : Value) : OP (w.setCell p u) lo hi A n c ps := ⟨ownsRow_setCell_below h.1 hp u, h.2⟩
/-- The joints of the first k key poses, each in a block of its own. -/
structure Inn (w : World) (lo : Nat) (As : Nat → Option Addr) (Cs : Nat → Nat) (ks : List Key) (k : Nat) : Prop where
  inn : ∀ j, j < k → OP w lo w.heap.size (As j) (kd ks j).2.length (Cs j) (kd ks j).2
  far : ∀ i j, i < k → j < k → i ≠ j → ∀ g, (As i).map Addr.block = some g → (As j).map Addr.block ≠ some g
theorem Inn.zero (w : World) (lo : Nat) (As : Nat → Option Addr) (Cs : Nat → Nat) (ks : List Key) : Inn w lo As Cs ks 0 := ⟨fun _ h => absurd h (by omega), fun _ _ h => absurd h (by omega)⟩
theorem Inn.below {w w' : World} {lo : Nat} {As : Nat → Option Addr} {Cs : Nat → Nat} {ks : List Key} {k : Nat} (h : Inn w lo As Cs ks k) (hb : Below w.heap.size w w') : Inn w' lo As Cs ks k := ⟨fun j hj => ((h.inn j hj).below hb).wide hb.size, h.far⟩
theorem Inn.grown {w w' : World} {lo e : Nat} {As : Nat → Option Addr} {Cs : Nat → Nat} {ks : List Key} {k : Nat} (h : Inn w lo As Cs ks k) {n : Nat} {v : Value} {xs : List Value} {size : Nat} (hv : w.ownsRow e 74 size v n xs) (hg : w.grownBy w' v.ownBlock) : Inn w' lo As Cs ks k :=
  ⟨fun j hj => OP.wide ⟨(h.inn j hj).1.kept hg (by
    cases hb : (Value.slice (As j) (kd ks j).2.length (Cs j)).ownBlock with
    | none => exact .inl rfl
    | some b =>
      right
      intro hx
      obtain ⟨r1, r2⟩ := (h.inn j hj).1, hv
      rcases (h.inn j hj).1.2 with ⟨e1, _⟩ | ⟨g1, _, _, e1, _, hh1, _⟩
      · rw [e1] at hb; cases hb
      · rcases hv.2 with ⟨e2, _⟩ | ⟨g2, _, _, e2, _, hh2, _⟩
        · rw [e2] at hx; cases hx
        · rw [e1] at hb
          rw [e2] at hx
          have b1 : g1 = b := by injection hb
          have b2 : b = g2 := by injection hx
          subst b1 b2
          rw [hh1] at hh2
          injection hh2 with hh2
          injection hh2 with _ ht
          exact absurd ht (by decide)), (h.inn j hj).2⟩ hg.size, h.far⟩
theorem Inn.setCell {w : World} {lo : Nat} {As : Nat → Option Addr} {Cs : Nat → Nat} {ks : List Key} {k : Nat} (h : Inn w lo As Cs ks k) {p : Addr} (hp : p.block < lo) (u : Value) : Inn (w.setCell p u) lo As Cs ks k :=
  ⟨fun j hj => ((h.inn j hj).setCell hp u).wide (by simp [World.setCell]), h.far⟩
theorem Inn.succ {w w' : World} {lo : Nat} {As : Nat → Option Addr} {Cs : Nat → Nat} {ks : List Key} {k : Nat} {A : Option Addr} {c : Nat} (h : Inn w lo As Cs ks k) (hb : Below w.heap.size w w') (hlo : lo ≤ w.heap.size)
    (hown : w'.ownsRow w.heap.size 61 2 (.slice A (kd ks k).2.length c) (kd ks k).2.length (flat (kd ks k).2)) : Inn w' lo (upd As k A) (upd Cs k c) ks (k + 1) := by
  constructor
  · intro j hj
    by_cases e : j = k
    · subst e
      rw [upd_at, upd_at]
      exact OP.mk (hown.mono hlo)
    · rw [upd_lt _ _ _ (by omega), upd_lt _ _ _ (by omega)]
      exact (h.below hb).inn j (by omega)
  · intro i j hi hj hne g
    by_cases e : i = k
    · subst e
      rw [upd_at, upd_lt _ _ _ (by omega)]
      intro h1 h2
      have a1 := (hown.lt g (by rw [own_blk]; exact h1)).1
      have a2 := (h.inn j (by omega)).2 g (by rw [own_blk]; exact h2)
      omega
    · by_cases e2 : j = k
      · subst e2
        rw [upd_at, upd_lt _ _ _ (by omega)]
        intro h1 h2
        have a1 := (hown.lt g (by rw [own_blk]; exact h2)).1
        have a2 := (h.inn i (by omega)).2 g (by rw [own_blk]; exact h1)
        omega
      · rw [upd_lt _ _ _ (by omega), upd_lt _ _ _ (by omega)]
        exact h.far i j (by omega) (by omega) hne g
set_option maxHeartbeats 2000000 in
theorem toKeyPoseS_any {hi : Nat} (A : Option Addr) (n c : Nat) (ks : List Key) (w : World) (hn : kbulk ks ≤ 1048576) (hA : KR w hi A n ks) :
    Calls Try.prog 30 #[.slice A n c] w (KyR w.heap.size ks w) := by
  have hl := hA.1
  have hn1 := kbulk_len ks
  obtain ⟨i0, hi, hz0, hz1, hz2⟩ := info_parts info_Key
  have HA := Lib.hid hA
  have HL := Lib.hid hl
  have HN := Lib.hid hn
  have hn2 : n ≤ 1048576 := by omega
  clear hA hl hn hn1
  go_enter Try.func30, Try.ntmps30
  go_wp2_with (at_make; refine wpList_make_full _ rfl _ _ 41 rfl w.heap.size 74 i0 (.agg #[.int .i64 0, .slice none 0 0]) 2 Try.underlying41 hi hz0 hz1 _ _ _ _ n rfl rfl rfl rfl (by rw [hz2]; omega) (by unfold maxLen; omega) (Nat.le_refl _) ?_; intro w1 hown hgrow)
  have hb1 : Below w.heap.size w w1 := (Below.refl _ _).grown hgrow (Nat.le_refl _) (fun k hk => by cases hk)
  have ho1 : w1.ownsRow w.heap.size 74 2 (.slice (some ⟨w.heap.size, 0, none⟩) n n) n (kfl (fun _ => none) (fun _ => 0) (ks.take 0) ++ zK n) := by
    rw [← made_key]; simpa [Value.cells, kfl] using hown
  have HO1 := Lib.hid ho1
  have HB1 := Lib.hid hb1
  clear ho1 hb1 hown hgrow
  go_loopw [4] (fun i wr => ∃ (k : Nat) (As : Nat → Option Addr) (Cs : Nat → Nat), k ≤ n ∧ i = .int .i64 k ∧ wr.ownsRow w.heap.size 74 2 (.slice (some ⟨w.heap.size, 0, none⟩) n n) n (kfl As Cs (ks.take k) ++ zK (n - k)) ∧ Inn wr (w.heap.size + 1) As Cs ks k ∧ Below w.heap.size w wr) (fun i _ => n - (intOf i).toNat)
  case atStart => exact ⟨0, _, _, Nat.zero_le _, rfl, HO1.out, Inn.zero _ _ _ _ _, HB1.out⟩
  case round =>
    obtain ⟨k, As, Cs, hk, rfl, ho, hin, hb⟩ := hrel
    have HO := Lib.hid ho
    have HI := Lib.hid hin
    have HB := Lib.hid hb
    clear ho hb hin
    by_cases hlt : k < n
    · obtain ⟨b, o, Aj, cj, hAA, _, hbl, g1, g2, hp⟩ := (HA.out.below HB.out).at_ hlt
      subst hAA
      have hlk : (ks.take k).length = k := by rw [List.length_take, HL.out]; omega
      have hkl : (kd ks k).2.length ≤ 1048576 := by have := klen_le ks k (by rw [HL.out]; exact hlt); have := HN.out; omega
      have hz : w.heap.size < wr.heap.size := (HO.out.lt w.heap.size rfl).2
      have hs := set2_mid (kfl As Cs (ks.take k)) k (n - (k + 1)) (.int .i64 (kd ks k).1)
      have hlen2 : (kfl As Cs (ks.take k) ++ zK (n - k)).length = n * 2 := by rw [List.length_append, kfl_len, zK_len, hlk]; omega
      have hc2 : wr.cell? ⟨w.heap.size, k * 2, none⟩ = some ((kfl As Cs (ks.take k) ++ zK (n - k))[k * 2]'(by omega)) := by rw [HO.out.cellAt (k * 2) (by omega)]; exact List.getElem?_eq_getElem _
      have hc3 : wr.cell? ⟨w.heap.size, k * 2 + 1, none⟩ = some ((kfl As Cs (ks.take k) ++ zK (n - k))[k * 2 + 1]'(by omega)) := by rw [HO.out.cellAt (k * 2 + 1) (by omega)]; exact List.getElem?_eq_getElem _
      have hf2 := HO.out.frozenAt (k * 2)
      have hf3 := HO.out.frozenAt (k * 2 + 1)
      obtain ⟨u0, hu0⟩ : ∃ u, u = (kfl As Cs (ks.take k) ++ zK (n - k))[k * 2]'(by omega) := ⟨_, rfl⟩
      obtain ⟨u1, hu1⟩ : ∃ u, u = (kfl As Cs (ks.take k) ++ zK (n - k))[k * 2 + 1]'(by omega) := ⟨_, rfl⟩
      rw [← hu0] at hc2
      rw [← hu1] at hc3
      have HP := Lib.hid hp
      have HS := Lib.hid hs
      have HLK := Lib.hid hlk
      clear hu0 hu1 hs hp hlk hlen2
      go_wp2_with fail
      refine (toKeyPose_any _ _ _ _ _ _ hkl HP.out.pi).mono ?_
      rintro e w2 ⟨A1, c1, rfl, own2, hb2⟩
      have d2 : w2.cell? ⟨w.heap.size, k * 2, none⟩ = some u0 := bcell_of hb2 hc2
      have d3 : w2.cell? ⟨w.heap.size, k * 2 + 1, none⟩ = some u1 := bcell_of hb2 hc3
      have f2 : w2.frozen? ⟨w.heap.size, k * 2, none⟩ = false := bfroz_of hb2 hc2 hf2
      have f3 : w2.frozen? ⟨w.heap.size, k * 2 + 1, none⟩ = false := bfroz_of hb2 hc3 hf3
      have HO2 := Lib.hid (own_below HO.out hb2)
      have HB2 := Lib.hid (bl_tr HB.out hb2)
      have HI2 := Lib.hid (HI.out.succ hb2 (by omega) own2)
      clear own2 hb2 hc2 hc3 hf2 hf3
      go_wp2
      go_roundw
      case rel =>
        have s1 := HO2.out.stored (k * 2) (.int .i64 (kd ks k).1)
        have s2 := s1.1.stored (k * 2 + 1) (.slice A1 (kd ks k).2.length c1)
        rw [show n - k = n - (k + 1) + 1 by omega, HS.out _ (by rw [kfl_len, HLK.out])] at s2
        have e1 := kfl_snoc As Cs (ks.take k) (kd ks k) A1 c1
        rw [HLK.out] at e1
        rw [← e1, ← take_kd (by rw [HL.out]; exact hlt)] at s2
        exact ⟨k + 1, _, _, by omega, by go_num, s2.1, (HI2.out.setCell (p := ⟨w.heap.size, k * 2, none⟩) (by simp) _).setCell (p := ⟨w.heap.size, k * 2 + 1, none⟩) (by simp) _, (HB2.out.setCell (p := ⟨w.heap.size, k * 2, none⟩) (Nat.le_refl _) _).setCell (p := ⟨w.heap.size, k * 2 + 1, none⟩) (Nat.le_refl _) _⟩
      case measure => simp [intOf]; omega
    · go_wp2
      go_ret
      have e : k = n := by omega
      have hl := HL.out
      subst e
      subst hl
      have h1 := HO.out
      rw [Nat.sub_self, List.take_length, zK, List.append_nil] at h1
      exact ⟨_, _, rfl, ⟨As, Cs, rfl, h1, fun k hk => (h1.lt k hk).2, fun j hj => ⟨((HI.out.inn j hj).1).mono (by omega), (HI.out.inn j hj).2⟩, HI.out.far⟩, HB.out⟩
end Go.Proofs.Ytofjohkhhomldaa

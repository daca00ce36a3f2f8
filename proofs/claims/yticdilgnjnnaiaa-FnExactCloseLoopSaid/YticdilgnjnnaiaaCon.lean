/-
  PROVED HERE: contracts of slices.Grow (at nil) and slices.Concat (of two slices), and of a loop that is turned. CONDITIONS: as each theorem names them.
-/
import Derived.Test.YticdilgnjnnaiaaSt
import Derived.Lib.AppendZerosOnto
namespace Go.Proofs.Yticdilgnjnnaiaa
open Go.RowKit

theorem RI.news {w : World} {b o n : Nat} {xs : List Int} (h : RI w (some ⟨b, o, none⟩) n xs) : ∀ j u, (xs.map (Value.int .i64))[j]? = some u → w.cell? ((⟨b, o, none⟩ : Addr).add j) = some u := by
  intro j u hj
  have hlt : j < xs.length := by
    rcases Nat.lt_or_ge j xs.length with h1 | h1
    · exact h1
    · rw [List.getElem?_eq_none (by simpa using h1)] at hj; cases hj
  obtain ⟨b1, o1, e, hc⟩ := h.at_ (k := j) (by rw [← h.1]; exact hlt)
  injection e with e; injection e with e1 e2 e3
  subst e1 e2
  rw [Addr.add_lit, hc]
  simpa [List.getD, hlt] using hj
theorem own_cap {w : World} {base e s : Nat} {A : Option Addr} {n c : Nat} {xs : List Value} (h : w.ownsRow base e s (.slice A n c) n xs) : 0 < n → n ≤ c ∧ c ≤ maxLen := fun hn => by
  rcases h.2 with ⟨_, h0⟩ | ⟨g, cap, cur, hv, _, _, h1, h2, _⟩
  · omega
  · injection hv with _ _ e; subst e; exact ⟨h1, h2⟩
theorem ints_one (xs : List Int) : ∀ u ∈ xs.map (Value.int .i64), u.oneCell' = true := by
  intro u hu
  obtain ⟨x, _, rfl⟩ := List.mem_map.1 hu
  rfl
def GrR (w : World) (e : Ending) (w' : World) : Prop := ∃ G, e = .returned (.slice (some ⟨w.heap.size, 0, none⟩) 0 G) ∧ w'.ownsRow w.heap.size 2 1 (.slice (some ⟨w.heap.size, 0, none⟩) 0 G) 0 [] ∧ Below w.heap.size w w'
set_option maxHeartbeats 1000000 in
theorem Grow_nil (n : Nat) (w : World) (h1 : 1 ≤ n) (h2 : n ≤ 1048576) :
    Calls Try.prog 57 #[.slice none 0 0, .int .i64 n] w (GrR w) := by
  obtain ⟨i0, hi, hz0, hz1, hz2⟩ := info_parts info_int64
  have hrz : ∀ ty, (Builtin.append_ #[22, 3] ty #[.slice none 0 0, .int .i64 (n : Int)]).run Try.prog w = _ := fun ty =>
    Lib.run_append_grow_zeros w 22 3 ty 2 i0 (.int .i64 0) .i64 .i64 Try.underlying22 Try.underlying3 hi hz0 none 0 0 [] (by rw [hz1]; exact run_firstCells_none w.drew 1 0 0 0) n (by omega) (by omega) (by omega) (by omega) (by rw [hz2]; omega) (by rw [hz2]; exact growslice_fits (by omega) (by omega))
  have g1 := grownCap_ge w (0 + n) 0 2
  have g2 := grownCap_le_maxLen w (0 + n) 0 2 (by unfold maxLen; omega)
  obtain ⟨G, hG⟩ : ∃ G, G = grownCap w (0 + n) 0 2 := ⟨_, rfl⟩
  rw [← hG] at hrz g1 g2
  have g3 : G ≤ 9223372036854775807 := by unfold maxLen at g2; omega
  have hown : (w.alloc (.cells (Builtin.zeroCells #[.int .i64 0] n ++ Builtin.zeroCells #[.int .i64 0] (G - n)) 2)).drew.ownsRow w.heap.size 2 1 (.slice (some ⟨w.heap.size, 0, none⟩) 0 G) 0 [] :=
    ⟨rfl, .inr ⟨w.heap.size, G, _, rfl, Nat.le_refl _, heap_alloc_new w _, Nat.zero_le _, g2, by simp [size_zeroCells]; omega, by simp⟩⟩
  have HO := Lib.hid hown
  clear hG hown g2
  go_enter Try.func57, Try.ntmps57
  go_wp2_with (at_builtin; refine Lib.wpList_append_run _ rfl _ _ _ _ rfl _ _ rfl rfl _ _ (hrz _) ?_)
  go_ret
  exact ⟨G, rfl, HO.out, ((Below.refl _ _).alloc (Nat.le_refl _) _).drew⟩
set_option maxHeartbeats 2000000 in
theorem Concat_two (g b1 o1 n1 c1 b2 o2 n2 c2 : Nat) (xs ys : List Int) (w : World) (h0 : w.cell? ⟨g, 0, none⟩ = some (.slice (some ⟨b1, o1, none⟩) n1 c1)) (h1 : w.cell? ⟨g, 1, none⟩ = some (.slice (some ⟨b2, o2, none⟩) n2 c2))
    (hA : RI w (some ⟨b1, o1, none⟩) n1 xs) (hB : RI w (some ⟨b2, o2, none⟩) n2 ys) (hp : 1 ≤ n1 + n2) (hm1 : n1 ≤ 1000) (hm2 : n2 ≤ 1000) :
    Calls Try.prog 56 #[.slice (some ⟨g, 0, none⟩) 2 2] w (SlR w.heap.size (xs ++ ys) w) := by
  obtain ⟨i0, hi, hz0, hz1, hz2⟩ := info_parts info_int64
  have hl1 := hA.1
  have hl2 := hB.1
  have HA := Lib.hid hA
  have HB := Lib.hid hB
  have HL1 := Lib.hid hl1
  have HL2 := Lib.hid hl2
  clear hA hB hl1 hl2
  go_enter Try.func56, Try.ntmps56
  go_wp2
  go_loopw [3, 5, 11] (fun s _ i wr => w = wr ∧ ((i = .int .i64 0 ∧ s = .int .i64 0) ∨ (i = .int .i64 1 ∧ s = .int .i64 n1) ∨ (i = .int .i64 2 ∧ s = .int .i64 (n1 + n2)))) (fun _ _ i _ => 2 - (intOf i).toNat)
  case atStart => exact ⟨rfl, .inl ⟨rfl, rfl⟩⟩
  case round =>
    obtain ⟨rfl, hrel⟩ := hrel
    rcases hrel with ⟨rfl, rfl⟩ | ⟨rfl, rfl⟩ | ⟨rfl, rfl⟩
    · go_wp2
      go_roundw
      case rel => exact ⟨by first | trivial | rfl, .inr (.inl ⟨by go_num, by go_num⟩)⟩
      case measure => simp [intOf]
    · go_wp2
      go_roundw
      case rel => exact ⟨by first | trivial | rfl, .inr (.inr ⟨by go_num, by go_num⟩)⟩
      case measure => simp [intOf]
    · have hn0 : ((n1 + n2 : Nat) : Int) = (n1 : Int) + (n2 : Int) := by omega
      go_wp2_with (first | (go_at_call 57; rw [← hn0]; refine (Grow_nil (n1 + n2) _ hp (by omega)).mono ?_; rintro e w1 ⟨G, rfl, ho, hb⟩))
      have HO1 := Lib.hid ho
      have HB1 := Lib.hid hb
      clear ho hb
      have hg := World.block_lt_of_cell? w _ h0
      go_wp2
      go_loopw [6, 8, 27] (fun v _ i wq => Below w.heap.size w wq ∧ ((i = .int .i64 0 ∧ wq.ownsRow w.heap.size 2 1 v 0 []) ∨ (i = .int .i64 1 ∧ wq.ownsRow w.heap.size 2 1 v n1 (xs.map (Value.int .i64))) ∨ (i = .int .i64 2 ∧ wq.ownsRow w.heap.size 2 1 v (n1 + n2) ((xs ++ ys).map (Value.int .i64))))) (fun _ _ i _ => 2 - (intOf i).toNat)
      case atStart => exact ⟨HB1.out, .inl ⟨rfl, HO1.out⟩⟩
      case round =>
        obtain ⟨hb, hrel⟩ := hrel
        have HBl := Lib.hid hb
        have h0' := bcell_of hb h0
        have h1' := bcell_of hb h1
        clear hb h0 h1
        rcases hrel with ⟨rfl, ho⟩ | ⟨rfl, ho⟩ | ⟨rfl, ho⟩
        · have HO := Lib.hid ho
          clear ho
          go_wp2_with (at_builtin; refine wpList_append_own _ rfl _ _ 22 rfl w.heap.size 2 i0 (.int .i64 0) 1 8 Try.underlying22 hi hz0 hz1 hz2 rfl (by decide) _ _ _ rfl HO.out ⟨b1, o1, none⟩ n1 c1 (xs.map (Value.int .i64)) rfl (by simp [HL1.out]) (RI.news (HA.out.below HBl.out)) (ints_one _) (by unfold maxLen; omega) (by omega) HBl.out.size ?_; intro v' w2 hown' hgrow _)
          have hb2 := HBl.out.grown hgrow HBl.out.size (fun j hj => (HO.out.lt j hj).1)
          go_roundw
          case rel => exact ⟨hb2, .inr (.inl ⟨by go_num, by simpa using hown'⟩)⟩
          case measure => simp [intOf]
        · have HO := Lib.hid ho
          clear ho
          go_wp2_with (at_builtin; refine wpList_append_own _ rfl _ _ 22 rfl w.heap.size 2 i0 (.int .i64 0) 1 8 Try.underlying22 hi hz0 hz1 hz2 rfl (by decide) _ _ _ rfl HO.out ⟨b2, o2, none⟩ n2 c2 (ys.map (Value.int .i64)) rfl (by simp [HL2.out]) (RI.news (HB.out.below HBl.out)) (ints_one _) (by unfold maxLen; omega) (by omega) HBl.out.size ?_; intro v' w2 hown' hgrow _)
          have hb2 := HBl.out.grown hgrow HBl.out.size (fun j hj => (HO.out.lt j hj).1)
          go_roundw
          case rel => exact ⟨hb2, .inr (.inr ⟨by go_num, by simpa using hown'⟩)⟩
          case measure => simp [intOf]
        · have HO := Lib.hid ho
          clear ho
          go_wp2
          go_ret
          exact SlR.mk (by simp [HL1.out, HL2.out]) HO.out HBl.out
end Go.Proofs.Yticdilgnjnnaiaa

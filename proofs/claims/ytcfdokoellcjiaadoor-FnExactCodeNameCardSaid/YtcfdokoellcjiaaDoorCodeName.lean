/-
  PROVED HERE: the walk of CodeName: the program and the reference agree. CONDITIONS: the table of names reads as the program's text lays it.
-/
import Derived.Test.YtcfdokoellcjiaaDoorBase
import Derived.LaidLaws
import Derived.OpenShut
import Derived.Lib.LaidTab
namespace Go.Proofs.YtcfdokoellcjiaaDoor
open Go.RowKit

/-- The codes' names. -/
def nmL : List (List UInt8) := [[111, 107], [105, 110, 118, 97, 108, 105, 100], [114, 97, 110, 103, 101], [110, 111, 116, 45, 102, 111, 117, 110, 100], [101, 120, 105, 115, 116, 115], [102, 117, 108, 108], [115, 116, 97, 116, 101], [115, 121, 110, 116, 97, 120], [102, 111, 114, 109, 97, 116], [99, 108, 97, 115, 104], [100, 97, 114, 107]]
def nmS (n : Int) : ByteArray := if inB n 0 10 then ⟨(nmL.getD n.toNat []).toArray⟩ else ⟨#[]⟩
def Nms (w : World) : Prop := ∀ i : Nat, i < 11 → w.cell? ⟨0, i, none⟩ = some (.string ⟨(nmL.getD i []).toArray⟩)
theorem Nms.below {w w' : World} (h : Nms w) (hb : Below w.heap.size w w') : Nms w' := fun i hi => bcell_of hb (h i hi)
theorem strs_of {H : Type} {enc : TypeId × Value → H} {P : Program} {w : World} {base : Nat} {sp : Nat → Bool} {held : Bool} {fuel : Nat} {t e : TypeId} {n : Nat} {cs : List Value} {ls : List (List UInt8)} {p : List MemPlace}
    (ht : P.underlying t = some (.array n e)) (he : P.underlying e = some .string) (hce : P.cellsOf e = 1) (hct : P.cellsOf t = n)
    (h : DataW.trod enc P w base sp held fuel t cs = some (.agg (ls.map fun l => .lit (.string l)), p)) : cs = ls.map fun l => Value.string ⟨l.toArray⟩ := by
  obtain ⟨xs, m, _, hx, hl, hn, hel⟩ := DataW.trod_array ht h
  rw [hct] at hl
  have hxs : xs.map (·.1) = ls.map fun l => (DataW.lit (.string l) : DataW H) := by
    have := congrArg Prod.fst hx
    simpa using this.symm
  have hll : ls.length = n := by
    have := congrArg List.length hxs
    simp at this
    omega
  apply List.ext_getElem?
  intro i
  by_cases hi : i < n
  · have h1 := hel i hi
    rw [hce, Nat.mul_one] at h1
    have h2 : xs[i]? = some (xs[i]'(by omega)) := List.getElem?_eq_getElem _
    rw [h2] at h1
    obtain ⟨s, hc, e2, _⟩ := DataW.trod_string he h1
    have h3 : (xs.map (·.1))[i]? = (ls.map fun l => (DataW.lit (.string l) : DataW H))[i]? := by rw [hxs]
    rw [List.getElem?_map, List.getElem?_map, h2, List.getElem?_eq_getElem (show i < ls.length by omega)] at h3
    simp only [Option.map_some, Option.some.injEq] at h3
    rw [e2] at h3
    have h4 : s.data.toList = ls[i]'(by omega) := by injection h3 with h3; injection h3
    rw [List.getElem?_map, List.getElem?_eq_getElem (show i < ls.length by omega), Option.map_some, ← h4]
    have h5 : (cs.drop i).take 1 = [cs[i]'(by omega)] := by
      rw [List.drop_eq_getElem_cons (by omega)]; rfl
    rw [h5] at hc
    rw [List.getElem?_eq_getElem (show i < cs.length by omega)]
    injection hc with hc
    rw [hc]
  · rw [List.getElem?_eq_none (by omega), List.getElem?_eq_none (by simp; omega)]
theorem ret_str {a b : ByteArray} (h : a = b) : Ending.returned (.string a) = .returned (.string b) := by rw [h]
theorem nmS_out {n : Int} (h : inB n 0 10 = false) : nmS n = ⟨#[]⟩ := by simp [nmS, h]
set_option maxHeartbeats 2000000 in
theorem CodeName_any (n : Int) (w : World) (hN : Nms w) :
    Calls Tryd.prog 5 #[.int .i64 n] w fun e w' => e = .returned (.string (nmS n)) ∧ Below w.heap.size w w' := by
  have HN := Lib.hid hN
  clear hN
  cases h0 : inB n 0 10
  case false =>
    rw [nmS_out h0]
    go_enter Tryd.func5, Tryd.ntmps5
    go_wp2_with (go_at_call 7; refine (within_v h0 _).mono ?_; rintro e w' ⟨rfl, rfl⟩)
    go_ret
    exact ⟨rfl, by first | exact Below.refl _ _ | exact bl_al (Below.refl _ _) _⟩
  have hb := inB_t h0
  have hc : n = 0 ∨ n = 1 ∨ n = 2 ∨ n = 3 ∨ n = 4 ∨ n = 5 ∨ n = 6 ∨ n = 7 ∨ n = 8 ∨ n = 9 ∨ n = 10 := by omega
  clear hb
  rcases hc with rfl | rfl | rfl | rfl | rfl | rfl | rfl | rfl | rfl | rfl | rfl
  · have hS : nmS 0 = ⟨#[111, 107]⟩ := rfl
    rw [hS]
    have hcell : w.cell? ⟨0, 0, none⟩ = some (.string ⟨#[111, 107]⟩) := HN.out 0 (by decide)
    go_enter Tryd.func5, Tryd.ntmps5
    go_wp2_with (go_at_call 7; refine (within_v h0 _).mono ?_; rintro e w' ⟨rfl, rfl⟩)
    go_ret
    exact ⟨rfl, by first | exact Below.refl _ _ | exact bl_al (Below.refl _ _) _⟩
  · have hS : nmS 1 = ⟨#[105, 110, 118, 97, 108, 105, 100]⟩ := rfl
    rw [hS]
    have hcell : w.cell? ⟨0, 1, none⟩ = some (.string ⟨#[105, 110, 118, 97, 108, 105, 100]⟩) := HN.out 1 (by decide)
    go_enter Tryd.func5, Tryd.ntmps5
    go_wp2_with (go_at_call 7; refine (within_v h0 _).mono ?_; rintro e w' ⟨rfl, rfl⟩)
    go_ret
    exact ⟨rfl, by first | exact Below.refl _ _ | exact bl_al (Below.refl _ _) _⟩
  · have hS : nmS 2 = ⟨#[114, 97, 110, 103, 101]⟩ := rfl
    rw [hS]
    have hcell : w.cell? ⟨0, 2, none⟩ = some (.string ⟨#[114, 97, 110, 103, 101]⟩) := HN.out 2 (by decide)
    go_enter Tryd.func5, Tryd.ntmps5
    go_wp2_with (go_at_call 7; refine (within_v h0 _).mono ?_; rintro e w' ⟨rfl, rfl⟩)
    go_ret
    exact ⟨rfl, by first | exact Below.refl _ _ | exact bl_al (Below.refl _ _) _⟩
  · have hS : nmS 3 = ⟨#[110, 111, 116, 45, 102, 111, 117, 110, 100]⟩ := rfl
    rw [hS]
    have hcell : w.cell? ⟨0, 3, none⟩ = some (.string ⟨#[110, 111, 116, 45, 102, 111, 117, 110, 100]⟩) := HN.out 3 (by decide)
    go_enter Tryd.func5, Tryd.ntmps5
    go_wp2_with (go_at_call 7; refine (within_v h0 _).mono ?_; rintro e w' ⟨rfl, rfl⟩)
    go_ret
    exact ⟨rfl, by first | exact Below.refl _ _ | exact bl_al (Below.refl _ _) _⟩
  · have hS : nmS 4 = ⟨#[101, 120, 105, 115, 116, 115]⟩ := rfl
    rw [hS]
    have hcell : w.cell? ⟨0, 4, none⟩ = some (.string ⟨#[101, 120, 105, 115, 116, 115]⟩) := HN.out 4 (by decide)
    go_enter Tryd.func5, Tryd.ntmps5
    go_wp2_with (go_at_call 7; refine (within_v h0 _).mono ?_; rintro e w' ⟨rfl, rfl⟩)
    go_ret
    exact ⟨rfl, by first | exact Below.refl _ _ | exact bl_al (Below.refl _ _) _⟩
  · have hS : nmS 5 = ⟨#[102, 117, 108, 108]⟩ := rfl
    rw [hS]
    have hcell : w.cell? ⟨0, 5, none⟩ = some (.string ⟨#[102, 117, 108, 108]⟩) := HN.out 5 (by decide)
    go_enter Tryd.func5, Tryd.ntmps5
    go_wp2_with (go_at_call 7; refine (within_v h0 _).mono ?_; rintro e w' ⟨rfl, rfl⟩)
    go_ret
    exact ⟨rfl, by first | exact Below.refl _ _ | exact bl_al (Below.refl _ _) _⟩
  · have hS : nmS 6 = ⟨#[115, 116, 97, 116, 101]⟩ := rfl
    rw [hS]
    have hcell : w.cell? ⟨0, 6, none⟩ = some (.string ⟨#[115, 116, 97, 116, 101]⟩) := HN.out 6 (by decide)
    go_enter Tryd.func5, Tryd.ntmps5
    go_wp2_with (go_at_call 7; refine (within_v h0 _).mono ?_; rintro e w' ⟨rfl, rfl⟩)
    go_ret
    exact ⟨rfl, by first | exact Below.refl _ _ | exact bl_al (Below.refl _ _) _⟩
  · have hS : nmS 7 = ⟨#[115, 121, 110, 116, 97, 120]⟩ := rfl
    rw [hS]
    have hcell : w.cell? ⟨0, 7, none⟩ = some (.string ⟨#[115, 121, 110, 116, 97, 120]⟩) := HN.out 7 (by decide)
    go_enter Tryd.func5, Tryd.ntmps5
    go_wp2_with (go_at_call 7; refine (within_v h0 _).mono ?_; rintro e w' ⟨rfl, rfl⟩)
    go_ret
    exact ⟨rfl, by first | exact Below.refl _ _ | exact bl_al (Below.refl _ _) _⟩
  · have hS : nmS 8 = ⟨#[102, 111, 114, 109, 97, 116]⟩ := rfl
    rw [hS]
    have hcell : w.cell? ⟨0, 8, none⟩ = some (.string ⟨#[102, 111, 114, 109, 97, 116]⟩) := HN.out 8 (by decide)
    go_enter Tryd.func5, Tryd.ntmps5
    go_wp2_with (go_at_call 7; refine (within_v h0 _).mono ?_; rintro e w' ⟨rfl, rfl⟩)
    go_ret
    exact ⟨rfl, by first | exact Below.refl _ _ | exact bl_al (Below.refl _ _) _⟩
  · have hS : nmS 9 = ⟨#[99, 108, 97, 115, 104]⟩ := rfl
    rw [hS]
    have hcell : w.cell? ⟨0, 9, none⟩ = some (.string ⟨#[99, 108, 97, 115, 104]⟩) := HN.out 9 (by decide)
    go_enter Tryd.func5, Tryd.ntmps5
    go_wp2_with (go_at_call 7; refine (within_v h0 _).mono ?_; rintro e w' ⟨rfl, rfl⟩)
    go_ret
    exact ⟨rfl, by first | exact Below.refl _ _ | exact bl_al (Below.refl _ _) _⟩
  · have hS : nmS 10 = ⟨#[100, 97, 114, 107]⟩ := rfl
    rw [hS]
    have hcell : w.cell? ⟨0, 10, none⟩ = some (.string ⟨#[100, 97, 114, 107]⟩) := HN.out 10 (by decide)
    go_enter Tryd.func5, Tryd.ntmps5
    go_wp2_with (go_at_call 7; refine (within_v h0 _).mono ?_; rintro e w' ⟨rfl, rfl⟩)
    go_ret
    exact ⟨rfl, by first | exact Below.refl _ _ | exact bl_al (Below.refl _ _) _⟩
set_option maxHeartbeats 2000000 in
theorem lCodeName_any (n : Int) (w : World)  :
    Calls Tryd.prog 4 #[.int .i64 n] w fun e w' => e = .returned (.string (nmS n)) ∧ Below w.heap.size w w' := by
  skip
  cases h0 : inB n 0 10
  case false =>
    rw [nmS_out h0]
    go_enter Tryd.func4, Tryd.ntmps4
    go_wp2_with (go_at_call 6; refine (l00In_v h0 _).mono ?_; rintro e w' ⟨rfl, rfl⟩)
    go_ret
    exact ⟨rfl, by first | exact Below.refl _ _ | exact bl_al (Below.refl _ _) _⟩
  have hb := inB_t h0
  have hc : n = 0 ∨ n = 1 ∨ n = 2 ∨ n = 3 ∨ n = 4 ∨ n = 5 ∨ n = 6 ∨ n = 7 ∨ n = 8 ∨ n = 9 ∨ n = 10 := by omega
  clear hb
  rcases hc with rfl | rfl | rfl | rfl | rfl | rfl | rfl | rfl | rfl | rfl | rfl
  · have hS : nmS 0 = ⟨#[111, 107]⟩ := rfl
    rw [hS]
    skip
    go_enter Tryd.func4, Tryd.ntmps4
    go_wp2_with (go_at_call 6; refine (l00In_v h0 _).mono ?_; rintro e w' ⟨rfl, rfl⟩)
    go_ret
    exact ⟨rfl, by first | exact Below.refl _ _ | exact bl_al (Below.refl _ _) _⟩
  · have hS : nmS 1 = ⟨#[105, 110, 118, 97, 108, 105, 100]⟩ := rfl
    rw [hS]
    skip
    go_enter Tryd.func4, Tryd.ntmps4
    go_wp2_with (go_at_call 6; refine (l00In_v h0 _).mono ?_; rintro e w' ⟨rfl, rfl⟩)
    go_ret
    exact ⟨rfl, by first | exact Below.refl _ _ | exact bl_al (Below.refl _ _) _⟩
  · have hS : nmS 2 = ⟨#[114, 97, 110, 103, 101]⟩ := rfl
    rw [hS]
    skip
    go_enter Tryd.func4, Tryd.ntmps4
    go_wp2_with (go_at_call 6; refine (l00In_v h0 _).mono ?_; rintro e w' ⟨rfl, rfl⟩)
    go_ret
    exact ⟨rfl, by first | exact Below.refl _ _ | exact bl_al (Below.refl _ _) _⟩
  · have hS : nmS 3 = ⟨#[110, 111, 116, 45, 102, 111, 117, 110, 100]⟩ := rfl
    rw [hS]
    skip
    go_enter Tryd.func4, Tryd.ntmps4
    go_wp2_with (go_at_call 6; refine (l00In_v h0 _).mono ?_; rintro e w' ⟨rfl, rfl⟩)
    go_ret
    exact ⟨rfl, by first | exact Below.refl _ _ | exact bl_al (Below.refl _ _) _⟩
  · have hS : nmS 4 = ⟨#[101, 120, 105, 115, 116, 115]⟩ := rfl
    rw [hS]
    skip
    go_enter Tryd.func4, Tryd.ntmps4
    go_wp2_with (go_at_call 6; refine (l00In_v h0 _).mono ?_; rintro e w' ⟨rfl, rfl⟩)
    go_ret
    exact ⟨rfl, by first | exact Below.refl _ _ | exact bl_al (Below.refl _ _) _⟩
  · have hS : nmS 5 = ⟨#[102, 117, 108, 108]⟩ := rfl
    rw [hS]
    skip
    go_enter Tryd.func4, Tryd.ntmps4
    go_wp2_with (go_at_call 6; refine (l00In_v h0 _).mono ?_; rintro e w' ⟨rfl, rfl⟩)
    go_ret
    exact ⟨rfl, by first | exact Below.refl _ _ | exact bl_al (Below.refl _ _) _⟩
  · have hS : nmS 6 = ⟨#[115, 116, 97, 116, 101]⟩ := rfl
    rw [hS]
    skip
    go_enter Tryd.func4, Tryd.ntmps4
    go_wp2_with (go_at_call 6; refine (l00In_v h0 _).mono ?_; rintro e w' ⟨rfl, rfl⟩)
    go_ret
    exact ⟨rfl, by first | exact Below.refl _ _ | exact bl_al (Below.refl _ _) _⟩
  · have hS : nmS 7 = ⟨#[115, 121, 110, 116, 97, 120]⟩ := rfl
    rw [hS]
    skip
    go_enter Tryd.func4, Tryd.ntmps4
    go_wp2_with (go_at_call 6; refine (l00In_v h0 _).mono ?_; rintro e w' ⟨rfl, rfl⟩)
    go_ret
    exact ⟨rfl, by first | exact Below.refl _ _ | exact bl_al (Below.refl _ _) _⟩
  · have hS : nmS 8 = ⟨#[102, 111, 114, 109, 97, 116]⟩ := rfl
    rw [hS]
    skip
    go_enter Tryd.func4, Tryd.ntmps4
    go_wp2_with (go_at_call 6; refine (l00In_v h0 _).mono ?_; rintro e w' ⟨rfl, rfl⟩)
    go_ret
    exact ⟨rfl, by first | exact Below.refl _ _ | exact bl_al (Below.refl _ _) _⟩
  · have hS : nmS 9 = ⟨#[99, 108, 97, 115, 104]⟩ := rfl
    rw [hS]
    skip
    go_enter Tryd.func4, Tryd.ntmps4
    go_wp2_with (go_at_call 6; refine (l00In_v h0 _).mono ?_; rintro e w' ⟨rfl, rfl⟩)
    go_ret
    exact ⟨rfl, by first | exact Below.refl _ _ | exact bl_al (Below.refl _ _) _⟩
  · have hS : nmS 10 = ⟨#[100, 97, 114, 107]⟩ := rfl
    rw [hS]
    skip
    go_enter Tryd.func4, Tryd.ntmps4
    go_wp2_with (go_at_call 6; refine (l00In_v h0 _).mono ?_; rintro e w' ⟨rfl, rfl⟩)
    go_ret
    exact ⟨rfl, by first | exact Below.refl _ _ | exact bl_al (Below.refl _ _) _⟩
theorem law_CodeName (n : Int) (_wn : (Lit.int .i64 n).wf = true) (w : World) (hN : Nms w) :
    Calls Tryd.prog 3 #[.int .i64 n] w fun e w' => e = .returned (.bool true) ∧ Below w.heap.size w w' := by
  have HN := Lib.hid hN
  have c1 := fun W => lCodeName_any n W
  have c2 := fun W (h : Nms W) => CodeName_any n W h
  obtain ⟨D, hD⟩ : ∃ D, D = nmS n := ⟨_, rfl⟩
  rw [← hD] at c1 c2
  have C1 := Lib.hid c1
  have C2 := Lib.hid c2
  clear hN hD c1 c2
  go_enter Tryd.func3, Tryd.ntmps3
  go_wp2_with fail
  refine (C1.out _).mono ?_
  rintro e w1 ⟨rfl, hb1⟩
  have HB1 := Lib.hid hb1
  clear hb1
  go_wp2_with fail
  refine (C2.out _ (HN.out.below HB1.out)).mono ?_
  rintro e w2 ⟨rfl, hb2⟩
  go_wp2_with fail
  go_ret
  exact ⟨rfl, bl_tr HB1.out hb2⟩
end Go.Proofs.YtcfdokoellcjiaaDoor

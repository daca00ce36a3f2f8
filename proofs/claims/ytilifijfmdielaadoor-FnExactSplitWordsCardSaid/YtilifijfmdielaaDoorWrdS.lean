/-
  PROVED HERE: contracts of the words of a text, the reference's and the program's. CONDITIONS: as each theorem names them.
-/
import Derived.Test.YtilifijfmdielaaDoorWrdM
import Derived.Test.YtilifijfmdielaaDoorShelf
import Derived.Lib.OwnBridge
namespace Go.Proofs.YtilifijfmdielaaDoor
open Go.RowKit

/-- The words of a text. -/
def WL (s : ByteArray) : List ByteArray := (PB 32 s).filter fun x => !x.toList.isEmpty
theorem WL_len (s : ByteArray) : (WL s).length ≤ s.size + 1 := Nat.le_trans (List.length_filter_le _ _) (PB_len 32 s)
theorem own_base {w : World} {b b' e size n : Nat} {v : Value} {xs : List Value} (h : w.ownsRow b e size v n xs) (hb : b' ≤ b) : w.ownsRow b' e size v n xs := by
  refine ⟨h.1, ?_⟩
  rcases h.2 with hn | ⟨g, cap, cur, rfl, hbb, rest⟩
  · exact .inl hn
  · exact .inr ⟨g, cap, cur, rfl, Nat.le_trans hb hbb, rest⟩
theorem filt_succ {L : List ByteArray} {k : Nat} {x : ByteArray} (h : L[k]? = some x) (b : Bool) (hx : x.toList.isEmpty = b) : (L.take (k + 1)).filter (fun x => !x.toList.isEmpty) = (L.take k).filter (fun x => !x.toList.isEmpty) ++ (if b then [] else [x]) := by
  rw [List.take_add_one, h, List.filter_append]
  congr 1
  cases b <;> simp [hx]
set_option maxHeartbeats 2000000 in
theorem lSplitWords_any (s : ByteArray) (w : World) (hs : s.size ≤ 1048576) : Calls Tryd.prog 18 #[.string s] w (StR w.heap.size (WL s) w) := by
  obtain ⟨i0, hi, hz0, hz1, hz2⟩ := info_parts info_str
  have cs := l01Split_any s 32 w hs
  have hL := PB_len 32 s
  obtain ⟨L, hLL⟩ : ∃ L, L = PB 32 s := ⟨_, rfl⟩
  have HW := Lib.hid (show WL s = L.filter (fun x => !x.toList.isEmpty) from by rw [hLL]; rfl)
  rw [← hLL] at cs hL
  obtain ⟨n, hn⟩ : ∃ n, n = L.length := ⟨_, rfl⟩
  have hn2 : n ≤ 1048577 := by omega
  have HN := Lib.hid hn
  have CS := Lib.hid cs
  clear hLL hL hn cs
  go_enter Tryd.func18, Tryd.ntmps18
  go_wp2_with fail
  refine CS.out.mono ?_
  rintro e w1 ⟨A1, c1, rfl, own1, hb1⟩
  rw [← HN.out] at own1 ⊢
  have HR := Lib.hid (RT.of_own own1)
  have HB1 := Lib.hid hb1
  have hz := hb1.size
  clear own1 hb1
  go_wp2
  go_loopw [4, 5] (fun v i wr => ∃ (k : Nat) (P : List ByteArray), k ≤ n ∧ i = .int .i64 k ∧ P = (L.take k).filter (fun x => !x.toList.isEmpty) ∧ P.length ≤ k ∧ wr.ownsRow w1.heap.size 9 1 v P.length (P.map Value.string) ∧ Below w1.heap.size w1 wr) (fun _ i _ => n - (intOf i).toNat)
  case atStart => exact ⟨0, [], Nat.zero_le _, rfl, rfl, Nat.le_refl _, World.ownsRow_lit w1 #[] 0 (Nat.le_refl _) (Nat.zero_le _) (by simp), bl_al (Below.refl _ _) _⟩
  case round =>
    obtain ⟨k, P, hk, rfl, hP, hpl, ho, hb⟩ := hrel
    have HO := Lib.hid ho
    have HB := Lib.hid hb
    have HP := Lib.hid hP
    have hzz := hb.size
    clear ho hb hP
    obtain ⟨m, hm⟩ : ∃ m, m = P.length := ⟨_, rfl⟩
    have HM := Lib.hid hm
    rw [← hm] at hpl
    have HO1 := Lib.hid (show wr.ownsRow w1.heap.size 9 1 u4 m (P.map Value.string) from by rw [hm]; exact HO.out)
    clear hm HO
    by_cases hlt : k < n
    · obtain ⟨b1, o1, rfl, h1⟩ := (HR.out.below HB.out).at_ hlt
      have hg : L[k]? = some (L.getD k ByteArray.empty) := by
        have : k < L.length := by rw [← HN.out]; exact hlt
        simp [List.getD, this]
      obtain ⟨X, hX⟩ : ∃ X, X = L.getD k ByteArray.empty := ⟨_, rfl⟩
      rw [← hX] at h1 hg
      have s7 : IntKind.i64.wrap ((k : Int) + 1) = (k : Int) + 1 := w64d (by omega) (by omega)
      cases he : X.toList.isEmpty
      · have HF := Lib.hid (filt_succ hg false he)
        have HL := Lib.hid (show m + 1 = (P ++ [X]).length from by rw [List.length_append, ← HM.out]; rfl)
        have HC := Lib.hid (show (P ++ [X]).map Value.string = P.map Value.string ++ [.string X] from by rw [List.map_append]; rfl)
        clear hX hg
        go_wp2_with (at_builtin; refine wpList_append_own _ rfl _ _ 36 rfl w1.heap.size 9 i0 (.string ByteArray.empty) 1 16 Tryd.underlying36 hi hz0 hz1 hz2 rfl (by decide) _ _ _ rfl (HO1.out.alloc _) ⟨wr.heap.size, 0, none⟩ 1 1 [.string X] rfl rfl (cell_one_new _ _ _) (one_str _) (by unfold maxLen; omega) (by omega) (by simp; omega) ?_; intro v' w2 hown' hgrow _)
        have hb2 := (bl_al HB.out (.cells #[.string X] 9)).grown hgrow (by simp; omega) (fun j hj => (HO1.out.lt j hj).1)
        rw [← HC.out, HL.out] at hown'
        go_roundw
        case rel => exact ⟨k + 1, _, by omega, by go_num, by rw [HF.out, HP.out]; rfl, by rw [← HL.out]; omega, hown', hb2⟩
        case measure => simp [intOf]; omega
      · have HF := Lib.hid (filt_succ hg true he)
        clear hX hg
        go_wp2
        go_roundw
        case rel => exact ⟨k + 1, P, by omega, by go_num, by rw [HF.out, HP.out]; simp, by rw [← HM.out]; omega, by rw [← HM.out]; exact HO1.out, HB.out⟩
        case measure => simp [intOf]; omega
    · have hkn : k = n := by omega
      subst hkn
      have HE := Lib.hid (show WL s = P from by rw [HW.out, HP.out, List.take_of_length_le (by rw [← HN.out]; exact Nat.le_refl _)])
      go_wp2
      go_ret
      rw [HE.out]
      exact StR.mk HM.out.symm (own_base HO1.out hz) (bl_tr HB1.out HB.out)
end Go.Proofs.YtilifijfmdielaaDoor

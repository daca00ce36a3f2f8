/-
  PROVED HERE: contract of the program's words of a text. CONDITIONS: as each theorem names them.
-/
import Derived.Test.YtilifijfmdielaaDoorWrdS
namespace Go.Proofs.YtilifijfmdielaaDoor
open Go.RowKit

theorem eg35 : ∀ args w, (callFunc 35 args).run Tryd.prog w = .ok (.enter 35 args) w := enters_of Tryd.func35 (by kernel_rfl) rfl
theorem f35_any (x : ByteArray) (W : World) : FnGives Tryd.prog 35 #[] #[.string x] (.bool x.toList.isEmpty) W := by
  show Calls Tryd.prog 35 #[.string x] W _
  cases he : x.toList.isEmpty
  all_goals
    go_enter Tryd.func35, Tryd.ntmps35
    go_wp2
    go_ret
    exact ⟨rfl, 0, rfl⟩
theorem pad_take {F : List ByteArray} {n : Nat} (z : ByteArray) : (F ++ List.replicate n z).take F.length = F := by simp
set_option maxHeartbeats 2000000 in
theorem SplitWords_any (s : ByteArray) (w : World) (hs : s.size ≤ 1048576) (hM : ∃ m, w.cell? ⟨3, 0, none⟩ = some (.int .i64 m)) : Calls Tryd.prog 19 #[.string s] w (StR w.heap.size (WL s) w) := by
  obtain ⟨m, hm⟩ := hM
  have hcs := Tryd.strings_Split s ⟨#[32]⟩ m w (by omega) hm (by decide)
  have hlen := Lib.splitB_all ⟨#[32]⟩ (by decide) 0 _ s rfl
  rw [splitB_PB] at hcs hlen
  rw [← hlen] at hcs
  have hL := PB_len 32 s
  obtain ⟨L, hLL⟩ : ∃ L, L = PB 32 s := ⟨_, rfl⟩
  have hW : WL s = L.filter (fun x => !x.toList.isEmpty) := by rw [hLL]; rfl
  rw [← hLL] at hcs hL
  clear hLL hlen
  have hown : (w.alloc (.cells (L.map Value.string).toArray 9)).ownsRow w.heap.size 9 1 (.slice (some ⟨w.heap.size, 0, none⟩) L.length L.length) L.length (L.map Value.string) := by
    have := World.ownsRow_lit (e := 9) (size := 1) (base := w.heap.size) w (L.map Value.string).toArray L.length (Nat.le_refl _) (by unfold maxLen; omega) (by simp)
    simpa using this
  have hH : Sort.Holds Value.string (w.alloc (.cells (L.map Value.string).toArray 9)) w.heap.size 0 L.toArray := by
    obtain ⟨g, cap, e, _, _, _, _, _, h⟩ := Lib.holds_of_ownsRow hown (by simp)
    injection e with e1 _ _
    injection e1 with e1
    injection e1 with e1
    subst e1
    exact h
  have hdf := fun W (hH : Sort.Holds Value.string W w.heap.size 0 L.toArray) => Tryd.slices_DeleteFunc Value.string (fun _ => rfl) (fun x => x.toList.isEmpty) 35 #[] eg35 ByteArray.empty Tryd.zeroValue9 w.heap.size 0 L.toArray.size L.toArray W (fun W' x _ => f35_any x W') (fun _ _ _ x _ => f35_any x _) hH (by simp; omega) (Nat.le_refl _)
  have hb : Below w.heap.size w (w.alloc (.cells (L.map Value.string).toArray 9)) := bl_al (Below.refl _ _) _
  simp only [List.size_toArray] at hdf
  rw [← hW] at hdf
  have hfl : (WL s).length ≤ L.length := by rw [hW]; exact List.length_filter_le _ _
  obtain ⟨n, hn⟩ : ∃ n, n = L.length := ⟨_, rfl⟩
  have hfin : ∀ q, StR w.heap.size (WL s) w (.returned (.slice (some ⟨w.heap.size, 0, none⟩) (WL s).length n)) (Sort.putRow Value.string (Sort.ahead (w.alloc (.cells (L.map Value.string).toArray 9)) q) w.heap.size 0 (WL s ++ List.replicate (n - (WL s).length) ByteArray.empty).toArray) := by
    intro q
    subst hn
    have ho := Lib.ownsRow_putRow (q := q) (k := (WL s).length) (ys := WL s ++ List.replicate (L.length - (WL s).length) ByteArray.empty) hown (by simp; omega) hfl
    rw [pad_take] at ho
    exact ⟨_, _, rfl, ho, Lib.below_putRow hb (Nat.le_refl _)⟩
  have CS := Lib.hid hcs
  have CD := Lib.hid (hdf _ hH)
  obtain ⟨W1, hW1⟩ : ∃ W1, W1 = w.alloc (.cells (L.map Value.string).toArray 9) := ⟨_, rfl⟩
  rw [← hW1, ← hn] at CD CS
  rw [← hW1] at hfin
  obtain ⟨k, hk⟩ : ∃ k, k = (WL s).length := ⟨_, rfl⟩
  rw [← hk] at CD hfin
  have HF := Lib.hid hfin
  clear hcs hdf hH hown hb hW hfl hL hm hfin hW1 hn hk
  go_enter Tryd.func19, Tryd.ntmps19
  go_wp2_with (first | (go_at_call 34; refine CS.out.mono ?_; rintro e w' ⟨rfl, rfl⟩) | (go_at_call 33; refine CD.out.mono ?_; rintro e w' ⟨rfl, q, rfl⟩))
  go_ret
  exact HF.out _
end Go.Proofs.YtilifijfmdielaaDoor

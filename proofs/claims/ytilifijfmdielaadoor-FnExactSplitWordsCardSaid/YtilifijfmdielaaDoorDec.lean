/-
  PROVED HERE: contract of the reference's decimal numeral. CONDITIONS: the number is an int64.
-/
import Derived.Test.YtilifijfmdielaaDoorDecL
import Derived.Test.YtilifijfmdielaaDoorSl
import Derived.Laws.BytesArg
import Derived.Lib.SliceRun
namespace Go.Proofs.YtilifijfmdielaaDoor
open Go.RowKit

def bcs (ds : List UInt8) : List Value := ds.map fun c => Value.int .u8 (c.toNat : Int)
theorem bcs_len (ds : List UInt8) : (bcs ds).length = ds.length := by simp [bcs]
theorem bcs_one (ds : List UInt8) : ∀ u ∈ bcs ds, u.oneCell' = true := by
  intro u hu
  obtain ⟨x, _, rfl⟩ := List.mem_map.1 hu
  rfl
theorem info_u8 : (Tryd.prog.info? 5).map (fun i => (i.zero, i.size, i.bytes)) = some (some (.int .u8 0), 1, 1) := by kernel_rfl
theorem strOf_bcs (ds : List UInt8) : strOfNums (ds.map fun c => (c.toNat : Int)) = ⟨ds.toArray⟩ := by
  apply ByteArray.ext
  apply Array.ext'
  rw [strOfNums_data, List.map_map]
  simp [Function.comp_def]
theorem w64d {n : Int} (h1 : -9223372036854775808 ≤ n) (h2 : n ≤ 9223372036854775807) : IntKind.i64.wrap n = n := by rw [IntKind.wrap_i64]; omega
theorem ret_str {a b : ByteArray} (h : a = b) : Ending.returned (.string a) = .returned (.string b) := by rw [h]
theorem dig_toNat (u : Nat) : (UInt8.ofNat (48 + u % 10)).toNat = 48 + u % 10 := by
  rw [UInt8.toNat_ofNat']; omega
set_option maxHeartbeats 2000000 in
theorem l01Dec_any (n : Int) (w : World) (h1 : -9223372036854775808 ≤ n) (h2 : n ≤ 9223372036854775807) :
    Calls Tryd.prog 23 #[.int .i64 n] w fun e w' => e = .returned (.string ⟨(Lib.itoa n).toArray⟩) ∧ Below w.heap.size w w' := by
  obtain ⟨i0, hi, hz0, hz1, hz2⟩ := info_parts info_u8
  go_enter Tryd.func23, Tryd.ntmps23
  go_wp2
  go_loopw [3, 4, 5] (fun v i _ wr => ∃ (k : Int) (ds : List UInt8) (b c : Nat), i = .int .i64 k ∧ -9223372036854775808 ≤ k ∧ k ≤ 9223372036854775807 ∧ dgs n.natAbs = dgs k.natAbs ++ ds ∧ v = .slice (some ⟨b, 0, none⟩) ds.length c ∧ wr.ownsRow w.heap.size 5 1 (.slice (some ⟨b, 0, none⟩) ds.length c) ds.length (bcs ds) ∧ Below w.heap.size w wr) (fun _ i _ _ => (intOf i).natAbs)
  case atStart => exact ⟨n, [], w.heap.size, 0, rfl, h1, h2, by simp, rfl, World.ownsRow_lit w #[] 0 (Nat.le_refl _) (Nat.zero_le _) (by simp), (Below.refl _ _).alloc (Nat.le_refl _) _⟩
  case round =>
    obtain ⟨k, ds, b, c, rfl, k1, k2, hd, rfl, ho, hb⟩ := hrel
    have hdl := dgs_len20 h1 h2
    have hlen : ds.length ≤ 19 := by rw [hd, List.length_append] at hdl; omega
    have HO := Lib.hid ho
    have HB := Lib.hid hb
    have HD := Lib.hid hd
    have hz := hb.size
    clear ho hb hd hdl
    by_cases hk0 : k = 0
    · subst hk0
      have hds : ds = dgs n.natAbs := by have := HD.out; simpa [dgs] using this.symm
      by_cases hn0 : n = 0
      · subst hn0
        have hds2 : ds = [] := by rw [hds]; rfl
        subst hds2
        clear hds
        go_wp2
        go_ret
        exact ⟨ret_str (by rw [itoa_zero]), HB.out⟩
      · have hne : ds ≠ [] := by rw [hds]; exact dgs_ne (by omega)
        have hl0 : 0 < ds.length := List.length_pos_iff.2 hne
        have hl1 : ((ds.length : Int) == 0) = false := by simp; exact hne
        have hl2 : ¬ ((ds.length : Int) = 0) := by omega
        have hc := run_convert_bytes_arg (P := Tryd.prog) wr 53 5 Tryd.underlying53 Tryd.underlying5 b 0 ds.length c (ds.map fun c => (c.toNat : Int)) (by rw [List.length_map]) (fun i hi => by
          have := HO.out.cells (g := b) rfl i (.int .u8 ((ds.map fun c => (c.toNat : Int)).getD i 0)) (by simp [bcs, List.getD, hi])
          simpa [Addr.add_lit] using this) 9 Tryd.underlying9
        rw [strOf_bcs] at hc
        obtain ⟨S, hS⟩ : ∃ S : ByteArray, S = ⟨ds.toArray⟩ := ⟨_, rfl⟩
        rw [← hS] at hc
        have hSs : S.size = ds.length := by rw [hS]; rfl
        obtain ⟨R, hR⟩ : ∃ R : ByteArray, R = ⟨#[45]⟩ ++ S := ⟨_, rfl⟩
        have hadd : (Op.stringOp .add ⟨#[45]⟩ S).run Tryd.prog wr = .ok (.string R) wr := by
          rw [hR]
          exact run_string_add wr _ _ (by decide) (by omega)
        have HR := Lib.hid hR
        have HS := Lib.hid hS
        clear hS hR hSs
        have HDS := Lib.hid hds
        clear hds hne
        obtain ⟨m, hm⟩ : ∃ m, m = ds.length := ⟨_, rfl⟩
        rw [← hm] at hl0 hl1 hl2 hc hlen ⊢
        clear hm
        by_cases hneg : n < 0
        · have hn1 : decide (n < 0) = true := by simpa using hneg
          go_wp2
          go_ret
          refine ⟨ret_str ?_, HB.out⟩
          rw [itoa_neg hneg, ← HDS.out, HR.out, HS.out]
          apply ByteArray.ext
          simp
        · have hn1 : decide (n < 0) = false := by simpa using hneg
          go_wp2
          go_ret
          refine ⟨ret_str ?_, HB.out⟩
          rw [itoa_pos (by omega), ← HDS.out, HS.out]
    · obtain ⟨q, hq⟩ : ∃ q, q = k.tdiv 10 := ⟨_, rfl⟩
      obtain ⟨r, hr⟩ : ∃ r, r = k.tmod 10 := ⟨_, rfl⟩
      have hqn : q.natAbs = k.natAbs / 10 := by rw [hq, Int.natAbs_tdiv]; rfl
      have hrn : r.natAbs = k.natAbs % 10 := by rw [hr, Int.natAbs_tmod]; rfl
      have hst := dgs_step (u := k.natAbs) (by omega)
      have hkn : k.natAbs ≤ 9223372036854775808 := by omega
      have s1 : k.tmod 10 = r := hr.symm
      have s2 : k.tdiv 10 = q := hq.symm
      have s3 : IntKind.i64.wrap q = q := w64d (by omega) (by omega)
      have s4 : (k != 0) = true := by simpa using hk0
      have q1 : -9223372036854775808 ≤ q := by omega
      have q2 : q ≤ 9223372036854775807 := by omega
      have hdt := dig_toNat k.natAbs
      rw [hst, ← hqn, List.append_assoc] at HD
      obtain ⟨d, hdd⟩ : ∃ d, d = UInt8.ofNat (48 + k.natAbs % 10) := ⟨_, rfl⟩
      rw [← hdd] at HD hdt
      have hdn : (d.toNat : Int) = 48 + (r.natAbs : Int) := by rw [hdt, hrn]; omega
      have hcell : ∀ (o : Obj), ∀ j u, (bcs ds)[j]? = some u → (wr.alloc o).cell? ((⟨b, 0, none⟩ : Addr).add j) = some u := fun o j u hj => (HO.out.alloc o).cells (g := b) rfl j u hj
      have HC := Lib.hid hcell
      have HLIT := Lib.hid (fun (x : Int) => World.ownsRow_lit (e := 5) (size := 1) (base := w.heap.size) wr #[Value.int .u8 x] 1 hz (by unfold maxLen; omega) (by simp))
      have HDN := Lib.hid hdn
      have HQN := Lib.hid hqn
      clear hst hqn hdt hdd hcell hq hr hdn
      by_cases hneg : r < 0
      · have t1 : decide (r < 0) = true := by simpa using hneg
        have t2 : IntKind.i64.wrap (-r) = -r := w64d (by omega) (by omega)
        have t3 : IntKind.i64.wrap (48 + -r) = 48 + -r := w64d (by omega) (by omega)
        have t4 : IntKind.u8.wrap (48 + -r) = 48 + -r := by rw [IntKind.wrap_u8]; omega
        go_wp2_with (at_builtin; refine wpList_append_own _ rfl _ _ 53 rfl w.heap.size 5 i0 (.int .u8 0) 1 1 Tryd.underlying53 hi hz0 hz1 hz2 rfl (by decide) _ _ _ rfl (HLIT.out (48 + -r)) ⟨b, 0, none⟩ ds.length c (bcs ds) rfl (by rw [bcs_len, Nat.mul_one]) (HC.out _) (bcs_one _) (by unfold maxLen; omega) (by omega) (by simp; omega) ?_; intro v' w2 hown' hgrow _)
        have hb2 := (bl_al HB.out (.cells #[.int .u8 (48 + -r)] 5)).grown hgrow (by simp; omega) (fun j hj => ((HLIT.out (48 + -r)).lt j hj).1)
        have e : [Value.int .u8 (48 + -r)] ++ bcs ds = bcs (d :: ds) := by
          simp only [bcs, List.map_cons, HDN.out]
          rw [show (48 + (r.natAbs : Int)) = 48 + -r by omega]
          rfl
        rw [e] at hown'
        obtain ⟨g, cap, hv, _, _⟩ := hown'.form (by omega)
        subst hv
        rw [show 1 + ds.length = (d :: ds).length by rw [List.length_cons, Nat.add_comm]] at hown' ⊢
        have HOWN := Lib.hid hown'
        go_roundw
        case rel => exact ⟨q, d :: ds, g, cap, rfl, q1, q2, HD.out, rfl, HOWN.out, hb2⟩
        case measure => simp only [intOf]; have := HQN.out; omega
      · have t1 : decide (r < 0) = false := by simpa using hneg
        have t3 : IntKind.i64.wrap (48 + r) = 48 + r := w64d (by omega) (by omega)
        have t4 : IntKind.u8.wrap (48 + r) = 48 + r := by rw [IntKind.wrap_u8]; omega
        go_wp2_with (at_builtin; refine wpList_append_own _ rfl _ _ 53 rfl w.heap.size 5 i0 (.int .u8 0) 1 1 Tryd.underlying53 hi hz0 hz1 hz2 rfl (by decide) _ _ _ rfl (HLIT.out (48 + r)) ⟨b, 0, none⟩ ds.length c (bcs ds) rfl (by rw [bcs_len, Nat.mul_one]) (HC.out _) (bcs_one _) (by unfold maxLen; omega) (by omega) (by simp; omega) ?_; intro v' w2 hown' hgrow _)
        have hb2 := (bl_al HB.out (.cells #[.int .u8 (48 + r)] 5)).grown hgrow (by simp; omega) (fun j hj => ((HLIT.out (48 + r)).lt j hj).1)
        have e : [Value.int .u8 (48 + r)] ++ bcs ds = bcs (d :: ds) := by
          simp only [bcs, List.map_cons, HDN.out]
          rw [show (48 + (r.natAbs : Int)) = 48 + r by omega]
          rfl
        rw [e] at hown'
        obtain ⟨g, cap, hv, _, _⟩ := hown'.form (by omega)
        subst hv
        rw [show 1 + ds.length = (d :: ds).length by rw [List.length_cons, Nat.add_comm]] at hown' ⊢
        have HOWN := Lib.hid hown'
        go_roundw
        case rel => exact ⟨q, d :: ds, g, cap, rfl, q1, q2, HD.out, rfl, HOWN.out, hb2⟩
        case measure => simp only [intOf]; have := HQN.out; omega
end Go.Proofs.YtilifijfmdielaaDoor

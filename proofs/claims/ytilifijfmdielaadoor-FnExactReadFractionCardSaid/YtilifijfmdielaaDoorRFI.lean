/-
  PROVED HERE: the walk of ReadFraction (the program). CONDITIONS: what the library's listed variables read as.
-/
import Derived.Test.YtilifijfmdielaaDoorRFS
namespace Go.Proofs.YtilifijfmdielaaDoor
open Go.RowKit

theorem str_eq2 (D s : ByteArray) : (D.toList == s.toList) = decide (D.data.toList = s.data.toList) := by
  rw [ByteArray.toList_eq, ByteArray.toList_eq]
  rw [Bool.eq_iff_iff]
  simp only [beq_iff_eq, decide_eq_true_eq]
set_option maxHeartbeats 4000000 in
theorem RF_any (s : ByteArray) (w : World) (hs : s.size ≤ 1048576) (htab : Tab w) (hE : ErrV w) (hM : ∃ m, w.cell? ⟨3, 0, none⟩ = some (.int .i64 m)) :
    Calls Tryd.prog 16 #[.string s] w fun e w' => e = .returned (.tuple #[.agg #[.int .i64 (rfT s.data.toList).1, .int .i64 (rfT s.data.toList).2.1], .bool (rfT s.data.toList).2.2]) ∧ Below w.heap.size w w' := by
  have hsl : s.data.toList.length = s.size := by simp
  obtain ⟨m, hm⟩ := hM
  have HT := Lib.hid (tabB_of htab)
  have HE := Lib.hid hE
  have hcut := fun W (h : W.cell? ⟨3, 0, none⟩ = some (.int .i64 m)) => Tryd.strings_Cut s ⟨#[47]⟩ m W (by omega) h
  rw [show (ByteArray.mk #[47]).data.toList = [47] from rfl] at hcut
  have rd := fun (l : List UInt8) (hl : l.length ≤ 1048576) W (h : Tab W) (h' : ErrV W) => ReadDecimal_any (mkB l) W (by rw [mkB_size]; exact hl) h h'
  simp only [mkB_data] at rd
  have RDC := Lib.hid rd
  clear rd htab hE
  rcases cut_spl 47 s.data.toList with ⟨hx, hi⟩ | ⟨x, rest, hx, hl, hi⟩
  · have hxl : s.data.toList.length ≤ 1048576 := by omega
    have HM := Lib.hid hm
    have cc := fun W (h : W.cell? ⟨3, 0, none⟩ = some (.int .i64 m)) => hcut W h
    rw [cut_one hi] at cc
    have e1 : (⟨s.data.toList.toArray⟩ : ByteArray) = mkB s.data.toList := rfl
    have e2 : (⟨([] : List UInt8).toArray⟩ : ByteArray) = mkB [] := rfl
    rw [e1, e2] at cc
    have CC := Lib.hid cc
    have cn := RDC.out s.data.toList hxl
    have ht := rf_one hx
    have hne := fun h => (rd_t (l := s.data.toList) h).2
    obtain ⟨n, hn⟩ : ∃ n, n = rdN s.data.toList := ⟨_, rfl⟩
    obtain ⟨b1, hb1'⟩ : ∃ n, n = rdB s.data.toList := ⟨_, rfl⟩
    rw [← hn, ← hb1'] at cn ht
    rw [← hb1'] at hne
    have CN := Lib.hid cn
    have HTT := Lib.hid ht
    have HNE := Lib.hid hne
    clear hxl hm hcut cc e1 e2 cn ht hne hn hb1' hx hi hsl RDC
    go_enter Tryd.func16, Tryd.ntmps16
    go_wp2_with fail
    refine (CC.out _ (by first | exact keepA HM.out | (simp [go_sem]; exact HM.out))).mono ?_
    rintro e w' ⟨rfl, k0, rfl⟩
    have hb0 := Lib.hid (bl_drewN (bl_al (Below.refl w.heap.size w) (.cells #[.int .i64 0, .int .i64 0] 30)) k0)
    go_wp2_with fail
    refine (CN.out _ (HT.out _ hb0.out) (HE.out.below hb0.out)).mono ?_
    rintro e w2 ⟨rfl, hb2⟩
    have z0_w2 : w2.cell? ⟨w.heap.size, 0, none⟩ = some (.int .i64 0) := bcell_of hb2 (by simp [go_sem])
    have z1_w2 : w2.cell? ⟨w.heap.size, 1, none⟩ = some (.int .i64 0) := bcell_of hb2 (by simp [go_sem])
    have f0_w2 : w2.frozen? ⟨w.heap.size, 0, none⟩ = false := bfz (v := .int .i64 0) hb2 (by simp [go_sem]) (by simp [go_sem])
    have f1_w2 : w2.frozen? ⟨w.heap.size, 1, none⟩ = false := bfz (v := .int .i64 0) hb2 (by simp [go_sem]) (by simp [go_sem])
    have hz_w2 : w.heap.size < w2.heap.size := World.block_lt_of_cell? _ _ z0_w2
    have hn_w2 : ¬ w.heap.size = w2.heap.size := by omega
    have hB2 := Lib.hid (bl_tr hb0.out hb2)
    clear hb2
    cases b1
    · have HZ := Lib.hid (show rfT s.data.toList = (0, 0, false) from by rw [HTT.out]; rfl)
      have hB2' := hB2.out
      go_wp2
      refine bodyPost_ret (v := .tuple #[.agg #[.int .i64 0, .int .i64 0], .bool false]) (by simp [results, Tryd.results16, go_sem, *]) rfl ⟨by rw [HZ.out], ?_⟩
      repeat (first | exact Below.refl _ _ | assumption | refine bl_drewN ?_ _ | refine Below.drew ?_ | refine bl_al ?_ _ | (refine Below.setCell ?_ (by simp <;> omega) _) | refine bl_tr ?_ (by assumption))

    · have hl0 := HNE.out rfl
      have e0 : s.toList.isEmpty = false := by rw [ByteArray.toList_eq]; exact List.isEmpty_eq_false_iff.2 hl0
      have HT2 := Lib.hid (show rfT s.data.toList = if decide ((frS n 1).data.toList = s.data.toList) then (n, 1, true) else (0, 0, false) from by rw [HTT.out]; simp [hl0])
      clear hl0
      have cf := fun W (h : Tab W) => FT_any n 1 W h
      obtain ⟨F, hF⟩ : ∃ F, F = frS n 1 := ⟨_, rfl⟩
      rw [← hF] at cf HT2
      have CF := Lib.hid cf
      have hse := str_eq2 F s
      clear cf hF
      cases hq : decide (F.data.toList = s.data.toList)
      · rw [hq] at hse
        have hse2 : (F.toList != s.toList) = true := by simp only [bne, hse, Bool.not_false]
        have HZ := Lib.hid (show rfT s.data.toList = (0, 0, false) from by rw [HT2.out, hq]; rfl)
        clear hq HT2
        go_wp2_with fail
        refine (CF.out _ (HT.out _ (bl_al hB2.out _))).mono ?_
        rintro e w5 ⟨rfl, hb5⟩
        have y0 : w5.cell? ⟨w.heap.size, 0, none⟩ = some (.int .i64 0) := bcell_of hb5 (keepA z0_w2)
        have y1 : w5.cell? ⟨w.heap.size, 1, none⟩ = some (.int .i64 0) := bcell_of hb5 (keepA z1_w2)
        have v0 : w5.frozen? ⟨w.heap.size, 0, none⟩ = false := bfz (v := .int .i64 0) hb5 (keepA z0_w2) (by simp [go_sem, *])
        have v1 : w5.frozen? ⟨w.heap.size, 1, none⟩ = false := bfz (v := .int .i64 0) hb5 (keepA z1_w2) (by simp [go_sem, *])
        have y2 : w5.cell? ⟨w2.heap.size, 0, none⟩ = some (.int .i64 n) := bcell_of hb5 (by simp [go_sem])
        have y3 : w5.cell? ⟨w2.heap.size, 1, none⟩ = some (.int .i64 1) := bcell_of hb5 (by simp [go_sem])
        have hB5 : Below w.heap.size w w5 := bl_tr (bl_al hB2.out _) hb5
        clear hb5 z0_w2 z1_w2 f0_w2 f1_w2
        go_wp2
        refine bodyPost_ret (v := .tuple #[.agg #[.int .i64 0, .int .i64 0], .bool false]) (by simp [results, Tryd.results16, go_sem, *]) rfl ⟨by rw [HZ.out], ?_⟩
        repeat (first | exact Below.refl _ _ | assumption | refine bl_drewN ?_ _ | refine Below.drew ?_ | refine bl_al ?_ _ | (refine Below.setCell ?_ (by simp <;> omega) _) | refine bl_tr ?_ (by assumption))

      · rw [hq] at hse
        have hse2 : (F.toList != s.toList) = false := by simp only [bne, hse, Bool.not_true]
        have HZ := Lib.hid (show rfT s.data.toList = (n, 1, true) from by rw [HT2.out, hq]; rfl)
        clear hq HT2
        go_wp2_with fail
        refine (CF.out _ (HT.out _ (bl_al hB2.out _))).mono ?_
        rintro e w5 ⟨rfl, hb5⟩
        have y0 : w5.cell? ⟨w.heap.size, 0, none⟩ = some (.int .i64 0) := bcell_of hb5 (keepA z0_w2)
        have y1 : w5.cell? ⟨w.heap.size, 1, none⟩ = some (.int .i64 0) := bcell_of hb5 (keepA z1_w2)
        have v0 : w5.frozen? ⟨w.heap.size, 0, none⟩ = false := bfz (v := .int .i64 0) hb5 (keepA z0_w2) (by simp [go_sem, *])
        have v1 : w5.frozen? ⟨w.heap.size, 1, none⟩ = false := bfz (v := .int .i64 0) hb5 (keepA z1_w2) (by simp [go_sem, *])
        have y2 : w5.cell? ⟨w2.heap.size, 0, none⟩ = some (.int .i64 n) := bcell_of hb5 (by simp [go_sem])
        have y3 : w5.cell? ⟨w2.heap.size, 1, none⟩ = some (.int .i64 1) := bcell_of hb5 (by simp [go_sem])
        have hB5 : Below w.heap.size w w5 := bl_tr (bl_al hB2.out _) hb5
        clear hb5 z0_w2 z1_w2 f0_w2 f1_w2
        go_wp2
        refine bodyPost_ret (v := .tuple #[.agg #[.int .i64 n, .int .i64 1], .bool true]) (by simp [results, Tryd.results16, go_sem, *]) rfl ⟨by rw [HZ.out], ?_⟩
        repeat (first | exact Below.refl _ _ | assumption | refine bl_drewN ?_ _ | refine Below.drew ?_ | refine bl_al ?_ _ | (refine Below.setCell ?_ (by simp <;> omega) _) | refine bl_tr ?_ (by assumption))


  · have hxl : x.length ≤ 1048576 := by have := congrArg List.length hl; simp at this; omega
    have hrl : rest.length ≤ 1048576 := by have := congrArg List.length hl; simp at this; omega
    have HM := Lib.hid hm
    have cc := fun W (h : W.cell? ⟨3, 0, none⟩ = some (.int .i64 m)) => hcut W h
    rw [cut_two hl hi] at cc
    have e1 : (⟨x.toArray⟩ : ByteArray) = mkB x := rfl
    have e2 : (⟨rest.toArray⟩ : ByteArray) = mkB rest := rfl
    rw [e1, e2] at cc
    have CC := Lib.hid cc
    have cn := RDC.out x hxl
    have cm := RDC.out rest hrl
    have ht := rf_two hx hl
    have e0 : s.toList.isEmpty = false := by rw [ByteArray.toList_eq]; exact List.isEmpty_eq_false_iff.2 (by rw [hl]; simp)
    have hl0 : s.data.toList ≠ [] := by rw [hl]; simp
    obtain ⟨n, hn⟩ : ∃ n, n = rdN x := ⟨_, rfl⟩
    obtain ⟨b1, hb1'⟩ : ∃ n, n = rdB x := ⟨_, rfl⟩
    obtain ⟨d, hd⟩ : ∃ n, n = rdN rest := ⟨_, rfl⟩
    obtain ⟨b2, hb2'⟩ : ∃ n, n = rdB rest := ⟨_, rfl⟩
    rw [← hn, ← hb1'] at cn ht
    rw [← hd, ← hb2'] at cm ht
    have CN := Lib.hid cn
    have CM := Lib.hid cm
    have HTT := Lib.hid (show rfT s.data.toList = if b1 && b2 && decide ((frS n d).data.toList = s.data.toList) then (n, d, true) else (0, 0, false) from by rw [ht]; simp [hl0])
    clear hxl hrl hm hcut cc e1 e2 cn cm ht hl0 hn hb1' hd hb2' hx hi hl hsl RDC
    go_enter Tryd.func16, Tryd.ntmps16
    go_wp2_with fail
    refine (CC.out _ (by first | exact keepA HM.out | (simp [go_sem]; exact HM.out))).mono ?_
    rintro e w' ⟨rfl, k0, rfl⟩
    have hb0 := Lib.hid (bl_drewN (bl_al (Below.refl w.heap.size w) (.cells #[.int .i64 0, .int .i64 0] 30)) k0)
    go_wp2_with fail
    refine (CN.out _ (HT.out _ hb0.out) (HE.out.below hb0.out)).mono ?_
    rintro e w2 ⟨rfl, hb2⟩
    have z0_w2 : w2.cell? ⟨w.heap.size, 0, none⟩ = some (.int .i64 0) := bcell_of hb2 (by simp [go_sem])
    have z1_w2 : w2.cell? ⟨w.heap.size, 1, none⟩ = some (.int .i64 0) := bcell_of hb2 (by simp [go_sem])
    have f0_w2 : w2.frozen? ⟨w.heap.size, 0, none⟩ = false := bfz (v := .int .i64 0) hb2 (by simp [go_sem]) (by simp [go_sem])
    have f1_w2 : w2.frozen? ⟨w.heap.size, 1, none⟩ = false := bfz (v := .int .i64 0) hb2 (by simp [go_sem]) (by simp [go_sem])
    have hz_w2 : w.heap.size < w2.heap.size := World.block_lt_of_cell? _ _ z0_w2
    have hn_w2 : ¬ w.heap.size = w2.heap.size := by omega
    have hB2 := Lib.hid (bl_tr hb0.out hb2)
    clear hb2
    go_wp2_with fail
    refine (CM.out _ (HT.out _ hB2.out) (HE.out.below hB2.out)).mono ?_
    rintro e w3 ⟨rfl, hb3⟩
    have z0_w3 : w3.cell? ⟨w.heap.size, 0, none⟩ = some (.int .i64 0) := bcell_of hb3 z0_w2
    have z1_w3 : w3.cell? ⟨w.heap.size, 1, none⟩ = some (.int .i64 0) := bcell_of hb3 z1_w2
    have f0_w3 : w3.frozen? ⟨w.heap.size, 0, none⟩ = false := bfz (v := .int .i64 0) hb3 z0_w2 f0_w2
    have f1_w3 : w3.frozen? ⟨w.heap.size, 1, none⟩ = false := bfz (v := .int .i64 0) hb3 z1_w2 f1_w2
    have hz_w3 : w.heap.size < w3.heap.size := World.block_lt_of_cell? _ _ z0_w3
    have hn_w3 : ¬ w.heap.size = w3.heap.size := by omega
    have hB3 := Lib.hid (bl_tr hB2.out hb3)
    clear hb3 z0_w2 z1_w2 f0_w2 f1_w2
    cases b1
    · have HZ := Lib.hid (show rfT s.data.toList = (0, 0, false) from by rw [HTT.out]; rfl)
      have hB3' := hB3.out
      go_wp2
      refine bodyPost_ret (v := .tuple #[.agg #[.int .i64 0, .int .i64 0], .bool false]) (by simp [results, Tryd.results16, go_sem, *]) rfl ⟨by rw [HZ.out], ?_⟩
      repeat (first | exact Below.refl _ _ | assumption | refine bl_drewN ?_ _ | refine Below.drew ?_ | refine bl_al ?_ _ | (refine Below.setCell ?_ (by simp <;> omega) _) | refine bl_tr ?_ (by assumption))

    cases b2
    · have HZ := Lib.hid (show rfT s.data.toList = (0, 0, false) from by rw [HTT.out]; rfl)
      have hB3' := hB3.out
      go_wp2
      refine bodyPost_ret (v := .tuple #[.agg #[.int .i64 0, .int .i64 0], .bool false]) (by simp [results, Tryd.results16, go_sem, *]) rfl ⟨by rw [HZ.out], ?_⟩
      repeat (first | exact Below.refl _ _ | assumption | refine bl_drewN ?_ _ | refine Below.drew ?_ | refine bl_al ?_ _ | (refine Below.setCell ?_ (by simp <;> omega) _) | refine bl_tr ?_ (by assumption))

    have HT2 := Lib.hid (show rfT s.data.toList = if decide ((frS n d).data.toList = s.data.toList) then (n, d, true) else (0, 0, false) from by rw [HTT.out]; rfl)
    have cf := fun W (h : Tab W) => FT_any n d W h
    obtain ⟨F, hF⟩ : ∃ F, F = frS n d := ⟨_, rfl⟩
    rw [← hF] at cf HT2
    have CF := Lib.hid cf
    have hse := str_eq2 F s
    clear cf hF
    cases hq : decide (F.data.toList = s.data.toList)
    · rw [hq] at hse
      have hse2 : (F.toList != s.toList) = true := by simp only [bne, hse, Bool.not_false]
      have HZ := Lib.hid (show rfT s.data.toList = (0, 0, false) from by rw [HT2.out, hq]; rfl)
      clear hq HT2
      go_wp2_with fail
      refine (CF.out _ (HT.out _ (bl_al hB3.out _))).mono ?_
      rintro e w5 ⟨rfl, hb5⟩
      have y0 : w5.cell? ⟨w.heap.size, 0, none⟩ = some (.int .i64 0) := bcell_of hb5 (keepA z0_w3)
      have y1 : w5.cell? ⟨w.heap.size, 1, none⟩ = some (.int .i64 0) := bcell_of hb5 (keepA z1_w3)
      have v0 : w5.frozen? ⟨w.heap.size, 0, none⟩ = false := bfz (v := .int .i64 0) hb5 (keepA z0_w3) (by simp [go_sem, *])
      have v1 : w5.frozen? ⟨w.heap.size, 1, none⟩ = false := bfz (v := .int .i64 0) hb5 (keepA z1_w3) (by simp [go_sem, *])
      have y2 : w5.cell? ⟨w3.heap.size, 0, none⟩ = some (.int .i64 n) := bcell_of hb5 (by simp [go_sem])
      have y3 : w5.cell? ⟨w3.heap.size, 1, none⟩ = some (.int .i64 d) := bcell_of hb5 (by simp [go_sem])
      have hB5 : Below w.heap.size w w5 := bl_tr (bl_al hB3.out _) hb5
      clear hb5 z0_w3 z1_w3 f0_w3 f1_w3
      go_wp2
      refine bodyPost_ret (v := .tuple #[.agg #[.int .i64 0, .int .i64 0], .bool false]) (by simp [results, Tryd.results16, go_sem, *]) rfl ⟨by rw [HZ.out], ?_⟩
      repeat (first | exact Below.refl _ _ | assumption | refine bl_drewN ?_ _ | refine Below.drew ?_ | refine bl_al ?_ _ | (refine Below.setCell ?_ (by simp <;> omega) _) | refine bl_tr ?_ (by assumption))

    · rw [hq] at hse
      have hse2 : (F.toList != s.toList) = false := by simp only [bne, hse, Bool.not_true]
      have HZ := Lib.hid (show rfT s.data.toList = (n, d, true) from by rw [HT2.out, hq]; rfl)
      clear hq HT2
      go_wp2_with fail
      refine (CF.out _ (HT.out _ (bl_al hB3.out _))).mono ?_
      rintro e w5 ⟨rfl, hb5⟩
      have y0 : w5.cell? ⟨w.heap.size, 0, none⟩ = some (.int .i64 0) := bcell_of hb5 (keepA z0_w3)
      have y1 : w5.cell? ⟨w.heap.size, 1, none⟩ = some (.int .i64 0) := bcell_of hb5 (keepA z1_w3)
      have v0 : w5.frozen? ⟨w.heap.size, 0, none⟩ = false := bfz (v := .int .i64 0) hb5 (keepA z0_w3) (by simp [go_sem, *])
      have v1 : w5.frozen? ⟨w.heap.size, 1, none⟩ = false := bfz (v := .int .i64 0) hb5 (keepA z1_w3) (by simp [go_sem, *])
      have y2 : w5.cell? ⟨w3.heap.size, 0, none⟩ = some (.int .i64 n) := bcell_of hb5 (by simp [go_sem])
      have y3 : w5.cell? ⟨w3.heap.size, 1, none⟩ = some (.int .i64 d) := bcell_of hb5 (by simp [go_sem])
      have hB5 : Below w.heap.size w w5 := bl_tr (bl_al hB3.out _) hb5
      clear hb5 z0_w3 z1_w3 f0_w3 f1_w3
      go_wp2
      refine bodyPost_ret (v := .tuple #[.agg #[.int .i64 n, .int .i64 d], .bool true]) (by simp [results, Tryd.results16, go_sem, *]) rfl ⟨by rw [HZ.out], ?_⟩
      repeat (first | exact Below.refl _ _ | assumption | refine bl_drewN ?_ _ | refine Below.drew ?_ | refine bl_al ?_ _ | (refine Below.setCell ?_ (by simp <;> omega) _) | refine bl_tr ?_ (by assumption))


end Go.Proofs.YtilifijfmdielaaDoor

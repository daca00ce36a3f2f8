/-
  PROVED HERE: the walk of ReadFraction (the reference). CONDITIONS: what the library's listed variables read as.
-/
import Derived.Test.YtilifijfmdielaaDoorRFP
namespace Go.Proofs.YtilifijfmdielaaDoor
open Go.RowKit

theorem bfz {W w1 : World} (hb : Below W.heap.size W w1) {b o : Nat} {v : Value} (h : W.cell? ⟨b, o, none⟩ = some v) (hf : W.frozen? ⟨b, o, none⟩ = false) : w1.frozen? ⟨b, o, none⟩ = false :=
  (hb.frozen (p := ⟨b, o, none⟩) (World.block_lt_of_cell? W _ h)).trans hf
theorem mkB_size (l : List UInt8) : (mkB l).size = l.length := by show l.toArray.size = _; simp
theorem spl_part {c : UInt8} : ∀ {l : List UInt8} {x : List UInt8}, x ∈ spl c l → x.length ≤ l.length
  | [], x, h => by simp [spl] at h; subst h; simp
  | b :: r, x, h => by
    by_cases hb : b = c
    · subst hb
      rw [spl_eq] at h
      rcases List.mem_cons.1 h with h | h
      · subst h; simp
      · have := spl_part h; rw [List.length_cons]; omega
    · obtain ⟨y, t, e⟩ := spl_ne c r
      rw [spl_cons hb e] at h
      rcases List.mem_cons.1 h with h | h
      · subst h
        have := spl_part (c := c) (l := r) (x := y) (by rw [e]; exact List.mem_cons_self)
        simp only [List.length_cons]; omega
      · have := spl_part (c := c) (l := r) (x := x) (by rw [e]; exact List.mem_cons_of_mem _ h)
        rw [List.length_cons]; omega
set_option maxHeartbeats 4000000 in
theorem lRF_any (s : ByteArray) (w : World) (hs : s.size ≤ 1048576) :
    Calls Tryd.prog 15 #[.string s] w fun e w' => e = .returned (.tuple #[.agg #[.int .i64 (rfT s.data.toList).1, .int .i64 (rfT s.data.toList).2.1], .bool (rfT s.data.toList).2.2]) ∧ Below w.heap.size w w' := by
  have hsl : s.data.toList.length = s.size := by simp
  have cs : ∀ W, Calls Tryd.prog 31 #[.string s, .int .u8 47] W (StR W.heap.size (PB 47 s) W) := fun W => l01Split_any s 47 W hs
  obtain ⟨x, t, hx⟩ := spl_ne 47 s.data.toList
  have hpb : PB 47 s = mkB x :: t.map mkB := by unfold PB; rw [hx]; rfl
  have hxl : x.length ≤ 1048576 := by have := spl_part (c := 47) (l := s.data.toList) (x := x) (by rw [hx]; exact List.mem_cons_self); omega
  have cn := fun W => l01Number_any (mkB x) W (by rw [mkB_size]; exact hxl)
  rw [mkB_data] at cn
  obtain ⟨n, hn⟩ : ∃ n, n = rdN x := ⟨_, rfl⟩
  obtain ⟨b1, hb1'⟩ : ∃ n, n = rdB x := ⟨_, rfl⟩
  rw [hpb] at cs
  have CS := Lib.hid cs
  rw [← hn, ← hb1'] at cn
  have CN := Lib.hid cn
  have hxt : ∀ y ∈ t, y.length ≤ 1048576 := fun y hy => by have := spl_part (c := 47) (l := s.data.toList) (x := y) (by rw [hx]; exact List.mem_cons_of_mem _ hy); omega
  clear cs cn hpb hxl hsl
  rcases t with _ | ⟨y, _ | ⟨z, u⟩⟩
  · have hrt1 : rfT s.data.toList = if b1 && vf n 1 then (n, 1, true) else (0, 0, false) := by unfold rfT; rw [hx, hn, hb1']
    have HT := Lib.hid hrt1
    clear hx hrt1 hn hb1' hxt
    go_enter Tryd.func15, Tryd.ntmps15
    go_wp2_with fail
    refine (CS.out _).mono ?_
    rintro e w1 ⟨A1, c1, rfl, own1, hb1⟩
    have z0_w1 : w1.cell? ⟨w.heap.size, 0, none⟩ = some (.int .i64 0) := bcell_of hb1 (by simp [go_sem])
    have z1_w1 : w1.cell? ⟨w.heap.size, 1, none⟩ = some (.int .i64 0) := bcell_of hb1 (by simp [go_sem])
    have f0_w1 : w1.frozen? ⟨w.heap.size, 0, none⟩ = false := bfz (v := .int .i64 0) hb1 (by simp [go_sem]) (by simp [go_sem])
    have f1_w1 : w1.frozen? ⟨w.heap.size, 1, none⟩ = false := bfz (v := .int .i64 0) hb1 (by simp [go_sem]) (by simp [go_sem])
    have hz_w1 : w.heap.size < w1.heap.size := World.block_lt_of_cell? _ _ z0_w1
    have hn_w1 : ¬ w.heap.size = w1.heap.size := by omega
    have HR := Lib.hid (RT.of_own own1)
    have HB1 := Lib.hid (show Below w.heap.size w w1 from bl_tr (bl_al (Below.refl _ _) _) hb1)
    obtain ⟨b, o, hA, g0⟩ := HR.out.at_ (k := 0) (by simp)
    subst hA
    have g0' : w1.cell? ⟨b, o, none⟩ = some (.string (mkB x)) := g0
    clear own1 hb1 g0
    rw [show (mkB x :: List.map mkB []).length = 1 from rfl] at *
    go_wp2_with fail
    refine (CN.out _).mono ?_
    rintro e w2 ⟨rfl, hb2⟩
    have z0_w2 : w2.cell? ⟨w.heap.size, 0, none⟩ = some (.int .i64 0) := bcell_of hb2 z0_w1
    have z1_w2 : w2.cell? ⟨w.heap.size, 1, none⟩ = some (.int .i64 0) := bcell_of hb2 z1_w1
    have f0_w2 : w2.frozen? ⟨w.heap.size, 0, none⟩ = false := bfz (v := .int .i64 0) hb2 z0_w1 f0_w1
    have f1_w2 : w2.frozen? ⟨w.heap.size, 1, none⟩ = false := bfz (v := .int .i64 0) hb2 z1_w1 f1_w1
    have hz_w2 : w.heap.size < w2.heap.size := World.block_lt_of_cell? _ _ z0_w2
    have hn_w2 : ¬ w.heap.size = w2.heap.size := by omega
    have hB2 : Below w.heap.size w w2 := bl_tr HB1.out hb2
    clear g0' hb2 z0_w1 z1_w1 f0_w1 f1_w1
    cases b1
    · have HZ := Lib.hid (show rfT s.data.toList = (0, 0, false) from by rw [HT.out]; rfl)
      go_wp2
      refine bodyPost_ret (v := .tuple #[.agg #[.int .i64 0, .int .i64 0], .bool false]) (by simp [results, Tryd.results15, go_sem, *]) rfl ⟨by rw [HZ.out], ?_⟩
      repeat (first | exact Below.refl _ _ | assumption | refine bl_drewN ?_ _ | refine Below.drew ?_ | refine bl_al ?_ _ | (refine Below.setCell ?_ (by simp <;> omega) _) | refine bl_tr ?_ (by assumption))

    · cases hv : vf n 1
      · have HZ := Lib.hid (show rfT s.data.toList = (0, 0, false) from by rw [HT.out, hv]; rfl)
        go_wp2_with (go_at_call 28; refine (l02Ok_any _ _ _).mono ?_; rintro e w' ⟨rfl, o1, k1, rfl⟩; simp only [hv])
        refine bodyPost_ret (v := .tuple #[.agg #[.int .i64 0, .int .i64 0], .bool false]) (by simp [results, Tryd.results15, go_sem, *]) rfl ⟨by rw [HZ.out], ?_⟩
        repeat (first | exact Below.refl _ _ | assumption | refine bl_drewN ?_ _ | refine Below.drew ?_ | refine bl_al ?_ _ | (refine Below.setCell ?_ (by simp <;> omega) _) | refine bl_tr ?_ (by assumption))

      · have HZ := Lib.hid (show rfT s.data.toList = (n, 1, true) from by rw [HT.out, hv]; rfl)
        go_wp2_with (go_at_call 28; refine (l02Ok_any _ _ _).mono ?_; rintro e w' ⟨rfl, o1, k1, rfl⟩; simp only [hv])
        refine bodyPost_ret (v := .tuple #[.agg #[.int .i64 n, .int .i64 1], .bool true]) (by simp [results, Tryd.results15, go_sem, *]) rfl ⟨by rw [HZ.out], ?_⟩
        repeat (first | exact Below.refl _ _ | assumption | refine bl_drewN ?_ _ | refine Below.drew ?_ | refine bl_al ?_ _ | (refine Below.setCell ?_ (by simp <;> omega) _) | refine bl_tr ?_ (by assumption))


  · have hyl : y.length ≤ 1048576 := hxt y List.mem_cons_self
    have cm := fun W => l01Number_any (mkB y) W (by rw [mkB_size]; exact hyl)
    rw [mkB_data] at cm
    obtain ⟨d, hd⟩ : ∃ n, n = rdN y := ⟨_, rfl⟩
    obtain ⟨b2, hb2'⟩ : ∃ n, n = rdB y := ⟨_, rfl⟩
    rw [← hd, ← hb2'] at cm
    have CM := Lib.hid cm
    have hrt1 : rfT s.data.toList = if b1 && (b2 && (d != 1)) && vf n d then (n, d, true) else (0, 0, false) := by unfold rfT; rw [hx, hn, hb1', hd, hb2']
    have HT := Lib.hid hrt1
    clear hx hrt1 hn hb1' hxt hyl cm hd hb2'
    go_enter Tryd.func15, Tryd.ntmps15
    go_wp2_with fail
    refine (CS.out _).mono ?_
    rintro e w1 ⟨A1, c1, rfl, own1, hb1⟩
    have z0_w1 : w1.cell? ⟨w.heap.size, 0, none⟩ = some (.int .i64 0) := bcell_of hb1 (by simp [go_sem])
    have z1_w1 : w1.cell? ⟨w.heap.size, 1, none⟩ = some (.int .i64 0) := bcell_of hb1 (by simp [go_sem])
    have f0_w1 : w1.frozen? ⟨w.heap.size, 0, none⟩ = false := bfz (v := .int .i64 0) hb1 (by simp [go_sem]) (by simp [go_sem])
    have f1_w1 : w1.frozen? ⟨w.heap.size, 1, none⟩ = false := bfz (v := .int .i64 0) hb1 (by simp [go_sem]) (by simp [go_sem])
    have hz_w1 : w.heap.size < w1.heap.size := World.block_lt_of_cell? _ _ z0_w1
    have hn_w1 : ¬ w.heap.size = w1.heap.size := by omega
    have HR := Lib.hid (RT.of_own own1)
    have HB1 := Lib.hid (show Below w.heap.size w w1 from bl_tr (bl_al (Below.refl _ _) _) hb1)
    obtain ⟨b, o, hA, g0⟩ := HR.out.at_ (k := 0) (by simp)
    subst hA
    have g0' : w1.cell? ⟨b, o, none⟩ = some (.string (mkB x)) := g0
    clear own1 hb1 g0
    obtain ⟨b', o', hA', g1⟩ := HR.out.at_ (k := 1) (by simp)
    obtain ⟨rfl, rfl⟩ : b' = b ∧ o' = o := by injection hA' with e; injection e with e1 e2; exact ⟨e1.symm, e2.symm⟩
    have g1' : w1.cell? ⟨b', o' + 1, none⟩ = some (.string (mkB y)) := g1
    clear g1 hA'
    rw [show (mkB x :: List.map mkB [y]).length = 2 from rfl] at *
    go_wp2_with fail
    refine (CN.out _).mono ?_
    rintro e w2 ⟨rfl, hb2⟩
    have z0_w2 : w2.cell? ⟨w.heap.size, 0, none⟩ = some (.int .i64 0) := bcell_of hb2 z0_w1
    have z1_w2 : w2.cell? ⟨w.heap.size, 1, none⟩ = some (.int .i64 0) := bcell_of hb2 z1_w1
    have f0_w2 : w2.frozen? ⟨w.heap.size, 0, none⟩ = false := bfz (v := .int .i64 0) hb2 z0_w1 f0_w1
    have f1_w2 : w2.frozen? ⟨w.heap.size, 1, none⟩ = false := bfz (v := .int .i64 0) hb2 z1_w1 f1_w1
    have hz_w2 : w.heap.size < w2.heap.size := World.block_lt_of_cell? _ _ z0_w2
    have hn_w2 : ¬ w.heap.size = w2.heap.size := by omega
    have g2' : w2.cell? ⟨b', o' + 1, none⟩ = some (.string (mkB y)) := bcell_of hb2 g1'
    have HB2 := Lib.hid (bl_tr HB1.out hb2)
    clear g0' g1' hb2 z0_w1 z1_w1 f0_w1 f1_w1
    go_wp2_with fail
    refine (CM.out _).mono ?_
    rintro e w3 ⟨rfl, hb3⟩
    have z0_w3 : w3.cell? ⟨w.heap.size, 0, none⟩ = some (.int .i64 0) := bcell_of hb3 z0_w2
    have z1_w3 : w3.cell? ⟨w.heap.size, 1, none⟩ = some (.int .i64 0) := bcell_of hb3 z1_w2
    have f0_w3 : w3.frozen? ⟨w.heap.size, 0, none⟩ = false := bfz (v := .int .i64 0) hb3 z0_w2 f0_w2
    have f1_w3 : w3.frozen? ⟨w.heap.size, 1, none⟩ = false := bfz (v := .int .i64 0) hb3 z1_w2 f1_w2
    have hz_w3 : w.heap.size < w3.heap.size := World.block_lt_of_cell? _ _ z0_w3
    have hn_w3 : ¬ w.heap.size = w3.heap.size := by omega
    have hB3 : Below w.heap.size w w3 := bl_tr HB2.out hb3
    clear g2' hb3 z0_w2 z1_w2 f0_w2 f1_w2
    cases b2
    · cases b1
      · have HZ := Lib.hid (show rfT s.data.toList = (0, 0, false) from by rw [HT.out]; rfl)
        go_wp2
        refine bodyPost_ret (v := .tuple #[.agg #[.int .i64 0, .int .i64 0], .bool false]) (by simp [results, Tryd.results15, go_sem, *]) rfl ⟨by rw [HZ.out], ?_⟩
        repeat (first | exact Below.refl _ _ | assumption | refine bl_drewN ?_ _ | refine Below.drew ?_ | refine bl_al ?_ _ | (refine Below.setCell ?_ (by simp <;> omega) _) | refine bl_tr ?_ (by assumption))

      · have HZ := Lib.hid (show rfT s.data.toList = (0, 0, false) from by rw [HT.out]; rfl)
        go_wp2
        refine bodyPost_ret (v := .tuple #[.agg #[.int .i64 0, .int .i64 0], .bool false]) (by simp [results, Tryd.results15, go_sem, *]) rfl ⟨by rw [HZ.out], ?_⟩
        repeat (first | exact Below.refl _ _ | assumption | refine bl_drewN ?_ _ | refine Below.drew ?_ | refine bl_al ?_ _ | (refine Below.setCell ?_ (by simp <;> omega) _) | refine bl_tr ?_ (by assumption))

    · by_cases hd1 : d = 1
      · subst hd1
        cases b1
        · have HZ := Lib.hid (show rfT s.data.toList = (0, 0, false) from by rw [HT.out]; rfl)
          go_wp2
          refine bodyPost_ret (v := .tuple #[.agg #[.int .i64 0, .int .i64 0], .bool false]) (by simp [results, Tryd.results15, go_sem, *]) rfl ⟨by rw [HZ.out], ?_⟩
          repeat (first | exact Below.refl _ _ | assumption | refine bl_drewN ?_ _ | refine Below.drew ?_ | refine bl_al ?_ _ | (refine Below.setCell ?_ (by simp <;> omega) _) | refine bl_tr ?_ (by assumption))

        · have HZ := Lib.hid (show rfT s.data.toList = (0, 0, false) from by rw [HT.out]; rfl)
          go_wp2
          refine bodyPost_ret (v := .tuple #[.agg #[.int .i64 0, .int .i64 0], .bool false]) (by simp [results, Tryd.results15, go_sem, *]) rfl ⟨by rw [HZ.out], ?_⟩
          repeat (first | exact Below.refl _ _ | assumption | refine bl_drewN ?_ _ | refine Below.drew ?_ | refine bl_al ?_ _ | (refine Below.setCell ?_ (by simp <;> omega) _) | refine bl_tr ?_ (by assumption))

      · have hd2 : (d != 1) = true := by simpa using hd1
        have HT2 := Lib.hid (show rfT s.data.toList = if b1 && vf n d then (n, d, true) else (0, 0, false) from by rw [HT.out, hd2]; simp)
        cases b1
        · have HZ := Lib.hid (show rfT s.data.toList = (0, 0, false) from by rw [HT2.out]; rfl)
          go_wp2
          refine bodyPost_ret (v := .tuple #[.agg #[.int .i64 0, .int .i64 0], .bool false]) (by simp [results, Tryd.results15, go_sem, *]) rfl ⟨by rw [HZ.out], ?_⟩
          repeat (first | exact Below.refl _ _ | assumption | refine bl_drewN ?_ _ | refine Below.drew ?_ | refine bl_al ?_ _ | (refine Below.setCell ?_ (by simp <;> omega) _) | refine bl_tr ?_ (by assumption))

        · cases hv : vf n d
          · have HZ := Lib.hid (show rfT s.data.toList = (0, 0, false) from by rw [HT2.out, hv]; rfl)
            go_wp2_with (go_at_call 28; refine (l02Ok_any _ _ _).mono ?_; rintro e w' ⟨rfl, o1, k1, rfl⟩; simp only [hv])
            refine bodyPost_ret (v := .tuple #[.agg #[.int .i64 0, .int .i64 0], .bool false]) (by simp [results, Tryd.results15, go_sem, *]) rfl ⟨by rw [HZ.out], ?_⟩
            repeat (first | exact Below.refl _ _ | assumption | refine bl_drewN ?_ _ | refine Below.drew ?_ | refine bl_al ?_ _ | (refine Below.setCell ?_ (by simp <;> omega) _) | refine bl_tr ?_ (by assumption))

          · have HZ := Lib.hid (show rfT s.data.toList = (n, d, true) from by rw [HT2.out, hv]; rfl)
            go_wp2_with (go_at_call 28; refine (l02Ok_any _ _ _).mono ?_; rintro e w' ⟨rfl, o1, k1, rfl⟩; simp only [hv])
            refine bodyPost_ret (v := .tuple #[.agg #[.int .i64 n, .int .i64 d], .bool true]) (by simp [results, Tryd.results15, go_sem, *]) rfl ⟨by rw [HZ.out], ?_⟩
            repeat (first | exact Below.refl _ _ | assumption | refine bl_drewN ?_ _ | refine Below.drew ?_ | refine bl_al ?_ _ | (refine Below.setCell ?_ (by simp <;> omega) _) | refine bl_tr ?_ (by assumption))


  · have HZ := Lib.hid (show rfT s.data.toList = (0, 0, false) from by unfold rfT; rw [hx])
    clear hx hn hb1' hxt
    go_enter Tryd.func15, Tryd.ntmps15
    go_wp2_with fail
    refine (CS.out _).mono ?_
    rintro e w1 ⟨A1, c1, rfl, own1, hb1⟩
    have z0_w1 : w1.cell? ⟨w.heap.size, 0, none⟩ = some (.int .i64 0) := bcell_of hb1 (by simp [go_sem])
    have z1_w1 : w1.cell? ⟨w.heap.size, 1, none⟩ = some (.int .i64 0) := bcell_of hb1 (by simp [go_sem])
    have f0_w1 : w1.frozen? ⟨w.heap.size, 0, none⟩ = false := bfz (v := .int .i64 0) hb1 (by simp [go_sem]) (by simp [go_sem])
    have f1_w1 : w1.frozen? ⟨w.heap.size, 1, none⟩ = false := bfz (v := .int .i64 0) hb1 (by simp [go_sem]) (by simp [go_sem])
    have hz_w1 : w.heap.size < w1.heap.size := World.block_lt_of_cell? _ _ z0_w1
    have hn_w1 : ¬ w.heap.size = w1.heap.size := by omega
    have HR := Lib.hid (RT.of_own own1)
    have HB1 := Lib.hid (show Below w.heap.size w w1 from bl_tr (bl_al (Below.refl _ _) _) hb1)
    obtain ⟨b, o, hA, g0⟩ := HR.out.at_ (k := 0) (by simp)
    subst hA
    have g0' : w1.cell? ⟨b, o, none⟩ = some (.string (mkB x)) := g0
    clear own1 hb1 g0
    obtain ⟨L, hL⟩ : ∃ L, L = (mkB x :: List.map mkB (y :: z :: u)).length := ⟨_, rfl⟩
    rw [← hL]
    have hL3 : 3 ≤ L := by rw [hL]; simp
    clear hL
    have l1 : ((L : Int) == 1) = false := by simp; omega
    have l2 : ((L : Int) == 2) = false := by simp; omega
    have l3 : (0 : Int) < (L : Int) := by omega
    have l4 : 0 < L := by omega
    have l5 : ¬ L = 1 := by omega
    have l6 : ¬ L = 2 := by omega
    go_wp2_with fail
    refine (CN.out _).mono ?_
    rintro e w2 ⟨rfl, hb2⟩
    have z0_w2 : w2.cell? ⟨w.heap.size, 0, none⟩ = some (.int .i64 0) := bcell_of hb2 z0_w1
    have z1_w2 : w2.cell? ⟨w.heap.size, 1, none⟩ = some (.int .i64 0) := bcell_of hb2 z1_w1
    have f0_w2 : w2.frozen? ⟨w.heap.size, 0, none⟩ = false := bfz (v := .int .i64 0) hb2 z0_w1 f0_w1
    have f1_w2 : w2.frozen? ⟨w.heap.size, 1, none⟩ = false := bfz (v := .int .i64 0) hb2 z1_w1 f1_w1
    have hz_w2 : w.heap.size < w2.heap.size := World.block_lt_of_cell? _ _ z0_w2
    have hn_w2 : ¬ w.heap.size = w2.heap.size := by omega
    have hB2 : Below w.heap.size w w2 := bl_tr HB1.out hb2
    clear g0' hb2 z0_w1 z1_w1 f0_w1 f1_w1
    cases b1
    · go_wp2
      refine bodyPost_ret (v := .tuple #[.agg #[.int .i64 0, .int .i64 0], .bool false]) (by simp [results, Tryd.results15, go_sem, *]) rfl ⟨by rw [HZ.out], ?_⟩
      repeat (first | exact Below.refl _ _ | assumption | refine bl_drewN ?_ _ | refine Below.drew ?_ | refine bl_al ?_ _ | (refine Below.setCell ?_ (by simp <;> omega) _) | refine bl_tr ?_ (by assumption))

    · go_wp2
      refine bodyPost_ret (v := .tuple #[.agg #[.int .i64 0, .int .i64 0], .bool false]) (by simp [results, Tryd.results15, go_sem, *]) rfl ⟨by rw [HZ.out], ?_⟩
      repeat (first | exact Below.refl _ _ | assumption | refine bl_drewN ?_ _ | refine Below.drew ?_ | refine bl_al ?_ _ | (refine Below.setCell ?_ (by simp <;> omega) _) | refine bl_tr ?_ (by assumption))


end Go.Proofs.YtilifijfmdielaaDoor

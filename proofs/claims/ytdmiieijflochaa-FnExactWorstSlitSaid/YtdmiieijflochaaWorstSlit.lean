/-
  PROVED HERE: the walk of WorstSlit: the program and the reference agree. CONDITIONS: none beyond that each number is an int64.
-/
import Derived.Test.YtdmiieijflochaaPl
import Derived.Test.YtdmiieijflochaaDrum
import Derived.Test.YtdmiieijflochaaAp
import Derived.Test.YtdmiieijflochaaMx
import Derived.Laws.Cover1
namespace Go.Proofs.Ytdmiieijflochaa
open Go.RowKit

/-- How far a place is from the nearest of the first k places. -/
def nwV (r s : Int) (ps : List Int) : Nat → Int
  | 0 => r
  | k + 1 => mnI (nwV r s ps k) (mnI (abI (s - ps.getD k 0)) (r - abI (s - ps.getD k 0)))
theorem nwV_succ (r s : Int) (ps : List Int) (k : Nat) : nwV r s ps (k + 1) = mnI (nwV r s ps k) (mnI (abI (s - ps.getD k 0)) (r - abI (s - ps.getD k 0))) := rfl
def wsB (r : Int) (ss ps : List Int) : Nat → Int × Int
  | 0 => (0, -1)
  | k + 1 => if (wsB r ss ps k).2 < nwV r (ss.getD k 0) ps ps.length then ((k : Int), nwV r (ss.getD k 0) ps ps.length) else wsB r ss ps k
theorem wsB_t {r : Int} {ss ps : List Int} {k : Nat} (h : (wsB r ss ps k).2 < nwV r (ss.getD k 0) ps ps.length) : wsB r ss ps (k + 1) = ((k : Int), nwV r (ss.getD k 0) ps ps.length) := if_pos h
theorem wsB_f {r : Int} {ss ps : List Int} {k : Nat} (h : ¬ (wsB r ss ps k).2 < nwV r (ss.getD k 0) ps ps.length) : wsB r ss ps (k + 1) = wsB r ss ps k := if_neg h
theorem pl_bd {r n : Int} {m k : Nat} (hk : k < m) (hm : (m : Int) ≤ n) (h1 : 0 ≤ r) (h2 : r ≤ 10000) (h3 : 1 ≤ n) (h4 : n ≤ 48) : 0 ≤ (plI r n m).getD k 0 ∧ (plI r n m).getD k 0 ≤ 20000 := by
  have : (plI r n m).getD k 0 = rndV ((k : Int) * r) n := by simp [plI, List.getD, hk]
  rw [this]
  obtain ⟨k1, k2⟩ := kr_bd k r (by omega) (by omega) h1 h2
  have k3 : (k : Int) * r ≤ n * r := Int.mul_le_mul_of_nonneg_right (by omega) h1
  unfold rndV
  refine ⟨Int.ediv_nonneg (by omega) (by omega), ?_⟩
  have : (2 * ((k : Int) * r) + n) / (2 * n) < 20001 := by
    apply Int.ediv_lt_of_lt_mul (by omega)
    have : n * r ≤ n * 10000 := Int.mul_le_mul_of_nonneg_left h2 (by omega)
    omega
  omega
theorem mn_bd {a b lo hi : Int} (h1 : lo ≤ a) (h2 : a ≤ hi) (h3 : lo ≤ b) : lo ≤ mnI a b ∧ mnI a b ≤ hi := by unfold mnI; split <;> omega
theorem nw_bd {r s : Int} {ps : List Int} {m : Nat} (r1 : 0 ≤ r) (r2 : r ≤ 10000) (s1 : 0 ≤ s) (s2 : s ≤ 20000) (hp : ∀ k, k < m → 0 ≤ ps.getD k 0 ∧ ps.getD k 0 ≤ 20000) : ∀ k, k ≤ m → -20000 ≤ nwV r s ps k ∧ nwV r s ps k ≤ 10000
  | 0, _ => ⟨by unfold nwV; omega, by unfold nwV; omega⟩
  | k + 1, hk => by
    obtain ⟨i1, i2⟩ := nw_bd r1 r2 s1 s2 hp k (by omega)
    obtain ⟨p1, p2⟩ := hp k (by omega)
    obtain ⟨b1, b2⟩ := abI_bd (s - ps.getD k 0) 20000 (by omega) (by omega)
    rw [nwV_succ]
    refine mn_bd i1 i2 ?_
    unfold mnI
    split <;> omega
def wsX (a0 a1 a2 x : Int) : Int × Int := if vd a0 a1 a2 && inB x 1 48 then wsB a0 (plI a0 a2 a2.toNat) (plI a0 x x.toNat) a2.toNat else (0, 0)
def wsK (a0 a1 a2 x : Int) : Int := if vd a0 a1 a2 then (if inB x 1 48 then 0 else 2) else 1
set_option maxHeartbeats 4000000 in
theorem WorstSlit_any (a0 a1 a2 x : Int) (w : World) :
    Calls Try.prog 30 #[.agg #[.int .i64 a0, .int .i64 a1, .int .i64 a2], .int .i64 x] w fun e w' => e = .returned (.tuple #[.int .i64 (wsX a0 a1 a2 x).1, .int .i64 (wsX a0 a1 a2 x).2, .int .i64 (wsK a0 a1 a2 x)]) ∧ Below w.heap.size w w' := by
  cases h0 : vd a0 a1 a2
  case false =>
    have e1 : wsX a0 a1 a2 x = (0, 0) := by simp [wsX, h0]
    have e2 : wsK a0 a1 a2 x = 1 := by simp [wsK, h0]
    rw [e1, e2]
    clear e1 e2
    go_enter Try.func30, Try.ntmps30
    go_wp2_with (go_at_call 46; refine (ValidDrum_any _ _ _ _).mono ?_; rintro e w' ⟨rfl, o1, rfl⟩; simp only [h0])
    go_ret3
    exact ⟨rfl, bl_al (bl_al (Below.refl _ _) _) _⟩
  cases h1 : inB x 1 48
  case false =>
    have e1 : wsX a0 a1 a2 x = (0, 0) := by simp [wsX, h1]
    have e2 : wsK a0 a1 a2 x = 2 := by simp [wsK, h0, h1]
    rw [e1, e2]
    clear e1 e2
    go_enter Try.func30, Try.ntmps30
    go_wp2_with (first | (go_at_call 46; refine (ValidDrum_any _ _ _ _).mono ?_; rintro e w' ⟨rfl, o1, rfl⟩; simp only [h0]) | (go_at_call 47; refine (within_v h1 _).mono ?_; rintro e w' ⟨rfl, rfl⟩))
    go_ret3
    exact ⟨rfl, bl_al (bl_al (Below.refl _ _) _) _⟩
  obtain ⟨⟨r1, r2⟩, _, q1, q2⟩ := vd_t h0
  obtain ⟨x1, x2⟩ := inB_t h1
  have e1 : wsX a0 a1 a2 x = wsB a0 (plI a0 a2 a2.toNat) (plI a0 x x.toNat) a2.toNat := by simp [wsX, h0, h1]
  have e2 : wsK a0 a1 a2 x = 0 := by simp [wsK, h0, h1]
  rw [e1, e2]
  clear e1 e2
  obtain ⟨S, rfl⟩ : ∃ S : Nat, a2 = S := ⟨a2.toNat, by omega⟩
  obtain ⟨X, rfl⟩ : ∃ S : Nat, x = S := ⟨x.toNat, by omega⟩
  have c1 := fun W => placesOf_any a0 a1 S S W (by omega) r2 q1 q2
  have c2 := fun W => placesOf_any a0 a1 S X W (by omega) r2 x1 x2
  have b1 := fun k (hk : k < S) => pl_bd (r := a0) (n := S) (m := S) hk (Int.le_refl _) (by omega) r2 q1 q2
  have b2 := fun k (hk : k < X) => pl_bd (r := a0) (n := X) (m := X) hk (Int.le_refl _) (by omega) r2 x1 x2
  have l1 := plI_len a0 S S
  have l2 := plI_len a0 X X
  rw [Int.toNat_natCast] at c1 c2 ⊢
  rw [Int.toNat_natCast]
  obtain ⟨ss, hss⟩ : ∃ l, l = plI a0 S S := ⟨_, rfl⟩
  obtain ⟨ps, hps⟩ : ∃ l, l = plI a0 X X := ⟨_, rfl⟩
  rw [← hss] at c1 b1 l1 ⊢
  rw [← hps] at c2 b2 l2 ⊢
  have C1 := Lib.hid c1
  have C2 := Lib.hid c2
  have B1 := Lib.hid b1
  have B2 := Lib.hid b2
  have L1 := Lib.hid l1
  have L2 := Lib.hid l2
  clear c1 c2 b1 b2 l1 l2 hss hps
  go_enter Try.func30, Try.ntmps30
  go_wp2_with (first | (go_at_call 46; refine (ValidDrum_any _ _ _ _).mono ?_; rintro e w' ⟨rfl, o1, rfl⟩; simp only [h0]) | (go_at_call 47; refine (within_v h1 _).mono ?_; rintro e w' ⟨rfl, rfl⟩))
  refine (C1.out _).mono ?_
  rintro e w1 ⟨A1, c1, rfl, own1, hb1⟩
  have d0 : w1.cell? ⟨w.heap.size, 0, none⟩ = some (.int .i64 a0) := bcell_of hb1 (by simp [go_sem])
  have d1 : w1.cell? ⟨w.heap.size, 1, none⟩ = some (.int .i64 a1) := bcell_of hb1 (by simp [go_sem])
  have d2 : w1.cell? ⟨w.heap.size, 2, none⟩ = some (.int .i64 S) := bcell_of hb1 (by simp [go_sem])
  have D0 := Lib.hid d0
  have D1 := Lib.hid d1
  have D2 := Lib.hid d2
  have HR1 := Lib.hid (show RI w1 A1 S ss from L1.out ▸ RI.of_own own1)
  have HB1 := Lib.hid (show Below w.heap.size w w1 from bl_tr (bl_al (bl_al (Below.refl _ _) _) _) hb1)
  rw [L1.out]
  clear own1 hb1 d0 d1 d2
  go_wp2
  go_loopw [7, 8, 9, 10, 11, 13, 14, 28] (fun b m _ _ _ _ _ i wr => ∃ k : Nat, k ≤ S ∧ i = .int .i64 k ∧ b = .int .i64 (wsB a0 ss ps k).1 ∧ m = .int .i64 (wsB a0 ss ps k).2 ∧ Below w1.heap.size w1 wr) (fun _ _ _ _ _ _ _ i _ => S - (intOf i).toNat)
  case atStart => exact ⟨0, Nat.zero_le _, rfl, rfl, rfl, Below.refl _ _⟩
  case round =>
    obtain ⟨k, hk, rfl, rfl, rfl, hb⟩ := hrel
    obtain ⟨v1, hv1⟩ : ∃ x, x = wr := ⟨_, rfl⟩
    subst hv1
    have HBV := Lib.hid hb
    clear hb
    by_cases hlt : k < S
    · have d0 : v1.cell? ⟨w.heap.size, 0, none⟩ = some (.int .i64 a0) := bcell_of HBV.out D0.out
      have d1 : v1.cell? ⟨w.heap.size, 1, none⟩ = some (.int .i64 a1) := bcell_of HBV.out D1.out
      have d2 : v1.cell? ⟨w.heap.size, 2, none⟩ = some (.int .i64 S) := bcell_of HBV.out D2.out
      obtain ⟨g, o, rfl, gk⟩ := (HR1.out.below HBV.out).at_ hlt
      obtain ⟨s1, s2⟩ := B1.out k hlt
      obtain ⟨bs, hbs⟩ : ∃ p, p = wsB a0 ss ps k := ⟨_, rfl⟩
      have HT := Lib.hid (fun h => wsB_t (r := a0) (ss := ss) (ps := ps) (k := k) h)
      have HF := Lib.hid (fun h => wsB_f (r := a0) (ss := ss) (ps := ps) (k := k) h)
      rw [L2.out, ← hbs] at HT HF
      rw [← hbs]
      clear hbs
      obtain ⟨bb, bm⟩ := bs
      obtain ⟨s, hs⟩ : ∃ s, s = ss.getD k 0 := ⟨_, rfl⟩
      rw [← hs] at gk s1 s2 HT HF
      dsimp only at HT HF ⊢
      have NB := Lib.hid (nw_bd (r := a0) (s := s) (ps := ps) (m := X) (by omega) r2 s1 s2 B2.out)
      clear hs
      have q3 : (0 : Int) ≤ (k : Int) := by omega
      have q4 : (k : Int) < (S : Int) := by omega
      go_wp2_with fail
      refine (C2.out _).mono ?_
      rintro e w2 ⟨A2, c2, rfl, own2, hb2⟩
      have e0 : w2.cell? ⟨w.heap.size, 0, none⟩ = some (.int .i64 a0) := bcell_of hb2 d0
      have HR2 := Lib.hid (show RI w2 A2 X ps from L2.out ▸ RI.of_own own2)
      have HB2 := Lib.hid (bl_tr HBV.out hb2)
      rw [L2.out]
      clear own2 hb2 d0 d1 d2 gk
      go_wp2
      go_loopw [11, 13, 14, 39] (fun q _ _ i wr => w2 = wr ∧ ∃ j : Nat, j ≤ X ∧ i = .int .i64 j ∧ q = .int .i64 (nwV a0 s ps j)) (fun _ _ _ i _ => X - (intOf i).toNat)
      case atStart => exact ⟨rfl, 0, Nat.zero_le _, rfl, rfl⟩
      case round =>
        obtain ⟨rfl, j, hj, rfl, rfl⟩ := hrel
        by_cases hjt : j < X
        · obtain ⟨g2, o2, rfl, gj⟩ := HR2.out.at_ hjt
          obtain ⟨p1, p2⟩ := B2.out j hjt
          have hsu := nwV_succ a0 s ps j
          obtain ⟨nb1, nb2⟩ := NB.out j hj
          obtain ⟨y, hy⟩ : ∃ y, y = nwV a0 s ps j := ⟨_, rfl⟩
          obtain ⟨p, hp⟩ : ∃ y, y = ps.getD j 0 := ⟨_, rfl⟩
          rw [← hy, ← hp] at hsu
          rw [← hy] at nb1 nb2 ⊢
          rw [← hp] at gj p1 p2
          obtain ⟨z1, z2⟩ := abI_bd (s - p) 20000 (by omega) (by omega)
          have cap := fun W => apart_any s p W (by omega) (by omega) (by omega) (by omega)
          obtain ⟨z, hz⟩ : ∃ z, z = abI (s - p) := ⟨_, rfl⟩
          rw [← hz] at cap hsu z1 z2
          have CAP := Lib.hid cap
          have HSU := Lib.hid hsu
          clear hy hp hz cap hsu
          have q5 : (0 : Int) ≤ (j : Int) := by omega
          have q6 : (j : Int) < (X : Int) := by omega
          have q7 : IntKind.i64.wrap (a0 - z) = a0 - z := by rw [IntKind.wrap_i64]; omega
          obtain ⟨nx, hnx⟩ : ∃ v, v = nwV a0 s ps (j + 1) := ⟨_, rfl⟩
          have hmn : (if a0 - z < if z < y then z else y then a0 - z else if z < y then z else y) = nx := by
            rw [hnx, HSU.out]; unfold mnI; repeat' split
            all_goals omega
          have HNX := Lib.hid hnx
          clear hnx
          go_wp2_with fail
          refine (CAP.out _).mono ?_
          rintro e w' ⟨rfl, rfl⟩
          go_wp2
          go_roundw
          case rel => exact ⟨trivial, j + 1, by omega, by go_num, by rw [HNX.out]⟩
          case measure => simp [intOf]; omega
        · have hjX : j = X := by omega
          subst hjX
          obtain ⟨y, hy⟩ : ∃ y, y = nwV a0 s ps j := ⟨_, rfl⟩
          rw [← hy] at HT HF ⊢
          clear hy
          by_cases hgt : bm < y
          · have HN := Lib.hid (HT.out hgt)
            go_wp2
            go_roundw
            case rel => exact ⟨k + 1, by omega, by go_num, by rw [HN.out], by rw [HN.out], HB2.out⟩
            case measure => simp [intOf]; omega
          · have HN := Lib.hid (HF.out (by omega))
            go_wp2
            go_roundw
            case rel => exact ⟨k + 1, by omega, by go_num, by rw [HN.out], by rw [HN.out], HB2.out⟩
            case measure => simp [intOf]; omega
    · have e : k = S := by omega
      subst e
      go_wp2
      go_ret3
      exact ⟨rfl, bl_tr HB1.out HBV.out⟩
theorem l07Many_any (b : Nat) (a0 a1 a2 x : Int) (w : World) (c0 : w.cell? ⟨b, 0, none⟩ = some (.int .i64 a0)) (c1 : w.cell? ⟨b, 1, none⟩ = some (.int .i64 a1)) (c2 : w.cell? ⟨b, 2, none⟩ = some (.int .i64 a2)) :
    Calls Try.prog 44 #[.pointer (some ⟨b, 0, none⟩), .int .i64 x] w fun e w' => e = .returned (.int .i64 (wsK a0 a1 a2 x)) ∧ w = w' := by
  unfold wsK
  cases h0 : vd a0 a1 a2
  case false =>
    go_enter Try.func44, Try.ntmps44
    go_wp2_with (go_at_call 52; refine (l07Ok_any _ a0 a1 a2 _ c0 c1 c2).mono ?_; rintro e w' ⟨rfl, rfl⟩; simp only [h0])
    go_ret
    exact ⟨rfl, rfl⟩
  cases h1 : inB x 1 48
  all_goals
    go_enter Try.func44, Try.ntmps44
    go_wp2_with (first | (go_at_call 52; refine (l07Ok_any _ a0 a1 a2 _ c0 c1 c2).mono ?_; rintro e w' ⟨rfl, rfl⟩; simp only [h0]) | (go_at_call 45; refine (l00In_v h1 _).mono ?_; rintro e w' ⟨rfl, rfl⟩) | go_in)
    go_ret
    exact ⟨rfl, rfl⟩
set_option maxHeartbeats 4000000 in
theorem lWorstSlit_any (a0 a1 a2 x : Int) (w : World) :
    Calls Try.prog 29 #[.agg #[.int .i64 a0, .int .i64 a1, .int .i64 a2], .int .i64 x] w fun e w' => e = .returned (.tuple #[.int .i64 (wsX a0 a1 a2 x).1, .int .i64 (wsX a0 a1 a2 x).2, .int .i64 (wsK a0 a1 a2 x)]) ∧ Below w.heap.size w w' := by
  cases h0 : vd a0 a1 a2
  case false =>
    have e1 : wsX a0 a1 a2 x = (0, 0) := by simp [wsX, h0]
    have e2 : wsK a0 a1 a2 x = 1 := by simp [wsK, h0]
    have CM := Lib.hid (fun W (c0 : W.cell? ⟨w.heap.size, 0, none⟩ = some (.int .i64 a0)) c1 c2 => e2 ▸ l07Many_any w.heap.size a0 a1 a2 x W c0 c1 c2)
    rw [e1, e2]
    clear e1 e2
    go_enter Try.func29, Try.ntmps29
    go_wp2_with (go_at_call 44; refine (CM.out _ (by simp [go_sem]) (by simp [go_sem]) (by simp [go_sem])).mono ?_; rintro e w' ⟨rfl, rfl⟩)
    go_ret3
    refine ⟨rfl, ?_⟩
    repeat (first | exact Below.refl _ _ | assumption | refine bl_drewN ?_ _ | refine Below.drew ?_ | refine bl_al ?_ _ | (refine Below.setCell ?_ (by simp <;> omega) _) | refine bl_tr ?_ (by assumption))
  cases h1 : inB x 1 48
  case false =>
    have e1 : wsX a0 a1 a2 x = (0, 0) := by simp [wsX, h1]
    have e2 : wsK a0 a1 a2 x = 2 := by simp [wsK, h0, h1]
    have CM := Lib.hid (fun W (c0 : W.cell? ⟨w.heap.size, 0, none⟩ = some (.int .i64 a0)) c1 c2 => e2 ▸ l07Many_any w.heap.size a0 a1 a2 x W c0 c1 c2)
    rw [e1, e2]
    clear e1 e2
    go_enter Try.func29, Try.ntmps29
    go_wp2_with (go_at_call 44; refine (CM.out _ (by simp [go_sem]) (by simp [go_sem]) (by simp [go_sem])).mono ?_; rintro e w' ⟨rfl, rfl⟩)
    go_ret3
    refine ⟨rfl, ?_⟩
    repeat (first | exact Below.refl _ _ | assumption | refine bl_drewN ?_ _ | refine Below.drew ?_ | refine bl_al ?_ _ | (refine Below.setCell ?_ (by simp <;> omega) _) | refine bl_tr ?_ (by assumption))
  obtain ⟨⟨r1, r2⟩, _, q1, q2⟩ := vd_t h0
  obtain ⟨x1, x2⟩ := inB_t h1
  have e1 : wsX a0 a1 a2 x = wsB a0 (plI a0 a2 a2.toNat) (plI a0 x x.toNat) a2.toNat := by simp [wsX, h0, h1]
  have e2 : wsK a0 a1 a2 x = 0 := by simp [wsK, h0, h1]
  have cm := fun W (c0 : W.cell? ⟨w.heap.size, 0, none⟩ = some (.int .i64 a0)) c1 c2 => e2 ▸ l07Many_any w.heap.size a0 a1 a2 x W c0 c1 c2
  rw [e1, e2]
  clear e1 e2
  obtain ⟨S, rfl⟩ : ∃ S : Nat, a2 = S := ⟨a2.toNat, by omega⟩
  obtain ⟨X, rfl⟩ : ∃ S : Nat, x = S := ⟨x.toNat, by omega⟩
  have c1 := fun W (h : W.cell? ⟨w.heap.size, 0, none⟩ = some (.int .i64 a0)) => l07Places_any w.heap.size a0 S W h (by omega) r2 q1 q2
  have c2 := fun W (h : W.cell? ⟨w.heap.size, 0, none⟩ = some (.int .i64 a0)) => l07Places_any w.heap.size a0 X W h (by omega) r2 x1 x2
  have b1 := fun k (hk : k < S) => pl_bd (r := a0) (n := S) (m := S) hk (Int.le_refl _) (by omega) r2 q1 q2
  have b2 := fun k (hk : k < X) => pl_bd (r := a0) (n := X) (m := X) hk (Int.le_refl _) (by omega) r2 x1 x2
  have l1 := plI_len a0 S S
  have l2 := plI_len a0 X X
  rw [Int.toNat_natCast] at c1 c2 ⊢
  rw [Int.toNat_natCast]
  obtain ⟨ss, hss⟩ : ∃ l, l = plI a0 S S := ⟨_, rfl⟩
  obtain ⟨ps, hps⟩ : ∃ l, l = plI a0 X X := ⟨_, rfl⟩
  rw [← hss] at c1 b1 l1 ⊢
  rw [← hps] at c2 b2 l2 ⊢
  have CM := Lib.hid cm
  clear cm
  have C1 := Lib.hid c1
  have C2 := Lib.hid c2
  have B1 := Lib.hid b1
  have B2 := Lib.hid b2
  have L1 := Lib.hid l1
  have L2 := Lib.hid l2
  clear c1 c2 b1 b2 l1 l2 hss hps
  go_enter Try.func29, Try.ntmps29
  go_wp2_with (go_at_call 44; refine (CM.out _ (by simp [go_sem]) (by simp [go_sem]) (by simp [go_sem])).mono ?_; rintro e w' ⟨rfl, rfl⟩)
  refine (C1.out _ (by simp [go_sem])).mono ?_
  rintro e w1 ⟨A1, c1, rfl, own1, hb1⟩
  have d1 : w1.cell? ⟨w.heap.size, 0, none⟩ = some (.int .i64 a0) := bcell_of hb1 (by simp [go_sem])
  go_wp2_with fail
  refine (C2.out _ d1).mono ?_
  rintro e w2 ⟨A2, c2, rfl, own2, hb2⟩
  have d0 : w2.cell? ⟨w.heap.size, 0, none⟩ = some (.int .i64 a0) := bcell_of hb2 d1
  have HR1 := Lib.hid (show RI w2 A1 S ss from RI.below (L1.out ▸ RI.of_own own1) hb2)
  have HR2 := Lib.hid (show RI w2 A2 X ps from L2.out ▸ RI.of_own own2)
  have HB1 := Lib.hid (show Below w.heap.size w w2 from by
    repeat (first | exact Below.refl _ _ | assumption | refine bl_drewN ?_ _ | refine Below.drew ?_ | refine bl_al ?_ _ | (refine Below.setCell ?_ (by simp <;> omega) _) | refine bl_tr ?_ (by assumption)))
  have D0 := Lib.hid d0
  rw [L1.out, L2.out]
  clear own1 hb1 own2 hb2 d0 d1
  go_wp2
  go_loopw [10, 11, 12, 13, 14, 15] (fun b m i _ _ _ wr => ∃ k q : Nat, k ≤ S ∧ i = .int .i64 k ∧ b = .int .i64 (wsB a0 ss ps k).1 ∧ m = .int .i64 (wsB a0 ss ps k).2 ∧ wr = w2.drewN q) (fun _ _ i _ _ _ _ => S - (intOf i).toNat)
  case atStart => exact ⟨0, 0, Nat.zero_le _, rfl, rfl, rfl, rfl⟩
  case round =>
    obtain ⟨k, qd, hk, rfl, rfl, rfl, rfl⟩ := hrel
    by_cases hlt : k < S
    · have d0 : (w2.drewN qd).cell? ⟨w.heap.size, 0, none⟩ = some (.int .i64 a0) := D0.out
      obtain ⟨g, o, rfl, gk⟩ := HR1.out.at_ hlt
      obtain ⟨s1, s2⟩ := B1.out k hlt
      obtain ⟨bs, hbs⟩ : ∃ p, p = wsB a0 ss ps k := ⟨_, rfl⟩
      have HT := Lib.hid (fun h => wsB_t (r := a0) (ss := ss) (ps := ps) (k := k) h)
      have HF := Lib.hid (fun h => wsB_f (r := a0) (ss := ss) (ps := ps) (k := k) h)
      rw [L2.out, ← hbs] at HT HF
      rw [← hbs]
      clear hbs
      obtain ⟨bb, bm⟩ := bs
      obtain ⟨s, hs⟩ : ∃ s, s = ss.getD k 0 := ⟨_, rfl⟩
      rw [← hs] at gk s1 s2 HT HF
      dsimp only at HT HF ⊢
      have NB := Lib.hid (nw_bd (r := a0) (s := s) (ps := ps) (m := X) (by omega) r2 s1 s2 B2.out)
      clear hs
      have q3 : (0 : Int) ≤ (k : Int) := by omega
      have q4 : (k : Int) < (S : Int) := by omega
      have d0' := D0.out
      go_wp2
      go_loopw [13, 14, 15] (fun q i _ wr => ∃ j m : Nat, j ≤ X ∧ i = .int .i64 j ∧ q = .int .i64 (nwV a0 s ps j) ∧ wr = w2.drewN m) (fun _ i _ _ => X - (intOf i).toNat)
      case atStart => exact ⟨0, qd, Nat.zero_le _, rfl, rfl, rfl⟩
      case round =>
        obtain ⟨j, qe, hj, rfl, rfl, rfl⟩ := hrel
        by_cases hjt : j < X
        · obtain ⟨g2, o2, rfl, gj⟩ := HR2.out.at_ hjt
          obtain ⟨p1, p2⟩ := B2.out j hjt
          have hsu := nwV_succ a0 s ps j
          obtain ⟨nb1, nb2⟩ := NB.out j hj
          obtain ⟨y, hy⟩ : ∃ y, y = nwV a0 s ps j := ⟨_, rfl⟩
          obtain ⟨p, hp⟩ : ∃ y, y = ps.getD j 0 := ⟨_, rfl⟩
          rw [← hy, ← hp] at hsu
          rw [← hy] at nb1 nb2 ⊢
          rw [← hp] at gj p1 p2
          obtain ⟨z1, z2⟩ := abI_bd (s - p) 20000 (by omega) (by omega)
          have cap := fun W => size_any (s - p) W (by omega) (by omega)
          obtain ⟨z, hz⟩ : ∃ z, z = abI (s - p) := ⟨_, rfl⟩
          rw [← hz] at cap hsu z1 z2
          have CAP := Lib.hid cap
          have HSU := Lib.hid hsu
          clear hy hp hz cap hsu
          have q5 : (0 : Int) ≤ (j : Int) := by omega
          have q6 : (j : Int) < (X : Int) := by omega
          have q7 : IntKind.i64.wrap (a0 - z) = a0 - z := by rw [IntKind.wrap_i64]; omega
          have q8 : IntKind.i64.wrap (s - p) = s - p := by rw [IntKind.wrap_i64]; omega
          go_wp2_with fail
          go_quiet ((go_at_call 55; first | (with_reducible exact quiet_left (CAP.out _)) | (with_reducible exact quiet_add_left (CAP.out _))))
          go_wp2_with (go_at_call 56; refine (l00Min_any _ _ _).mono ?_; rintro e w' ⟨rfl, rfl⟩)
          go_roundw
          case rel => exact ⟨j + 1, _, by omega, by go_num, by rw [HSU.out], rfl⟩
          case measure => simp [intOf]; omega
        · have hjX : j = X := by omega
          subst hjX
          obtain ⟨y, hy⟩ : ∃ y, y = nwV a0 s ps j := ⟨_, rfl⟩
          rw [← hy] at HT HF ⊢
          clear hy
          by_cases hgt : bm < y
          · have HN := Lib.hid (HT.out hgt)
            go_wp2
            go_roundw
            case rel => exact ⟨k + 1, _, by omega, by go_num, by rw [HN.out], by rw [HN.out], rfl⟩
            case measure => simp [intOf]; omega
          · have HN := Lib.hid (HF.out (by omega))
            go_wp2
            go_roundw
            case rel => exact ⟨k + 1, _, by omega, by go_num, by rw [HN.out], by rw [HN.out], rfl⟩
            case measure => simp [intOf]; omega
    · have e : k = S := by omega
      subst e
      go_wp2
      go_ret3
      exact ⟨rfl, bl_drewN HB1.out _⟩
set_option maxHeartbeats 1000000 in
theorem law_WorstSlit (a0 : Int) (_wa0 : (Lit.int .i64 a0).wf = true) (a1 : Int) (_wa1 : (Lit.int .i64 a1).wf = true) (a2 : Int) (_wa2 : (Lit.int .i64 a2).wf = true) (x : Int) (_wx : (Lit.int .i64 x).wf = true) (w : World) :
    Calls Try.prog 8 #[.agg #[.int .i64 a0, .int .i64 a1, .int .i64 a2], .int .i64 x] w fun e w' => e = .returned (.bool true) ∧ Below w.heap.size w w' := by
  have c1 := fun W => lWorstSlit_any a0 a1 a2 x W
  have c2 := fun W => WorstSlit_any a0 a1 a2 x W
  obtain ⟨u, hu⟩ : ∃ u, u = (wsX a0 a1 a2 x).1 := ⟨_, rfl⟩
  obtain ⟨v, hv⟩ : ∃ u, u = (wsX a0 a1 a2 x).2 := ⟨_, rfl⟩
  obtain ⟨t, ht⟩ : ∃ u, u = wsK a0 a1 a2 x := ⟨_, rfl⟩
  rw [← hu, ← hv, ← ht] at c1 c2
  have C1 := Lib.hid c1
  have C2 := Lib.hid c2
  clear c1 c2 hu hv ht _wa0 _wa1 _wa2 _wx
  go_enter Try.func8, Try.ntmps8
  go_wp2_with (go_at_call 16; refine (toDrum_any _ _ _ _).mono ?_; rintro e w' ⟨rfl, o1, o2, o3, rfl⟩)
  refine (C1.out _).mono ?_
  rintro e w2 ⟨rfl, hb2⟩
  have g0 : w2.cell? ⟨w.heap.size, 0, none⟩ = some (.int .i64 a0) := bcell_of hb2 (by simp [go_sem])
  have g1 : w2.cell? ⟨w.heap.size, 1, none⟩ = some (.int .i64 a1) := bcell_of hb2 (by simp [go_sem])
  have g2 : w2.cell? ⟨w.heap.size, 2, none⟩ = some (.int .i64 a2) := bcell_of hb2 (by simp [go_sem])
  have HB2 := Lib.hid (show Below w.heap.size w w2 from by
    repeat (first | exact Below.refl _ _ | assumption | refine bl_drewN ?_ _ | refine Below.drew ?_ | refine bl_al ?_ _ | (refine Below.setCell ?_ (by simp <;> omega) _) | refine bl_tr ?_ (by assumption)))
  clear hb2
  go_wp2_with (go_at_call 16; refine (toDrum_any _ _ _ _).mono ?_; rintro e w' ⟨rfl, p1, p2, p3, rfl⟩)
  refine (C2.out _).mono ?_
  rintro e w4 ⟨rfl, hb4⟩
  go_wp2
  go_ret
  exact ⟨rfl, bl_tr (bl_al (bl_al (bl_al HB2.out _) _) _) hb4⟩
end Go.Proofs.Ytdmiieijflochaa

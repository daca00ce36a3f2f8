/-
  PROVED HERE: the walk of BestTurn: the program and the reference agree. CONDITIONS: the arguments' cells lie in the world.
-/
import Derived.Test.YticdilgnjnnaiaaAl
import Derived.Test.YticdilgnjnnaiaaTu
import Derived.Test.YticdilgnjnnaiaaAp
namespace Go.Proofs.Yticdilgnjnnaiaa
open Go.RowKit

/-- How far two loops are apart, over the first k places. -/
def btS (zs ys : List Int) : Nat → Int
  | 0 => 0
  | k + 1 => btS zs ys k + abI (zs.getD k 0 - ys.getD k 0)
theorem btS_bd {zs ys : List Int} {n : Nat} (hz : ∀ j, j < n → 0 ≤ zs.getD j 0 ∧ zs.getD j 0 ≤ 1000) (hy : ∀ j, j < n → 0 ≤ ys.getD j 0 ∧ ys.getD j 0 ≤ 1000) : ∀ k, k ≤ n → 0 ≤ btS zs ys k ∧ btS zs ys k ≤ 1000 * (k : Int)
  | 0, _ => by simp [btS]
  | k + 1, h => by
    have h1 := btS_bd hz hy k (by omega)
    have h2 := hz k (by omega)
    have h3 := hy k (by omega)
    have h4 := abI_bd (zs.getD k 0 - ys.getD k 0) 1000 (by omega) (by omega)
    simp only [btS]; omega
def btD (xs ys : List Int) (d : Nat) : Int := btS (tuI xs d xs.length) ys xs.length
def btB (xs ys : List Int) : Nat → Int × Int
  | 0 => (0, -1)
  | d + 1 => if (btB xs ys d).2 < 0 ∨ btD xs ys d < (btB xs ys d).2 then ((d : Int), btD xs ys d) else btB xs ys d
theorem btB_t {xs ys : List Int} {k : Nat} (h : (btB xs ys k).2 < 0 ∨ btD xs ys k < (btB xs ys k).2) : btB xs ys (k + 1) = ((k : Int), btD xs ys k) := if_pos h
theorem btB_f {xs ys : List Int} {k : Nat} (h : ¬ ((btB xs ys k).2 < 0 ∨ btD xs ys k < (btB xs ys k).2)) : btB xs ys (k + 1) = btB xs ys k := if_neg h
theorem tuI_pl {xs : List Int} (h : Pl xs) (d : Nat) : ∀ j, j < xs.length → 0 ≤ (tuI xs d xs.length).getD j 0 ∧ (tuI xs d xs.length).getD j 0 ≤ 1000 := fun j hj => by
  have e : (tuI xs d xs.length).getD j 0 = xs.getD ((j + d) % xs.length) 0 := by
    rw [List.getD, tuI, List.getElem?_map, List.getElem?_range hj]; rfl
  rw [e]
  exact h _ (Nat.mod_lt _ (by omega))
def btOk (xs ys : List Int) : Bool := vl xs && vl ys
def btA (xs ys : List Int) : Int := if btOk xs ys then (if xs.length = ys.length then (btB xs ys xs.length).1 else 0) else 0
def btM (xs ys : List Int) : Int := if btOk xs ys then (if xs.length = ys.length then (btB xs ys xs.length).2 else 0) else 0
def btK (xs ys : List Int) : Int := if btOk xs ys then (if xs.length = ys.length then 0 else 8) else 1
def btR (xs ys : List Int) : Value := .tuple #[.int .i64 (btA xs ys), .int .i64 (btM xs ys), .int .i64 (btK xs ys)]
set_option maxHeartbeats 2000000 in
theorem BestTurn_any (A B : Option Addr) (n c m d : Nat) (xs ys : List Int) (w : World) (hn : n ≤ 1048576) (hm : m ≤ 1048576) (hA : RI w A n xs) (hB : RI w B m ys) (hcap : 0 < n → n ≤ c ∧ c ≤ maxLen) :
    Calls Try.prog 31 #[.slice A n c, .slice B m d] w fun e w' => e = .returned (btR xs ys) ∧ Below w.heap.size w w' := by
  have hl := hA.1
  have hl2 := hB.1
  have HA := Lib.hid hA
  have HB := Lib.hid hB
  clear hA hB
  cases h0 : vl xs
  case false =>
    have e1 : btR xs ys = .tuple #[.int .i64 0, .int .i64 0, .int .i64 1] := by simp [btR, btA, btM, btK, btOk, h0]
    rw [e1]
    clear e1 hl hl2 hcap
    go_enter Try.func31, Try.ntmps31
    go_wp2_with (first | (go_at_call 13; refine (ValidLoop_any _ _ _ xs _ (by omega) HA.out).mono ?_; rintro e w' ⟨rfl, rfl⟩))
    go_ret3
    exact ⟨rfl, Below.refl _ _⟩
  case true =>
  cases h1 : vl ys
  case false =>
    have e1 : btR xs ys = .tuple #[.int .i64 0, .int .i64 0, .int .i64 1] := by simp [btR, btA, btM, btK, btOk, h1]
    rw [e1]
    clear e1 hl hl2 hcap
    go_enter Try.func31, Try.ntmps31
    go_wp2_with (first | (go_at_call 13; first | (refine (ValidLoop_any _ _ _ xs _ (by omega) (by with_reducible exact HA.out)).mono ?_; rintro e w' ⟨rfl, rfl⟩) | (refine (ValidLoop_any _ _ _ ys _ (by omega) (by with_reducible exact HB.out)).mono ?_; rintro e w' ⟨rfl, rfl⟩)))
    go_ret3
    exact ⟨rfl, Below.refl _ _⟩
  case true =>
  by_cases h2 : n = m
  case neg =>
    have e1 : btR xs ys = .tuple #[.int .i64 0, .int .i64 0, .int .i64 8] := by
      have : ¬ xs.length = ys.length := by omega
      simp [btR, btA, btM, btK, btOk, h0, h1, this]
    rw [e1]
    have h3 : ((n : Int) != (m : Int)) = true := by simp; omega
    clear e1 hl hl2 hcap
    go_enter Try.func31, Try.ntmps31
    go_wp2_with (first | (go_at_call 13; first | (refine (ValidLoop_any _ _ _ xs _ (by omega) (by with_reducible exact HA.out)).mono ?_; rintro e w' ⟨rfl, rfl⟩) | (refine (ValidLoop_any _ _ _ ys _ (by omega) (by with_reducible exact HB.out)).mono ?_; rintro e w' ⟨rfl, rfl⟩)))
    go_ret3
    exact ⟨rfl, Below.refl _ _⟩
  case pos =>
    subst h2
    have e1 : btR xs ys = .tuple #[.int .i64 (btB xs ys n).1, .int .i64 (btB xs ys n).2, .int .i64 0] := by
      have : xs.length = ys.length := by omega
      simp [btR, btA, btM, btK, btOk, h0, h1, this, ← hl2]
    rw [e1]
    obtain ⟨⟨n1', n60'⟩, hp⟩ := vl_t h0
    obtain ⟨_, hp2⟩ := vl_t h1
    have n1 : 1 ≤ n := by omega
    have n60 : n ≤ 60 := by omega
    have HP := Lib.hid (show Pl xs from hp)
    have HP2 := Lib.hid (show Pl ys from hp2)
    obtain ⟨k1, k2⟩ := hcap (by omega)
    have KC := Lib.hid k2
    have HL := Lib.hid hl
    have HL2 := Lib.hid hl2
    clear e1 hp hp2 hl hl2 k2 hcap n1' n60'
    go_enter Try.func31, Try.ntmps31
    go_wp2_with (first | (go_at_call 13; first | (refine (ValidLoop_any _ _ _ xs _ (by omega) (by with_reducible exact HA.out)).mono ?_; rintro e w' ⟨rfl, rfl⟩) | (refine (ValidLoop_any _ _ _ ys _ (by omega) (by with_reducible exact HB.out)).mono ?_; rintro e w' ⟨rfl, rfl⟩)))
    go_loopw [7, 8, 9, 10, 11, 12, 30] (fun b l _ _ _ _ i wr => ∃ k : Nat, k ≤ n ∧ i = .int .i64 k ∧ b = .int .i64 (btB xs ys k).1 ∧ l = .int .i64 (btB xs ys k).2 ∧ Below w.heap.size w wr) (fun _ _ _ _ _ _ i _ => n - (intOf i).toNat)
    case atStart => exact ⟨0, Nat.zero_le _, rfl, rfl, rfl, Below.refl _ _⟩
    case round =>
      obtain ⟨k, hk, rfl, rfl, rfl, hb⟩ := hrel
      have HBl := Lib.hid hb
      clear hb
      by_cases hlt : k < n
      · go_wp2_with (first | (go_at_call 51; refine (turnLoop_any _ _ _ xs k _ n1 n60 k1 KC.out (by omega) (HA.out.below HBl.out)).mono ?_; rintro e w1 ⟨A1, c1, rfl, ho, hb⟩))
        obtain ⟨zs, hzs⟩ : ∃ zs, zs = tuI xs k n := ⟨_, rfl⟩
        have hzl : zs.length = n := by rw [hzs]; exact tuI_len _ _ _
        have hD : btD xs ys k = btS zs ys n := by rw [hzs, btD, HL.out]
        have hzp : ∀ j, j < n → 0 ≤ zs.getD j 0 ∧ zs.getD j 0 ≤ 1000 := by
          have := tuI_pl HP.out k
          rw [HL.out] at this
          rw [hzs]; exact this
        rw [← hzs] at ho ⊢
        have ho2 := RI.of_own ho
        rw [hzl] at ho2 ⊢
        have HO := Lib.hid ho2
        have M1 := Lib.hid (show Below wr.heap.size wr w1 from hb)
        have HB1 := Lib.hid (bl_tr HBl.out M1.out)
        have HY := Lib.hid ((HB.out.below HBl.out).below M1.out)
        have HZP := Lib.hid hzp
        have HYP := Lib.hid (show ∀ j, j < n → 0 ≤ ys.getD j 0 ∧ ys.getD j 0 ≤ 1000 from fun j hj => HP2.out j (by rw [HL2.out]; exact hj))
        have HD := Lib.hid hD
        clear ho ho2 hb hzs hzl hzp hD
        go_wp2
        go_loopw [10, 11, 12, 37] (fun s _ _ i wq => w1 = wq ∧ ∃ j : Nat, j ≤ n ∧ i = .int .i64 j ∧ s = .int .i64 (btS zs ys j)) (fun _ _ _ i _ => n - (intOf i).toNat)
        case atStart => exact ⟨rfl, 0, Nat.zero_le _, rfl, rfl⟩
        case round =>
          obtain ⟨rfl, j, hj, rfl, rfl⟩ := hrel
          have hbd := btS_bd HZP.out HYP.out j hj
          by_cases hjn : j < n
          · obtain ⟨b1, o1, hA1, q1⟩ := HO.out.at_ hjn
            subst hA1
            obtain ⟨b2, o2, hA2, q2⟩ := HY.out.at_ hjn
            have p1 := HZP.out j hjn
            have p2 := HYP.out j hjn
            obtain ⟨x, hx⟩ : ∃ x, x = zs.getD j 0 := ⟨_, rfl⟩
            obtain ⟨y, hy⟩ : ∃ y, y = ys.getD j 0 := ⟨_, rfl⟩
            rw [← hx] at q1 p1
            rw [← hy] at q2 p2
            have hs : btS zs ys (j + 1) = btS zs ys j + abI (x - y) := by rw [btS, ← hx, ← hy]
            have p3 := abI_bd (x - y) 1000 (by omega) (by omega)
            obtain ⟨S, hS⟩ : ∃ S, S = btS zs ys j := ⟨_, rfl⟩
            rw [← hS] at hs hbd ⊢
            have HS := Lib.hid hs
            clear hS hs hx hy
            obtain ⟨p1, p1'⟩ := p1
            obtain ⟨p2, p2'⟩ := p2
            obtain ⟨p3, p3'⟩ := p3
            obtain ⟨p4, p4'⟩ := hbd
            subst hA2
            go_wp2_with (go_at_call 41; refine (apart_any _ _ _ (by omega) (by omega) (by omega) (by omega)).mono ?_; rintro e w' ⟨rfl, rfl⟩)
            go_roundw
            case rel => exact ⟨by first | trivial | rfl, j + 1, by omega, by go_num, by rw [HS.out]⟩
            case measure => simp [intOf]; omega
          · have e : j = n := by omega
            subst e
            obtain ⟨S, hS⟩ : ∃ S, S = btS zs ys j := ⟨_, rfl⟩
            obtain ⟨L, hL⟩ : ∃ L, L = (btB xs ys k).2 := ⟨_, rfl⟩
            obtain ⟨N, hN⟩ : ∃ N, N = (btB xs ys k).1 := ⟨_, rfl⟩
            have hD := HD.out
            rw [← hS] at hD
            by_cases c1' : L < 0
            · have r1 : btB xs ys (k + 1) = ((k : Int), S) := by rw [btB_t (by rw [← hL, hD]; exact .inl c1'), hD]
              rw [← hL, ← hN, ← hS]
              have R1 := Lib.hid r1
              clear r1 hS hL hN hD hbd
              go_wp2
              go_roundw
              case rel => exact ⟨k + 1, by omega, by go_num, by rw [R1.out], by rw [R1.out], HB1.out⟩
              case measure => simp [intOf]; omega
            · by_cases c2' : S < L
              · have r1 : btB xs ys (k + 1) = ((k : Int), S) := by rw [btB_t (by rw [← hL, hD]; exact .inr c2'), hD]
                rw [← hL, ← hN, ← hS]
                have R1 := Lib.hid r1
                clear r1 hS hL hN hD hbd
                go_wp2
                go_roundw
                case rel => exact ⟨k + 1, by omega, by go_num, by rw [R1.out], by rw [R1.out], HB1.out⟩
                case measure => simp [intOf]; omega
              · have r1 : btB xs ys (k + 1) = (N, L) := by rw [btB_f (by rw [← hL, hD]; exact fun e => e.elim c1' c2'), hL, hN]
                rw [← hL, ← hN, ← hS]
                have R1 := Lib.hid r1
                clear r1 hS hL hN hD hbd
                go_wp2
                go_roundw
                case rel => exact ⟨k + 1, by omega, by go_num, by rw [R1.out], by rw [R1.out], HB1.out⟩
                case measure => simp [intOf]; omega
      · have e : k = n := by omega
        subst e
        go_wp2
        go_ret3
        exact ⟨rfl, HBl.out⟩
set_option maxHeartbeats 2000000 in
theorem lBestTurn_any (A B : Option Addr) (n c m d : Nat) (xs ys : List Int) (w : World) (hn : n ≤ 1048576) (hm : m ≤ 1048576) (hA : RI w A n xs) (hB : RI w B m ys) :
    Calls Try.prog 30 #[.slice A n c, .slice B m d] w fun e w' => e = .returned (btR xs ys) ∧ Below w.heap.size w w' := by
  have hl := hA.1
  have hl2 := hB.1
  have HA := Lib.hid hA
  have HB := Lib.hid hB
  clear hA hB
  cases h0 : vl xs
  case false =>
    have e1 : btR xs ys = .tuple #[.int .i64 0, .int .i64 0, .int .i64 1] := by simp [btR, btA, btM, btK, btOk, h0]
    rw [e1]
    clear e1 hl hl2
    go_enter Try.func30, Try.ntmps30
    go_wp2_with (first | (go_at_call 34; refine (l05Ok_any _ _ _ xs _ (by omega) HA.out).mono ?_; rintro e w' ⟨rfl, rfl⟩))
    go_ret3
    exact ⟨rfl, Below.refl _ _⟩
  case true =>
  cases h1 : vl ys
  case false =>
    have e1 : btR xs ys = .tuple #[.int .i64 0, .int .i64 0, .int .i64 1] := by simp [btR, btA, btM, btK, btOk, h1]
    rw [e1]
    clear e1 hl hl2
    go_enter Try.func30, Try.ntmps30
    go_wp2_with (first | (go_at_call 34; first | (refine (l05Ok_any _ _ _ xs _ (by omega) (by with_reducible exact HA.out)).mono ?_; rintro e w' ⟨rfl, rfl⟩) | (refine (l05Ok_any _ _ _ ys _ (by omega) (by with_reducible exact HB.out)).mono ?_; rintro e w' ⟨rfl, rfl⟩)))
    go_ret3
    exact ⟨rfl, Below.refl _ _⟩
  case true =>
  by_cases h2 : n = m
  case neg =>
    have e1 : btR xs ys = .tuple #[.int .i64 0, .int .i64 0, .int .i64 8] := by
      have : ¬ xs.length = ys.length := by omega
      simp [btR, btA, btM, btK, btOk, h0, h1, this]
    rw [e1]
    have h3 : ((n : Int) != (m : Int)) = true := by simp; omega
    clear e1 hl hl2
    go_enter Try.func30, Try.ntmps30
    go_wp2_with (first | (go_at_call 34; first | (refine (l05Ok_any _ _ _ xs _ (by omega) (by with_reducible exact HA.out)).mono ?_; rintro e w' ⟨rfl, rfl⟩) | (refine (l05Ok_any _ _ _ ys _ (by omega) (by with_reducible exact HB.out)).mono ?_; rintro e w' ⟨rfl, rfl⟩)))
    go_ret3
    exact ⟨rfl, Below.refl _ _⟩
  case pos =>
    subst h2
    have e1 : btR xs ys = .tuple #[.int .i64 (btB xs ys n).1, .int .i64 (btB xs ys n).2, .int .i64 0] := by
      have : xs.length = ys.length := by omega
      simp [btR, btA, btM, btK, btOk, h0, h1, this, ← hl2]
    rw [e1]
    obtain ⟨⟨n1', n60'⟩, hp⟩ := vl_t h0
    obtain ⟨_, hp2⟩ := vl_t h1
    have n1 : 1 ≤ n := by omega
    have n60 : n ≤ 60 := by omega
    have HP := Lib.hid (show Pl xs from hp)
    have HP2 := Lib.hid (show Pl ys from hp2)
    have HL := Lib.hid hl
    have HL2 := Lib.hid hl2
    clear e1 hp hp2 hl hl2 n1' n60'
    go_enter Try.func30, Try.ntmps30
    go_wp2_with (first | (go_at_call 34; first | (refine (l05Ok_any _ _ _ xs _ (by omega) (by with_reducible exact HA.out)).mono ?_; rintro e w' ⟨rfl, rfl⟩) | (refine (l05Ok_any _ _ _ ys _ (by omega) (by with_reducible exact HB.out)).mono ?_; rintro e w' ⟨rfl, rfl⟩)))
    go_loopw [7, 8, 9, 10, 11, 12] (fun b l i _ _ _ wr => ∃ k : Nat, k ≤ n ∧ i = .int .i64 k ∧ b = .int .i64 (btB xs ys k).1 ∧ l = .int .i64 (btB xs ys k).2 ∧ Below w.heap.size w wr) (fun _ _ i _ _ _ _ => n - (intOf i).toNat)
    case atStart => exact ⟨0, Nat.zero_le _, rfl, rfl, rfl, Below.refl _ _⟩
    case round =>
      obtain ⟨k, hk, rfl, rfl, rfl, hb⟩ := hrel
      have HBl := Lib.hid hb
      clear hb
      by_cases hlt : k < n
      · go_wp2_with (first | (go_at_call 50; refine (l05Turned_any _ _ _ xs k _ n1 n60 (by omega) (HA.out.below HBl.out)).mono ?_; rintro e w1 ⟨A1, c1, rfl, ho, hb⟩))
        obtain ⟨zs, hzs⟩ : ∃ zs, zs = tuI xs k n := ⟨_, rfl⟩
        have hzl : zs.length = n := by rw [hzs]; exact tuI_len _ _ _
        have hD : btD xs ys k = btS zs ys n := by rw [hzs, btD, HL.out]
        have hzp : ∀ j, j < n → 0 ≤ zs.getD j 0 ∧ zs.getD j 0 ≤ 1000 := by
          have := tuI_pl HP.out k
          rw [HL.out] at this
          rw [hzs]; exact this
        rw [← hzs] at ho ⊢
        have ho2 := RI.of_own ho
        rw [hzl] at ho2 ⊢
        have HO := Lib.hid ho2
        have M1 := Lib.hid (show Below wr.heap.size wr w1 from hb)
        have HB1 := Lib.hid (bl_tr HBl.out M1.out)
        have HY := Lib.hid ((HB.out.below HBl.out).below M1.out)
        have HZP := Lib.hid hzp
        have HYP := Lib.hid (show ∀ j, j < n → 0 ≤ ys.getD j 0 ∧ ys.getD j 0 ≤ 1000 from fun j hj => HP2.out j (by rw [HL2.out]; exact hj))
        have HD := Lib.hid hD
        clear ho ho2 hb hzs hzl hzp hD
        go_wp2
        go_loopw [11, 12] (fun s i wq => ∃ q j : Nat, wq = w1.drewN q ∧ j ≤ n ∧ i = .int .i64 j ∧ s = .int .i64 (btS zs ys j)) (fun _ i _ => n - (intOf i).toNat)
        case atStart => exact ⟨0, 0, rfl, Nat.zero_le _, rfl, rfl⟩
        case round =>
          obtain ⟨q, j, rfl, hj, rfl, rfl⟩ := hrel
          have hbd := btS_bd HZP.out HYP.out j hj
          by_cases hjn : j < n
          · obtain ⟨b1, o1, hA1, q1⟩ := HO.out.at_ hjn
            subst hA1
            obtain ⟨b2, o2, hA2, q2⟩ := HY.out.at_ hjn
            have p1 := HZP.out j hjn
            have p2 := HYP.out j hjn
            obtain ⟨x, hx⟩ : ∃ x, x = zs.getD j 0 := ⟨_, rfl⟩
            obtain ⟨y, hy⟩ : ∃ y, y = ys.getD j 0 := ⟨_, rfl⟩
            rw [← hx] at q1 p1
            rw [← hy] at q2 p2
            have hs : btS zs ys (j + 1) = btS zs ys j + abI (x - y) := by rw [btS, ← hx, ← hy]
            have p3 := abI_bd (x - y) 1000 (by omega) (by omega)
            obtain ⟨S, hS⟩ : ∃ S, S = btS zs ys j := ⟨_, rfl⟩
            rw [← hS] at hs hbd ⊢
            have HS := Lib.hid hs
            clear hS hs hx hy
            obtain ⟨p1, p1'⟩ := p1
            obtain ⟨p2, p2'⟩ := p2
            obtain ⟨p3, p3'⟩ := p3
            obtain ⟨p4, p4'⟩ := hbd
            subst hA2
            go_wp2
            go_quiet ((go_at_call 40; first | exact quiet_add_left (size_any _ _ (by omega) (by omega)) | exact quiet_left (size_any _ _ (by omega) (by omega))))
            go_wp2
            go_roundw
            case rel => exact ⟨_, j + 1, rfl, by omega, by go_num, by rw [HS.out]⟩
            case measure => simp [intOf]; omega
          · have e : j = n := by omega
            subst e
            obtain ⟨S, hS⟩ : ∃ S, S = btS zs ys j := ⟨_, rfl⟩
            obtain ⟨L, hL⟩ : ∃ L, L = (btB xs ys k).2 := ⟨_, rfl⟩
            obtain ⟨N, hN⟩ : ∃ N, N = (btB xs ys k).1 := ⟨_, rfl⟩
            have hD := HD.out
            rw [← hS] at hD
            by_cases c1' : L < 0
            · have r1 : btB xs ys (k + 1) = ((k : Int), S) := by rw [btB_t (by rw [← hL, hD]; exact .inl c1'), hD]
              rw [← hL, ← hN, ← hS]
              have R1 := Lib.hid r1
              clear r1 hS hL hN hD hbd
              go_wp2
              go_roundw
              case rel => exact ⟨k + 1, by omega, by go_num, by rw [R1.out], by rw [R1.out], bl_drewN HB1.out _⟩
              case measure => simp [intOf]; omega
            · by_cases c2' : S < L
              · have r1 : btB xs ys (k + 1) = ((k : Int), S) := by rw [btB_t (by rw [← hL, hD]; exact .inr c2'), hD]
                rw [← hL, ← hN, ← hS]
                have R1 := Lib.hid r1
                clear r1 hS hL hN hD hbd
                go_wp2
                go_roundw
                case rel => exact ⟨k + 1, by omega, by go_num, by rw [R1.out], by rw [R1.out], bl_drewN HB1.out _⟩
                case measure => simp [intOf]; omega
              · have r1 : btB xs ys (k + 1) = (N, L) := by rw [btB_f (by rw [← hL, hD]; exact fun e => e.elim c1' c2'), hL, hN]
                rw [← hL, ← hN, ← hS]
                have R1 := Lib.hid r1
                clear r1 hS hL hN hD hbd
                go_wp2
                go_roundw
                case rel => exact ⟨k + 1, by omega, by go_num, by rw [R1.out], by rw [R1.out], bl_drewN HB1.out _⟩
                case measure => simp [intOf]; omega
      · have e : k = n := by omega
        subst e
        go_wp2
        go_ret3
        exact ⟨rfl, HBl.out⟩
theorem BestTurn_v (A B : Option Addr) (n c m d : Nat) (xs ys : List Int) (w : World) (hn : n ≤ 1048576) (hm : m ≤ 1048576) (hA : RI w A n xs) (hB : RI w B m ys) (hcap : 0 < n → n ≤ c ∧ c ≤ maxLen) :
    Calls Try.prog 31 #[.slice A n c, .slice B m d] w fun e w' => e = .returned (.tuple #[.int .i64 (btA xs ys), .int .i64 (btM xs ys), .int .i64 (btK xs ys)]) ∧ Below w.heap.size w w' := BestTurn_any A B n c m d xs ys w hn hm hA hB hcap
theorem lBestTurn_v (A B : Option Addr) (n c m d : Nat) (xs ys : List Int) (w : World) (hn : n ≤ 1048576) (hm : m ≤ 1048576) (hA : RI w A n xs) (hB : RI w B m ys) :
    Calls Try.prog 30 #[.slice A n c, .slice B m d] w fun e w' => e = .returned (.tuple #[.int .i64 (btA xs ys), .int .i64 (btM xs ys), .int .i64 (btK xs ys)]) ∧ Below w.heap.size w w' := lBestTurn_any A B n c m d xs ys w hn hm hA hB
set_option maxHeartbeats 2000000 in
theorem law_BestTurn (w : World) (A : Option Addr) (n c : Nat) (xs : List Int) (hA : RI w A n xs) (B : Option Addr) (m d : Nat) (ys : List Int) (hB : RI w B m ys) :
    Calls Try.prog 9 #[.slice A n c, .slice B m d] w fun e w' => e = .returned (.bool true) ∧ Below w.heap.size w w' := by
  obtain rfl : n = xs.length := hA.1.symm
  obtain rfl : m = ys.length := hB.1.symm
  by_cases hbig : 1048576 < xs.length
  · have hb2 : decide (1048576 < (xs.length : Int)) = true := by simp; omega
    clear hA hB
    go_enter Try.func9, Try.ntmps9
    go_wp2
    go_ret
    exact ⟨rfl, Below.refl _ _⟩
  by_cases hbig2 : 1048576 < ys.length
  · have hb2 : decide (1048576 < (ys.length : Int)) = true := by simp; omega
    clear hA hB
    go_enter Try.func9, Try.ntmps9
    go_wp2
    go_ret
    exact ⟨rfl, Below.refl _ _⟩
  have hm : xs.length ≤ 1048576 := by omega
  have hm2 : xs.length ≤ 1152921504606846976 := by omega
  have hk : ys.length ≤ 1048576 := by omega
  have hk2 : ys.length ≤ 1152921504606846976 := by omega
  have RA0 := Lib.hid hA
  have RB0 := Lib.hid hB
  clear hA hB
  go_enter Try.func9, Try.ntmps9
  go_wp2_with fail
  refine (toInt64S_any _ _ _ xs _ hm (by with_reducible first | exact RA0.out | exact RA0.out.drewN _)).mono ?_
  rintro e w1 ⟨T0, cT0, rfl, own1, hb1⟩
  have M1 := Lib.hid (show Below w.heap.size w w1 from by
    repeat (first | exact Below.refl _ _ | assumption | refine bl_drewN ?_ _ | refine Below.drew ?_ | refine bl_al ?_ _ | (refine Below.setCell ?_ (by simp <;> omega) _) | refine bl_tr ?_ (by assumption)))
  have U1 := Lib.hid (M1.out)
  have RA_1 := Lib.hid (RA0.out.below M1.out)
  have RB_1 := Lib.hid (RB0.out.below M1.out)
  have RT0 := Lib.hid (RI.of_own own1)
  have KT0 := Lib.hid (own_cap own1)
  clear own1 hb1
  go_wp2_with fail
  refine (toInt64S_any _ _ _ ys _ hk (by with_reducible first | exact RB_1.out | exact RB_1.out.drewN _)).mono ?_
  rintro e w2 ⟨T1, cT1, rfl, own2, hb2⟩
  have M2 := Lib.hid (show Below w1.heap.size w1 w2 from by
    repeat (first | exact Below.refl _ _ | assumption | refine bl_drewN ?_ _ | refine Below.drew ?_ | refine bl_al ?_ _ | (refine Below.setCell ?_ (by simp <;> omega) _) | refine bl_tr ?_ (by assumption)))
  have U2 := Lib.hid (bl_tr U1.out M2.out)
  have RA_2 := Lib.hid (RA_1.out.below M2.out)
  have RB_2 := Lib.hid (RB_1.out.below M2.out)
  have RT0_2 := Lib.hid (RT0.out.below M2.out)
  have RT1 := Lib.hid (RI.of_own own2)
  have KT1 := Lib.hid (own_cap own2)
  clear own2 hb2
  go_wp2_with fail
  refine (lBestTurn_v _ _ _ _ _ _ xs ys _ hm hk RT0_2.out RT1.out).mono ?_
  rintro e w3 ⟨rfl, hb3⟩
  have M3 := Lib.hid (show Below w2.heap.size w2 w3 from by
    repeat (first | exact Below.refl _ _ | assumption | refine bl_drewN ?_ _ | refine Below.drew ?_ | refine bl_al ?_ _ | (refine Below.setCell ?_ (by simp <;> omega) _) | refine bl_tr ?_ (by assumption)))
  have U3 := Lib.hid (bl_tr U2.out M3.out)
  have RA_3 := Lib.hid (RA_2.out.below M3.out)
  have RB_3 := Lib.hid (RB_2.out.below M3.out)
  clear hb3
  go_wp2_with fail
  refine (toInt64S_any _ _ _ xs _ hm (by with_reducible first | exact RA_3.out | exact RA_3.out.drewN _)).mono ?_
  rintro e w4 ⟨X0, cX0, rfl, own4, hb4⟩
  have M4 := Lib.hid (show Below w3.heap.size w3 w4 from by
    repeat (first | exact Below.refl _ _ | assumption | refine bl_drewN ?_ _ | refine Below.drew ?_ | refine bl_al ?_ _ | (refine Below.setCell ?_ (by simp <;> omega) _) | refine bl_tr ?_ (by assumption)))
  have U4 := Lib.hid (bl_tr U3.out M4.out)
  have RA_4 := Lib.hid (RA_3.out.below M4.out)
  have RB_4 := Lib.hid (RB_3.out.below M4.out)
  have RX0 := Lib.hid (RI.of_own own4)
  have KX0 := Lib.hid (own_cap own4)
  clear own4 hb4
  go_wp2_with fail
  refine (toInt64S_any _ _ _ ys _ hk (by with_reducible first | exact RB_4.out | exact RB_4.out.drewN _)).mono ?_
  rintro e w5 ⟨X1, cX1, rfl, own5, hb5⟩
  have M5 := Lib.hid (show Below w4.heap.size w4 w5 from by
    repeat (first | exact Below.refl _ _ | assumption | refine bl_drewN ?_ _ | refine Below.drew ?_ | refine bl_al ?_ _ | (refine Below.setCell ?_ (by simp <;> omega) _) | refine bl_tr ?_ (by assumption)))
  have U5 := Lib.hid (bl_tr U4.out M5.out)
  have RA_5 := Lib.hid (RA_4.out.below M5.out)
  have RB_5 := Lib.hid (RB_4.out.below M5.out)
  have RX0_5 := Lib.hid (RX0.out.below M5.out)
  have RX1 := Lib.hid (RI.of_own own5)
  have KX1 := Lib.hid (own_cap own5)
  clear own5 hb5
  go_wp2_with fail
  refine (BestTurn_v _ _ _ _ _ _ xs ys _ hm hk RX0_5.out RX1.out KX0.out).mono ?_
  rintro e w6 ⟨rfl, hb6⟩
  have M6 := Lib.hid (show Below w5.heap.size w5 w6 from by
    repeat (first | exact Below.refl _ _ | assumption | refine bl_drewN ?_ _ | refine Below.drew ?_ | refine bl_al ?_ _ | (refine Below.setCell ?_ (by simp <;> omega) _) | refine bl_tr ?_ (by assumption)))
  have U6 := Lib.hid (bl_tr U5.out M6.out)
  have RA_6 := Lib.hid (RA_5.out.below M6.out)
  have RB_6 := Lib.hid (RB_5.out.below M6.out)
  have RX0_6 := Lib.hid (RX0_5.out.below M6.out)
  have RX1_6 := Lib.hid (RX1.out.below M6.out)
  clear hb6
  go_wp2_with fail
  refine (toInt64S_any _ _ _ xs _ hm (by with_reducible first | exact RA_6.out | exact RA_6.out.drewN _)).mono ?_
  rintro e w7 ⟨T2, cT2, rfl, own7, hb7⟩
  have M7 := Lib.hid (show Below w6.heap.size w6 w7 from by
    repeat (first | exact Below.refl _ _ | assumption | refine bl_drewN ?_ _ | refine Below.drew ?_ | refine bl_al ?_ _ | (refine Below.setCell ?_ (by simp <;> omega) _) | refine bl_tr ?_ (by assumption)))
  have U7 := Lib.hid (bl_tr U6.out M7.out)
  have RA_7 := Lib.hid (RA_6.out.below M7.out)
  have RB_7 := Lib.hid (RB_6.out.below M7.out)
  have RX0_7 := Lib.hid (RX0_6.out.below M7.out)
  have RX1_7 := Lib.hid (RX1_6.out.below M7.out)
  have RT2 := Lib.hid (RI.of_own own7)
  have KT2 := Lib.hid (own_cap own7)
  clear own7 hb7
  go_wp2_with fail
  refine (eqInt64S_same _ _ _ _ _ (xs) _ hm2 (by with_reducible first | exact RX0_7.out | exact RX0_7.out.drewN _) (by with_reducible first | exact RT2.out | exact RT2.out.drewN _)).mono ?_
  rintro e w' ⟨rfl, k1, rfl⟩
  go_wp2_with fail
  refine (toInt64S_any _ _ _ ys _ hk (by with_reducible first | exact RB_7.out | exact RB_7.out.drewN _)).mono ?_
  rintro e w8 ⟨T3, cT3, rfl, own8, hb8⟩
  have M8 := Lib.hid (show Below w7.heap.size w7 w8 from by
    repeat (first | exact Below.refl _ _ | assumption | refine bl_drewN ?_ _ | refine Below.drew ?_ | refine bl_al ?_ _ | (refine Below.setCell ?_ (by simp <;> omega) _) | refine bl_tr ?_ (by assumption)))
  have U8 := Lib.hid (bl_tr U7.out M8.out)
  have RA_8 := Lib.hid (RA_7.out.below M8.out)
  have RB_8 := Lib.hid (RB_7.out.below M8.out)
  have RX0_8 := Lib.hid (RX0_7.out.below M8.out)
  have RX1_8 := Lib.hid (RX1_7.out.below M8.out)
  have RT2_8 := Lib.hid (RT2.out.below M8.out)
  have RT3 := Lib.hid (RI.of_own own8)
  have KT3 := Lib.hid (own_cap own8)
  clear own8 hb8
  go_wp2_with fail
  refine (eqInt64S_same _ _ _ _ _ (ys) _ hk2 (by with_reducible first | exact RX1_8.out | exact RX1_8.out.drewN _) (by with_reducible first | exact RT3.out | exact RT3.out.drewN _)).mono ?_
  rintro e w' ⟨rfl, k2, rfl⟩
  go_wp2_with fail
  go_ret
  exact ⟨rfl, bl_drewN U8.out _⟩
end Go.Proofs.Yticdilgnjnnaiaa

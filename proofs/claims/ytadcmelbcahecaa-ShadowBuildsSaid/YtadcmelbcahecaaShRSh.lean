/- trunnionref14.Shadow. -/
import Derived.Test.YtadcmelbcahecaaShRTab
import Derived.Test.YtadcmelbcahecaaRMap
namespace Go.Proofs.Ytadcmelbcahecaa
open Go.RowKit


set_option maxRecDepth 100000 in
set_option maxHeartbeats 8000000 in
theorem rshadow_any {a b n : Nat} {f : Nat → Int} {w : World} (M : Mem 76 w a b n f) (ptbr pages first fr cnt : Int) (hfr0 : -9223372036854775808 ≤ fr) (hfr1 : fr < 9223372036854775808) (L : List EntD) (hL : entsL n f ptbr pages first fr cnt = L) :
    Calls Try.prog 19 #[.pointer (some ⟨a, 0, none⟩), .int .i64 ptbr, .int .i64 pages, .int .i64 first, .int .i64 fr, .int .i64 cnt] w fun e w' => ∃ v, e = .returned v ∧ w'.ownsRow w.heap.size 35 3 v L.length (L.flatMap entCells) ∧ Chg w w' (fun _ => False) := by
  obtain ⟨i0, hi, hz0, hz1, hz2⟩ := info_parts info_ent
  obtain ⟨T, hT⟩ : ∃ T, tabL n f ptbr (max 0 pages) = T := ⟨_, rfl⟩
  have HEND : Hid (rsL n f ptbr (max 0 pages) first T fr (min (max 0 cnt) 4096).toNat = L) := by show _ = _; rw [rsL_end n f ptbr pages first fr cnt T hT]; exact hL
  have HTT := rtables_any M ptbr pages T (by rw [rtL_eq, ← tabL_max M.rng]; exact hT)
  have hTl : T.length ≤ 1025 := by rw [← hT]; exact tabL_len _ _ _ _
  obtain ⟨P, hP⟩ : ∃ P, max 0 pages = P := ⟨_, rfl⟩
  obtain ⟨N, hNd⟩ : ∃ N, (min (max 0 cnt) 4096).toNat = N := ⟨_, rfl⟩
  rw [hP, hNd] at HEND
  clear hT hL
  by_cases hcn : 4096 < cnt
  · go_enter Try.func19, Try.ntmps19
    go_wp2_with fail
    refine HTT.mono ?_
    rintro e w1 ⟨ao1, cap1, rfl, I1, C1⟩
    clear HTT
    have lT := own_lst I1.own
    have hlT : T.length ≤ 1025 := hTl
    clear I1
    go_wp2_with fail
    go_loopg [14, 15] N (fun g s14 s15 wr => ∃ k : Nat, g + k = N ∧ s15 = .int .i64 k ∧ wr.ownsRow w1.heap.size 35 3 s14 (rsL n f ptbr P first T fr k).length ((rsL n f ptbr P first T fr k).flatMap entCells) ∧ Chg w1 wr (fun _ => False))
    case atStart => exact ⟨0, Nat.add_zero _, rfl, World.ownsRow_nil _ _ _ _, Chg.refl _ _⟩
    case round =>
      obtain ⟨k, hk, rfl, hrow, Ck⟩ := hrel
      have HK := Lib.hid hk
      have Cwk := C1.trans Ck
      have Rk := M.chg Cwk (fun h => h) (fun h => h)
      have lTk := lT.chg Ck (fun _ _ h => h)
      by_cases hlt : k < N
      · have hk0 : (0 : Int) ≤ (k : Int) := by omega
        have hk1 : (k : Int) < 4096 := by omega
        have hkc : (k : Int) < 4096 := by omega
        by_cases hbr : 1048575 < fr + k
        · have hstop := rsL_stop n f ptbr P first T fr k hbr (N - k)
          rw [Nat.add_sub_cancel' (by omega), HEND.out] at hstop
          rw [← hstop] at hrow
          clear hk hstop
          go_wp2_with fail
          go_ret
          exact ⟨_, rfl, own_base hrow C1.size, Cwk⟩
        have hlen := rsL_len n f ptbr P first T fr k
        have HS : Hid (rsL n f ptbr P first T fr (k + 1) = rsL n f ptbr P first T fr k ++ (if (0 ≤ fr + k ∧ fr + k ≤ 1048575) ∧ ((mvE n f ptbr (fr + k)).2 = true ∧ (mvE n f ptbr (fr + k)).1 / 4096 < P) then [shEnt T first (fr + k, (mvE n f ptbr (fr + k)).1)] else [])) := rfl
        obtain ⟨R, hR⟩ : ∃ R, rsL n f ptbr P first T fr k = R := ⟨_, rfl⟩
        rw [hR] at HS hrow hlen
        obtain ⟨v, hvd⟩ : ∃ v, fr + (k : Int) = v := ⟨_, rfl⟩
        rw [hvd] at HS hbr
        have hvw : wrap64 (fr + (k : Int)) = v := by rw [IntWalk.wrap64_in _ (by omega)]; exact hvd
        have hkw : wrap64 (1048575 - (k : Int)) = 1048575 - (k : Int) := IntWalk.wrap64_in _ (by omega)
        clear hR hk
        by_cases hv0 : v < 0
        · have HS2 : Hid (rsL n f ptbr P first T fr (k + 1) = R) := by show _ = _; rw [HS.out, if_neg (by omega), List.append_nil]
          go_wp2_with fail
    
          go_roundg (gk - 1)
          case measure => have := HK.out; omega
          case rel => exact ⟨k + 1, by have := HK.out; omega, by go_num, by rw [HS2.out]; exact hrow, Ck⟩
        have hpos := mvE_pos M.rng ptbr v (by omega)
        have e31 : bits .or .i64 (v * 4096) 31 = v * 4096 + 31 := or12 v 31 (by omega) (by omega) (by omega) (by omega)
        by_cases hon : ptbr / 2147483648 % 2 = 1
        · have e0 : (bits .and .i64 ptbr 2147483648 != 0) = true := by rw [bit31, bne_iff_ne]; omega
          have hmv : mvE n f ptbr v = mapV n f ptbr v := by unfold mvE; rw [if_pos (show onB ptbr = true from decide_eq_true hon)]
          have HM := rmap_any Rk ptbr v
          rw [hmv] at HS hpos
          obtain ⟨q, hq⟩ : ∃ q, (mapV n f ptbr v).1 = q := ⟨_, rfl⟩
          obtain ⟨ok, hok⟩ : ∃ ok, (mapV n f ptbr v).2 = ok := ⟨_, rfl⟩
          rw [hq, hok] at HS HM
          rw [hq] at hpos
          clear hmv hq hok hon
          cases ok
          case false =>
            have HS2 : Hid (rsL n f ptbr P first T fr (k + 1) = R) := by show _ = _; rw [HS.out, if_neg (fun h => by cases h.2.1), List.append_nil]
            go_wp2_with fail
            refine HM.mono ?_
            rintro e w' ⟨rfl, rfl⟩
            clear HM
            go_wp2_with fail
            go_roundg (gk - 1)
            case measure => have := HK.out; omega
            case rel => exact ⟨k + 1, by have := HK.out; omega, by go_num, by rw [HS2.out]; exact hrow, Ck⟩
          have hq0 : 0 ≤ q / 4096 := by omega
          by_cases hqp : q / 4096 < P
          case neg =>
            have HS2 : Hid (rsL n f ptbr P first T fr (k + 1) = R) := by show _ = _; rw [HS.out, if_neg (fun h => hqp h.2.2), List.append_nil]
            have hge : pages ≤ q / 4096 := by omega
            go_wp2_with fail
            refine HM.mono ?_
            rintro e w' ⟨rfl, rfl⟩
            clear HM
            go_wp2_with fail
            go_roundg (gk - 1)
            case measure => have := HK.out; omega
            case rel => exact ⟨k + 1, by have := HK.out; omega, by go_num, by rw [HS2.out]; exact hrow, Ck⟩
          have hlt2 : q / 4096 < pages := by omega
          have HIN := in_any T (q / 4096) wr lTk
          have e30 := bit14 q
          have e4 := andnot4 q
          have HB : Hid (shEnt T first (v, q) = ⟨v, wrap64 (first + q / 4096), if T.contains (q / 4096) = true then q / 2 % 16 * 2 - q / 4 % 2 * 4 else q / 2 % 16 * 2⟩) := rfl
          have hlenR : R.length ≤ 4096 := by omega
          obtain ⟨tb, htb⟩ : ∃ tb, T.contains (q / 4096) = tb := ⟨_, rfl⟩
          rw [htb] at HIN HB
          clear htb
          obtain ⟨ff, hff⟩ : ∃ ff, wrap64 (first + q / 4096) = ff := ⟨_, rfl⟩
          cases tb
          case false =>
            have HS2 : Hid (rsL n f ptbr P first T fr (k + 1) = R ++ [⟨v, ff, q / 2 % 16 * 2⟩]) := by
              show _ = _
              rw [HS.out, if_pos ⟨⟨by omega, by omega⟩, rfl, hqp⟩, HB.out, hff]
              rfl
            obtain ⟨bt, hbt⟩ : ∃ bt, q / 2 % 16 * 2 = bt := ⟨_, rfl⟩
            rw [hbt] at HS2 e30
            clear hbt
            have hN := ((Box.new wr 35 #[.int .i64 v, .int .i64 ff, .int .i64 bt]).src 1 1 3 [.int .i64 v, .int .i64 ff, .int .i64 bt] rfl rfl).get _ rfl
            have hsz := Ck.size
            go_wp2_with (first
              | (go_at_call 16; refine HM.mono ?_; rintro e w' ⟨rfl, rfl⟩)
              | (go_at_call 36; refine HIN.mono ?_; rintro e w' ⟨rfl, rfl⟩)
              | (at_builtin; go_loud (refine wpList_append_own _ rfl _ _ 31 rfl w1.heap.size 35 i0 _ 3 24 Try.underlying31 hi hz0 hz1 hz2 rfl (by decide) _ _ _ rfl (own_alloc hrow _) ⟨wr.heap.size, 0, none⟩ 1 1 [.int .i64 v, .int .i64 ff, .int .i64 bt] rfl rfl hN (by intro u hu; simp at hu; rcases hu with rfl | rfl | rfl <;> rfl) (by unfold maxLen; omega) (by omega) (by simp; omega) ?_); go_loud (intro v' w1' hown' hgrow _)))
            go_roundg (gk - 1)
            case measure => have := HK.out; omega
            case rel =>
              refine ⟨k + 1, by have := HK.out; omega, by go_num, ?_, ?_⟩
              · rw [HS2.out, List.length_append, List.flatMap_append]
                exact hown'
              · exact (Ck.alloc _).grown hgrow (fun j hj hlt2 => by
                  have := hrow.lt j hj
                  omega)
          case true =>
            have HS2 : Hid (rsL n f ptbr P first T fr (k + 1) = R ++ [⟨v, ff, (q / 2 % 16 * 2 - q / 4 % 2 * 4)⟩]) := by
              show _ = _
              rw [HS.out, if_pos ⟨⟨by omega, by omega⟩, rfl, hqp⟩, HB.out, hff]
              rfl
            obtain ⟨bt, hbt⟩ : ∃ bt, (q / 2 % 16 * 2 - q / 4 % 2 * 4) = bt := ⟨_, rfl⟩
            rw [hbt] at HS2 e4
            clear hbt
            have hN := ((Box.new wr 35 #[.int .i64 v, .int .i64 ff, .int .i64 bt]).src 1 1 3 [.int .i64 v, .int .i64 ff, .int .i64 bt] rfl rfl).get _ rfl
            have hsz := Ck.size
            go_wp2_with (first
              | (go_at_call 16; refine HM.mono ?_; rintro e w' ⟨rfl, rfl⟩)
              | (go_at_call 36; refine HIN.mono ?_; rintro e w' ⟨rfl, rfl⟩)
              | (at_builtin; go_loud (refine wpList_append_own _ rfl _ _ 31 rfl w1.heap.size 35 i0 _ 3 24 Try.underlying31 hi hz0 hz1 hz2 rfl (by decide) _ _ _ rfl (own_alloc hrow _) ⟨wr.heap.size, 0, none⟩ 1 1 [.int .i64 v, .int .i64 ff, .int .i64 bt] rfl rfl hN (by intro u hu; simp at hu; rcases hu with rfl | rfl | rfl <;> rfl) (by unfold maxLen; omega) (by omega) (by simp; omega) ?_); go_loud (intro v' w1' hown' hgrow _)))
            go_roundg (gk - 1)
            case measure => have := HK.out; omega
            case rel =>
              refine ⟨k + 1, by have := HK.out; omega, by go_num, ?_, ?_⟩
              · rw [HS2.out, List.length_append, List.flatMap_append]
                exact hown'
              · exact (Ck.alloc _).grown hgrow (fun j hj hlt2 => by
                  have := hrow.lt j hj
                  omega)
        · have e0 : (bits .and .i64 ptbr 2147483648 != 0) = false := by rw [bit31, bne_eq_false_iff_eq]; omega
          have hmv : mvE n f ptbr v = (v * 4096 + 31, true) := by unfold mvE; rw [if_neg (by rw [show onB ptbr = false from decide_eq_false hon]; decide)]
          rw [hmv] at HS hpos
          dsimp only at HS hpos
          obtain ⟨q, hq⟩ : ∃ q, v * 4096 + 31 = q := ⟨_, rfl⟩
          rw [hq] at HS hpos e31
          clear hmv hon hq
          have hq0 : 0 ≤ q / 4096 := by omega
          by_cases hqp : q / 4096 < P
          case neg =>
            have HS2 : Hid (rsL n f ptbr P first T fr (k + 1) = R) := by show _ = _; rw [HS.out, if_neg (fun h => hqp h.2.2), List.append_nil]
            have hge : pages ≤ q / 4096 := by omega
            go_wp2_with fail
            go_roundg (gk - 1)
            case measure => have := HK.out; omega
            case rel => exact ⟨k + 1, by have := HK.out; omega, by go_num, by rw [HS2.out]; exact hrow, Ck⟩
          have hlt2 : q / 4096 < pages := by omega
          have HIN := in_any T (q / 4096) wr lTk
          have e30 := bit14 q
          have e4 := andnot4 q
          have HB : Hid (shEnt T first (v, q) = ⟨v, wrap64 (first + q / 4096), if T.contains (q / 4096) = true then q / 2 % 16 * 2 - q / 4 % 2 * 4 else q / 2 % 16 * 2⟩) := rfl
          have hlenR : R.length ≤ 4096 := by omega
          obtain ⟨tb, htb⟩ : ∃ tb, T.contains (q / 4096) = tb := ⟨_, rfl⟩
          rw [htb] at HIN HB
          clear htb
          obtain ⟨ff, hff⟩ : ∃ ff, wrap64 (first + q / 4096) = ff := ⟨_, rfl⟩
          cases tb
          case false =>
            have HS2 : Hid (rsL n f ptbr P first T fr (k + 1) = R ++ [⟨v, ff, q / 2 % 16 * 2⟩]) := by
              show _ = _
              rw [HS.out, if_pos ⟨⟨by omega, by omega⟩, rfl, hqp⟩, HB.out, hff]
              rfl
            obtain ⟨bt, hbt⟩ : ∃ bt, q / 2 % 16 * 2 = bt := ⟨_, rfl⟩
            rw [hbt] at HS2 e30
            clear hbt
            have hN := ((Box.new wr 35 #[.int .i64 v, .int .i64 ff, .int .i64 bt]).src 1 1 3 [.int .i64 v, .int .i64 ff, .int .i64 bt] rfl rfl).get _ rfl
            have hsz := Ck.size
            go_wp2_with (first
              | fail
              | (go_at_call 36; refine HIN.mono ?_; rintro e w' ⟨rfl, rfl⟩)
              | (at_builtin; go_loud (refine wpList_append_own _ rfl _ _ 31 rfl w1.heap.size 35 i0 _ 3 24 Try.underlying31 hi hz0 hz1 hz2 rfl (by decide) _ _ _ rfl (own_alloc hrow _) ⟨wr.heap.size, 0, none⟩ 1 1 [.int .i64 v, .int .i64 ff, .int .i64 bt] rfl rfl hN (by intro u hu; simp at hu; rcases hu with rfl | rfl | rfl <;> rfl) (by unfold maxLen; omega) (by omega) (by simp; omega) ?_); go_loud (intro v' w1' hown' hgrow _)))
            go_roundg (gk - 1)
            case measure => have := HK.out; omega
            case rel =>
              refine ⟨k + 1, by have := HK.out; omega, by go_num, ?_, ?_⟩
              · rw [HS2.out, List.length_append, List.flatMap_append]
                exact hown'
              · exact (Ck.alloc _).grown hgrow (fun j hj hlt2 => by
                  have := hrow.lt j hj
                  omega)
          case true =>
            have HS2 : Hid (rsL n f ptbr P first T fr (k + 1) = R ++ [⟨v, ff, (q / 2 % 16 * 2 - q / 4 % 2 * 4)⟩]) := by
              show _ = _
              rw [HS.out, if_pos ⟨⟨by omega, by omega⟩, rfl, hqp⟩, HB.out, hff]
              rfl
            obtain ⟨bt, hbt⟩ : ∃ bt, (q / 2 % 16 * 2 - q / 4 % 2 * 4) = bt := ⟨_, rfl⟩
            rw [hbt] at HS2 e4
            clear hbt
            have hN := ((Box.new wr 35 #[.int .i64 v, .int .i64 ff, .int .i64 bt]).src 1 1 3 [.int .i64 v, .int .i64 ff, .int .i64 bt] rfl rfl).get _ rfl
            have hsz := Ck.size
            go_wp2_with (first
              | fail
              | (go_at_call 36; refine HIN.mono ?_; rintro e w' ⟨rfl, rfl⟩)
              | (at_builtin; go_loud (refine wpList_append_own _ rfl _ _ 31 rfl w1.heap.size 35 i0 _ 3 24 Try.underlying31 hi hz0 hz1 hz2 rfl (by decide) _ _ _ rfl (own_alloc hrow _) ⟨wr.heap.size, 0, none⟩ 1 1 [.int .i64 v, .int .i64 ff, .int .i64 bt] rfl rfl hN (by intro u hu; simp at hu; rcases hu with rfl | rfl | rfl <;> rfl) (by unfold maxLen; omega) (by omega) (by simp; omega) ?_); go_loud (intro v' w1' hown' hgrow _)))
            go_roundg (gk - 1)
            case measure => have := HK.out; omega
            case rel =>
              refine ⟨k + 1, by have := HK.out; omega, by go_num, ?_, ?_⟩
              · rw [HS2.out, List.length_append, List.flatMap_append]
                exact hown'
              · exact (Ck.alloc _).grown hgrow (fun j hj hlt2 => by
                  have := hrow.lt j hj
                  omega)
      · obtain rfl : k = N := by omega
        clear hk
        have hkc : ¬ ((k : Int) < 4096) := by omega
        go_wp2_with fail
        go_ret
        exact ⟨_, rfl, own_base (by rw [← HEND.out]; exact hrow) C1.size, Cwk⟩
  · go_enter Try.func19, Try.ntmps19
    go_wp2_with fail
    refine HTT.mono ?_
    rintro e w1 ⟨ao1, cap1, rfl, I1, C1⟩
    clear HTT
    have lT := own_lst I1.own
    have hlT : T.length ≤ 1025 := hTl
    clear I1
    go_wp2_with fail
    go_loopg [14, 15] N (fun g s14 s15 wr => ∃ k : Nat, g + k = N ∧ s15 = .int .i64 k ∧ wr.ownsRow w1.heap.size 35 3 s14 (rsL n f ptbr P first T fr k).length ((rsL n f ptbr P first T fr k).flatMap entCells) ∧ Chg w1 wr (fun _ => False))
    case atStart => exact ⟨0, Nat.add_zero _, rfl, World.ownsRow_nil _ _ _ _, Chg.refl _ _⟩
    case round =>
      obtain ⟨k, hk, rfl, hrow, Ck⟩ := hrel
      have HK := Lib.hid hk
      have Cwk := C1.trans Ck
      have Rk := M.chg Cwk (fun h => h) (fun h => h)
      have lTk := lT.chg Ck (fun _ _ h => h)
      by_cases hlt : k < N
      · have hk0 : (0 : Int) ≤ (k : Int) := by omega
        have hk1 : (k : Int) < 4096 := by omega
        have hkc : (k : Int) < cnt := by omega
        by_cases hbr : 1048575 < fr + k
        · have hstop := rsL_stop n f ptbr P first T fr k hbr (N - k)
          rw [Nat.add_sub_cancel' (by omega), HEND.out] at hstop
          rw [← hstop] at hrow
          clear hk hstop
          go_wp2_with fail
          go_ret
          exact ⟨_, rfl, own_base hrow C1.size, Cwk⟩
        have hlen := rsL_len n f ptbr P first T fr k
        have HS : Hid (rsL n f ptbr P first T fr (k + 1) = rsL n f ptbr P first T fr k ++ (if (0 ≤ fr + k ∧ fr + k ≤ 1048575) ∧ ((mvE n f ptbr (fr + k)).2 = true ∧ (mvE n f ptbr (fr + k)).1 / 4096 < P) then [shEnt T first (fr + k, (mvE n f ptbr (fr + k)).1)] else [])) := rfl
        obtain ⟨R, hR⟩ : ∃ R, rsL n f ptbr P first T fr k = R := ⟨_, rfl⟩
        rw [hR] at HS hrow hlen
        obtain ⟨v, hvd⟩ : ∃ v, fr + (k : Int) = v := ⟨_, rfl⟩
        rw [hvd] at HS hbr
        have hvw : wrap64 (fr + (k : Int)) = v := by rw [IntWalk.wrap64_in _ (by omega)]; exact hvd
        have hkw : wrap64 (1048575 - (k : Int)) = 1048575 - (k : Int) := IntWalk.wrap64_in _ (by omega)
        clear hR hk
        by_cases hv0 : v < 0
        · have HS2 : Hid (rsL n f ptbr P first T fr (k + 1) = R) := by show _ = _; rw [HS.out, if_neg (by omega), List.append_nil]
          go_wp2_with fail
    
          go_roundg (gk - 1)
          case measure => have := HK.out; omega
          case rel => exact ⟨k + 1, by have := HK.out; omega, by go_num, by rw [HS2.out]; exact hrow, Ck⟩
        have hpos := mvE_pos M.rng ptbr v (by omega)
        have e31 : bits .or .i64 (v * 4096) 31 = v * 4096 + 31 := or12 v 31 (by omega) (by omega) (by omega) (by omega)
        by_cases hon : ptbr / 2147483648 % 2 = 1
        · have e0 : (bits .and .i64 ptbr 2147483648 != 0) = true := by rw [bit31, bne_iff_ne]; omega
          have hmv : mvE n f ptbr v = mapV n f ptbr v := by unfold mvE; rw [if_pos (show onB ptbr = true from decide_eq_true hon)]
          have HM := rmap_any Rk ptbr v
          rw [hmv] at HS hpos
          obtain ⟨q, hq⟩ : ∃ q, (mapV n f ptbr v).1 = q := ⟨_, rfl⟩
          obtain ⟨ok, hok⟩ : ∃ ok, (mapV n f ptbr v).2 = ok := ⟨_, rfl⟩
          rw [hq, hok] at HS HM
          rw [hq] at hpos
          clear hmv hq hok hon
          cases ok
          case false =>
            have HS2 : Hid (rsL n f ptbr P first T fr (k + 1) = R) := by show _ = _; rw [HS.out, if_neg (fun h => by cases h.2.1), List.append_nil]
            go_wp2_with fail
            refine HM.mono ?_
            rintro e w' ⟨rfl, rfl⟩
            clear HM
            go_wp2_with fail
            go_roundg (gk - 1)
            case measure => have := HK.out; omega
            case rel => exact ⟨k + 1, by have := HK.out; omega, by go_num, by rw [HS2.out]; exact hrow, Ck⟩
          have hq0 : 0 ≤ q / 4096 := by omega
          by_cases hqp : q / 4096 < P
          case neg =>
            have HS2 : Hid (rsL n f ptbr P first T fr (k + 1) = R) := by show _ = _; rw [HS.out, if_neg (fun h => hqp h.2.2), List.append_nil]
            have hge : pages ≤ q / 4096 := by omega
            go_wp2_with fail
            refine HM.mono ?_
            rintro e w' ⟨rfl, rfl⟩
            clear HM
            go_wp2_with fail
            go_roundg (gk - 1)
            case measure => have := HK.out; omega
            case rel => exact ⟨k + 1, by have := HK.out; omega, by go_num, by rw [HS2.out]; exact hrow, Ck⟩
          have hlt2 : q / 4096 < pages := by omega
          have HIN := in_any T (q / 4096) wr lTk
          have e30 := bit14 q
          have e4 := andnot4 q
          have HB : Hid (shEnt T first (v, q) = ⟨v, wrap64 (first + q / 4096), if T.contains (q / 4096) = true then q / 2 % 16 * 2 - q / 4 % 2 * 4 else q / 2 % 16 * 2⟩) := rfl
          have hlenR : R.length ≤ 4096 := by omega
          obtain ⟨tb, htb⟩ : ∃ tb, T.contains (q / 4096) = tb := ⟨_, rfl⟩
          rw [htb] at HIN HB
          clear htb
          obtain ⟨ff, hff⟩ : ∃ ff, wrap64 (first + q / 4096) = ff := ⟨_, rfl⟩
          cases tb
          case false =>
            have HS2 : Hid (rsL n f ptbr P first T fr (k + 1) = R ++ [⟨v, ff, q / 2 % 16 * 2⟩]) := by
              show _ = _
              rw [HS.out, if_pos ⟨⟨by omega, by omega⟩, rfl, hqp⟩, HB.out, hff]
              rfl
            obtain ⟨bt, hbt⟩ : ∃ bt, q / 2 % 16 * 2 = bt := ⟨_, rfl⟩
            rw [hbt] at HS2 e30
            clear hbt
            have hN := ((Box.new wr 35 #[.int .i64 v, .int .i64 ff, .int .i64 bt]).src 1 1 3 [.int .i64 v, .int .i64 ff, .int .i64 bt] rfl rfl).get _ rfl
            have hsz := Ck.size
            go_wp2_with (first
              | (go_at_call 16; refine HM.mono ?_; rintro e w' ⟨rfl, rfl⟩)
              | (go_at_call 36; refine HIN.mono ?_; rintro e w' ⟨rfl, rfl⟩)
              | (at_builtin; go_loud (refine wpList_append_own _ rfl _ _ 31 rfl w1.heap.size 35 i0 _ 3 24 Try.underlying31 hi hz0 hz1 hz2 rfl (by decide) _ _ _ rfl (own_alloc hrow _) ⟨wr.heap.size, 0, none⟩ 1 1 [.int .i64 v, .int .i64 ff, .int .i64 bt] rfl rfl hN (by intro u hu; simp at hu; rcases hu with rfl | rfl | rfl <;> rfl) (by unfold maxLen; omega) (by omega) (by simp; omega) ?_); go_loud (intro v' w1' hown' hgrow _)))
            go_roundg (gk - 1)
            case measure => have := HK.out; omega
            case rel =>
              refine ⟨k + 1, by have := HK.out; omega, by go_num, ?_, ?_⟩
              · rw [HS2.out, List.length_append, List.flatMap_append]
                exact hown'
              · exact (Ck.alloc _).grown hgrow (fun j hj hlt2 => by
                  have := hrow.lt j hj
                  omega)
          case true =>
            have HS2 : Hid (rsL n f ptbr P first T fr (k + 1) = R ++ [⟨v, ff, (q / 2 % 16 * 2 - q / 4 % 2 * 4)⟩]) := by
              show _ = _
              rw [HS.out, if_pos ⟨⟨by omega, by omega⟩, rfl, hqp⟩, HB.out, hff]
              rfl
            obtain ⟨bt, hbt⟩ : ∃ bt, (q / 2 % 16 * 2 - q / 4 % 2 * 4) = bt := ⟨_, rfl⟩
            rw [hbt] at HS2 e4
            clear hbt
            have hN := ((Box.new wr 35 #[.int .i64 v, .int .i64 ff, .int .i64 bt]).src 1 1 3 [.int .i64 v, .int .i64 ff, .int .i64 bt] rfl rfl).get _ rfl
            have hsz := Ck.size
            go_wp2_with (first
              | (go_at_call 16; refine HM.mono ?_; rintro e w' ⟨rfl, rfl⟩)
              | (go_at_call 36; refine HIN.mono ?_; rintro e w' ⟨rfl, rfl⟩)
              | (at_builtin; go_loud (refine wpList_append_own _ rfl _ _ 31 rfl w1.heap.size 35 i0 _ 3 24 Try.underlying31 hi hz0 hz1 hz2 rfl (by decide) _ _ _ rfl (own_alloc hrow _) ⟨wr.heap.size, 0, none⟩ 1 1 [.int .i64 v, .int .i64 ff, .int .i64 bt] rfl rfl hN (by intro u hu; simp at hu; rcases hu with rfl | rfl | rfl <;> rfl) (by unfold maxLen; omega) (by omega) (by simp; omega) ?_); go_loud (intro v' w1' hown' hgrow _)))
            go_roundg (gk - 1)
            case measure => have := HK.out; omega
            case rel =>
              refine ⟨k + 1, by have := HK.out; omega, by go_num, ?_, ?_⟩
              · rw [HS2.out, List.length_append, List.flatMap_append]
                exact hown'
              · exact (Ck.alloc _).grown hgrow (fun j hj hlt2 => by
                  have := hrow.lt j hj
                  omega)
        · have e0 : (bits .and .i64 ptbr 2147483648 != 0) = false := by rw [bit31, bne_eq_false_iff_eq]; omega
          have hmv : mvE n f ptbr v = (v * 4096 + 31, true) := by unfold mvE; rw [if_neg (by rw [show onB ptbr = false from decide_eq_false hon]; decide)]
          rw [hmv] at HS hpos
          dsimp only at HS hpos
          obtain ⟨q, hq⟩ : ∃ q, v * 4096 + 31 = q := ⟨_, rfl⟩
          rw [hq] at HS hpos e31
          clear hmv hon hq
          have hq0 : 0 ≤ q / 4096 := by omega
          by_cases hqp : q / 4096 < P
          case neg =>
            have HS2 : Hid (rsL n f ptbr P first T fr (k + 1) = R) := by show _ = _; rw [HS.out, if_neg (fun h => hqp h.2.2), List.append_nil]
            have hge : pages ≤ q / 4096 := by omega
            go_wp2_with fail
            go_roundg (gk - 1)
            case measure => have := HK.out; omega
            case rel => exact ⟨k + 1, by have := HK.out; omega, by go_num, by rw [HS2.out]; exact hrow, Ck⟩
          have hlt2 : q / 4096 < pages := by omega
          have HIN := in_any T (q / 4096) wr lTk
          have e30 := bit14 q
          have e4 := andnot4 q
          have HB : Hid (shEnt T first (v, q) = ⟨v, wrap64 (first + q / 4096), if T.contains (q / 4096) = true then q / 2 % 16 * 2 - q / 4 % 2 * 4 else q / 2 % 16 * 2⟩) := rfl
          have hlenR : R.length ≤ 4096 := by omega
          obtain ⟨tb, htb⟩ : ∃ tb, T.contains (q / 4096) = tb := ⟨_, rfl⟩
          rw [htb] at HIN HB
          clear htb
          obtain ⟨ff, hff⟩ : ∃ ff, wrap64 (first + q / 4096) = ff := ⟨_, rfl⟩
          cases tb
          case false =>
            have HS2 : Hid (rsL n f ptbr P first T fr (k + 1) = R ++ [⟨v, ff, q / 2 % 16 * 2⟩]) := by
              show _ = _
              rw [HS.out, if_pos ⟨⟨by omega, by omega⟩, rfl, hqp⟩, HB.out, hff]
              rfl
            obtain ⟨bt, hbt⟩ : ∃ bt, q / 2 % 16 * 2 = bt := ⟨_, rfl⟩
            rw [hbt] at HS2 e30
            clear hbt
            have hN := ((Box.new wr 35 #[.int .i64 v, .int .i64 ff, .int .i64 bt]).src 1 1 3 [.int .i64 v, .int .i64 ff, .int .i64 bt] rfl rfl).get _ rfl
            have hsz := Ck.size
            go_wp2_with (first
              | fail
              | (go_at_call 36; refine HIN.mono ?_; rintro e w' ⟨rfl, rfl⟩)
              | (at_builtin; go_loud (refine wpList_append_own _ rfl _ _ 31 rfl w1.heap.size 35 i0 _ 3 24 Try.underlying31 hi hz0 hz1 hz2 rfl (by decide) _ _ _ rfl (own_alloc hrow _) ⟨wr.heap.size, 0, none⟩ 1 1 [.int .i64 v, .int .i64 ff, .int .i64 bt] rfl rfl hN (by intro u hu; simp at hu; rcases hu with rfl | rfl | rfl <;> rfl) (by unfold maxLen; omega) (by omega) (by simp; omega) ?_); go_loud (intro v' w1' hown' hgrow _)))
            go_roundg (gk - 1)
            case measure => have := HK.out; omega
            case rel =>
              refine ⟨k + 1, by have := HK.out; omega, by go_num, ?_, ?_⟩
              · rw [HS2.out, List.length_append, List.flatMap_append]
                exact hown'
              · exact (Ck.alloc _).grown hgrow (fun j hj hlt2 => by
                  have := hrow.lt j hj
                  omega)
          case true =>
            have HS2 : Hid (rsL n f ptbr P first T fr (k + 1) = R ++ [⟨v, ff, (q / 2 % 16 * 2 - q / 4 % 2 * 4)⟩]) := by
              show _ = _
              rw [HS.out, if_pos ⟨⟨by omega, by omega⟩, rfl, hqp⟩, HB.out, hff]
              rfl
            obtain ⟨bt, hbt⟩ : ∃ bt, (q / 2 % 16 * 2 - q / 4 % 2 * 4) = bt := ⟨_, rfl⟩
            rw [hbt] at HS2 e4
            clear hbt
            have hN := ((Box.new wr 35 #[.int .i64 v, .int .i64 ff, .int .i64 bt]).src 1 1 3 [.int .i64 v, .int .i64 ff, .int .i64 bt] rfl rfl).get _ rfl
            have hsz := Ck.size
            go_wp2_with (first
              | fail
              | (go_at_call 36; refine HIN.mono ?_; rintro e w' ⟨rfl, rfl⟩)
              | (at_builtin; go_loud (refine wpList_append_own _ rfl _ _ 31 rfl w1.heap.size 35 i0 _ 3 24 Try.underlying31 hi hz0 hz1 hz2 rfl (by decide) _ _ _ rfl (own_alloc hrow _) ⟨wr.heap.size, 0, none⟩ 1 1 [.int .i64 v, .int .i64 ff, .int .i64 bt] rfl rfl hN (by intro u hu; simp at hu; rcases hu with rfl | rfl | rfl <;> rfl) (by unfold maxLen; omega) (by omega) (by simp; omega) ?_); go_loud (intro v' w1' hown' hgrow _)))
            go_roundg (gk - 1)
            case measure => have := HK.out; omega
            case rel =>
              refine ⟨k + 1, by have := HK.out; omega, by go_num, ?_, ?_⟩
              · rw [HS2.out, List.length_append, List.flatMap_append]
                exact hown'
              · exact (Ck.alloc _).grown hgrow (fun j hj hlt2 => by
                  have := hrow.lt j hj
                  omega)
      · obtain rfl : k = N := by omega
        clear hk
        have hkc : ¬ ((k : Int) < cnt) := by omega
        go_wp2_with fail
        go_ret
        exact ⟨_, rfl, own_base (by rw [← HEND.out]; exact hrow) C1.size, Cwk⟩
end Go.Proofs.Ytadcmelbcahecaa

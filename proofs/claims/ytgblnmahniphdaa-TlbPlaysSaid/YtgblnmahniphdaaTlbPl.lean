/- TlbPlays: the walk. -/
import Derived.Test.YtgblnmahniphdaaTlbP
import Derived.Test.YtgblnmahniphdaaSeq
namespace Go.Proofs.Ytgblnmahniphdaa
open Go.RowKit

set_option maxRecDepth 100000 in
set_option maxHeartbeats 8000000 in
theorem plays_in {l : List ActD} {ao : Option Addr} {cap : Nat} (n0 : Int) (w : World) (hL : Lst w ao l.length cap (l.flatMap aCells) 4) (hok : ∀ a ∈ l, aOk a) (hl : l.length ≤ 600) :
    Calls Try.prog 5 #[.int .i64 n0, .slice ao l.length cap] w fun e w' => e = .returned (.bool true) ∧ Below w.heap.size w w' := by
  have q0 : decide ((600 : Int) < (l.length : Int)) = false := decide_eq_false (by omega)
  obtain ⟨i0, hi0, hz0, hz1, hz2⟩ := info_parts info_act
  go_enter Try.func5, Try.ntmps5
  go_wp2_with fail
  refine (alive6 _).mono ?_
  rintro e w1 ⟨rfl, C1⟩
  go_wp2_with fail
  refine (PS.make C1 n0).mono ?_
  rintro e w2 ⟨t, m, rfl, HM⟩
  clear q0
  go_wp2_with fail
  refine HM.mono ?_
  rintro e w3 ⟨u, z, rfl, P3⟩
  clear HM
  go_upto_if 36 with fail
  go_cut [8] (fun s wx => s = .int .i64 (max 1 n0) ∧ wx = w3)
  case first =>
    go_wp2_with fail
    all_goals
      go_meet
      exact ⟨int_eq (by omega), rfl⟩
  case rest =>
    obtain ⟨rfl, rfl⟩ := hcut
    obtain ⟨n1, hn1⟩ : ∃ n1, max 1 n0 = n1 := ⟨_, rfl⟩
    rw [hn1] at P3 ⊢
    have hn2 : 1 ≤ n1 := by omega
    clear hn1
    go_upto_if 38 with fail
    go_cut [8] (fun s wx => s = .int .i64 (min n1 256) ∧ wx = wc)
    case first =>
      go_wp2_with fail
      all_goals
        go_meet
        exact ⟨int_eq (by omega), rfl⟩
    case rest =>
      obtain ⟨rfl, hwc⟩ := hcut
      obtain ⟨nn, hnn⟩ : ∃ nn, min n1 256 = nn := ⟨_, rfl⟩
      rw [hnn] at P3 ⊢
      have hnn1 : 1 ≤ nn := by omega
      have hnn2 : nn ≤ 256 := by omega
      rw [← hwc] at P3
      clear hnn hwc hn2
      go_wp2_with fail
      go_loopw [9, 10] (fun s i wr => ∃ (j : Nat) (ra : List ActD), j ≤ l.length ∧ i = .int .i64 j ∧ PS w nn t m u z (ra.map toR) ra s wr) (fun _ i _ => l.length - (intOf i).toNat)
      case atStart => exact ⟨0, [], by omega, rfl, P3⟩
      case round =>
        obtain ⟨j, ra, hj, rfl, Pj⟩ := hrel
        have hra := Pj.keys.2.1
        rw [List.length_map] at hra
        have hral : ra.length ≤ 256 := by omega
        obtain ⟨ar, cr, rfl, ho1, ho2, ho3, ho4⟩ := own_form Pj.own
        by_cases hlt : j < l.length
        · obtain ⟨ab, aof, rfl⟩ := hL.pos (by omega)
          have hLj := hL.chg Pj.chg0 (fun _ _ h => h)
          have c0 := Lst.cell0 (n := 4) (fun _ => rfl) hLj j (by decide) hlt rfl
          have c1 := Lst.cell (n := 4) (fun _ => rfl) hLj j 1 (by decide) hlt rfl
          have c2 := Lst.cell (n := 4) (fun _ => rfl) hLj j 2 (by decide) hlt rfl
          have c3 := Lst.cell (n := 4) (fun _ => rfl) hLj j 3 (by decide) hlt rfl
          have hak := hok _ (List.getElem_mem hlt)
          obtain ⟨a, ha⟩ : ∃ a, l[j] = a := ⟨_, rfl⟩
          rw [ha] at c0 c1 c2 c3 hak
          obtain ⟨aw, at1, av, ae⟩ := a
          have HAK := Lib.hid hak
          have BA := Box.new wr 34 #[.int .i64 aw, .int .i64 at1, .int .i64 av, .int .i64 ae]
          have PA := Pj.keep ((Chg.refl wr (fun _ => False)).alloc (.cells #[.int .i64 aw, .int .i64 at1, .int .i64 av, .int .i64 ae] 34))
          have hj0 : (0 : Int) ≤ (j : Int) := by omega
          have hj1 : (j : Int) < (l.length : Int) := by omega
          have y1 := BA.cell 1
          have y2 := BA.cell 2
          clear hLj hak ha
          go_wp2_with fail
          refine (PA.putO at1 av (-1) HAK.out.2.1 HAK.out.2.2.1).mono ?_
          rintro e w4 ⟨rfl, P4, K4⟩
          have B4 := K4 _ _ BA
          obtain ⟨ag, hag⟩ : ∃ ag, wr.heap.size = ag := ⟨_, rfl⟩
          rw [hag] at B4 ⊢
          clear y1 y2 c0 c1 c2 c3 PA K4 BA hag
          go_upto_block 2 with fail
          go_cut [12] (fun s wx => ∃ k : Nat, k ≤ ra.length ∧ s = .int .i64 k ∧ (∀ (q : Nat) (hq : q < ra.length), q < k → (toR ra[q]).1 ≠ (at1, av)) ∧ (∀ hq : k < ra.length, (toR ra[k]).1 = (at1, av)) ∧ PS w nn t m u z (ra.map toR) ra (.slice ar ra.length cr) wx ∧ Box wx ag 34 #[.int .i64 aw, .int .i64 at1, .int .i64 av, .int .i64 ae])
          case first =>
            as_aux_lemma =>
              go_wp2_with fail
              go_loopw [12] (fun s wx => ∃ k : Nat, k ≤ ra.length ∧ s = .int .i64 k ∧ (∀ (q : Nat) (hq : q < ra.length), q < k → (toR ra[q]).1 ≠ (at1, av)) ∧ PS w nn t m u z (ra.map toR) ra (.slice ar ra.length cr) wx ∧ Box wx ag 34 #[.int .i64 aw, .int .i64 at1, .int .i64 av, .int .i64 ae]) (fun s _ => ra.length - (intOf s).toNat)
              case atStart => exact ⟨0, by omega, rfl, fun q hq h => absurd h (by omega), P4, B4⟩
              case round =>
                obtain ⟨k, hk, rfl, hno, Pk, Bk⟩ := hrel
                have HNO := Lib.hid hno
                have y1 := Bk.cell 1
                have y2 := Bk.cell 2
                clear hno
                by_cases hlk : k < ra.length
                · obtain ⟨g, cap2, hv, _, _, _, _⟩ := own_block Pk.own (by omega)
                  injection hv with e1 e2 e3
                  subst e1 e3
                  have d1 : wr.cell? ⟨g, k * 4 + 1, none⟩ = some (.int .i64 ra[k].tag) := own_cells Pk.own _ _ (by rw [flat_get aCells 4 (fun _ => rfl) ra k 1 (by decide) hlk]; rfl)
                  have d2 : wr.cell? ⟨g, k * 4 + 2, none⟩ = some (.int .i64 ra[k].vpn) := own_cells Pk.own _ _ (by rw [flat_get aCells 4 (fun _ => rfl) ra k 2 (by decide) hlk]; rfl)
                  have HTK : Hid (ra[k].tag = at1 → ra[k].vpn = av → (toR ra[k]).1 = (at1, av)) := fun a b => by unfold toR; rw [a, b]
                  have HTN : Hid (¬ (ra[k].tag = at1 ∧ ra[k].vpn = av) → (toR ra[k]).1 ≠ (at1, av)) := fun a b => a ⟨congrArg Prod.fst b, congrArg Prod.snd b⟩
                  obtain ⟨x1, hx1⟩ : ∃ x1, ra[k].tag = x1 := ⟨_, rfl⟩
                  obtain ⟨x2, hx2⟩ : ∃ x2, ra[k].vpn = x2 := ⟨_, rfl⟩
                  rw [hx1] at d1 HTK HTN
                  rw [hx2] at d2 HTK HTN
                  have hk0 : (0 : Int) ≤ (k : Int) := by omega
                  have hk1 : (k : Int) < (ra.length : Int) := by omega
                  clear hx1 hx2
                  by_cases t1 : x1 = at1
                  · have qa : (x1 != at1) = false := by rw [bne_eq_false_iff_eq]; exact t1
                    by_cases t2 : x2 = av
                    · have qb : (x2 != av) = false := by rw [bne_eq_false_iff_eq]; exact t2
                      have HE := Lib.hid (HTK.out t1 t2)
                      clear t1 t2
                      go_wp2_with fail
                      go_quiet (fail)
                      go_wp2_with fail
                      go_meet
                      exact ⟨k, hk, rfl, HNO.out, fun _ => HE.out, Pk.keep ((Chg.refl _ _).drewN _), Bk.drewN _⟩
                    · have qb : (x2 != av) = true := bne_iff_ne.2 t2
                      have HE := Lib.hid (HTN.out (fun h => t2 h.2))
                      clear t1 t2
                      go_wp2_with fail
                      go_quiet (fail)
                      go_wp2_with fail
                      go_roundw
                      case rel =>
                        refine ⟨k + 1, by omega, by go_num, fun q hq h => ?_, Pk.keep ((Chg.refl _ _).drewN _), Bk.drewN _⟩
                        by_cases e : q = k
                        · subst e; exact HE.out
                        · exact HNO.out q hq (by omega)
                      case measure => simp [intOf]; omega
                  · have qa : (x1 != at1) = true := bne_iff_ne.2 t1
                    have HE := Lib.hid (HTN.out (fun h => t1 h.1))
                    clear t1
                    go_wp2_with fail
                    go_quiet (fail)
                    go_wp2_with fail
                    go_roundw
                    case rel =>
                      refine ⟨k + 1, by omega, by go_num, fun q hq h => ?_, Pk.keep ((Chg.refl _ _).drewN _), Bk.drewN _⟩
                      by_cases e : q = k
                      · subst e; exact HE.out
                      · exact HNO.out q hq (by omega)
                    case measure => simp [intOf]; omega
                · have h5 : k = ra.length := by omega
                  subst h5
                  go_wp2_with fail
                  go_quiet (fail)
                  go_wp2_with fail
                  go_meet
                  exact ⟨_, hk, rfl, HNO.out, fun h => absurd h (Nat.lt_irrefl _), Pk.keep ((Chg.refl _ _).drewN _), Bk.drewN _⟩
          case rest =>
            obtain ⟨k, hk, rfl, hno, heq, P5, B5⟩ := hcut
            have HLOOK := Lib.hid (toR_look (a := ⟨aw, at1, av, ae⟩) hk hno)
            have HEQ := Lib.hid heq
            have Pnd := Lib.hid P5.keys.1
            clear hno heq P4 B4 Pj
            have y0 := B5.cell 0
            have y1 := B5.cell 1
            have y2 := B5.cell 2
            have y3 := B5.cell 3
            go_upto_block 4 with fail
            go_cut [9] (fun s wx => ∃ ra' : List ActD, PS w nn t m u z (ra'.map toR) ra' s wx)
            case first =>
              by_cases w0 : aw = 0
              · as_aux_lemma =>
                  have g0 : (aw == 0) = true := beq_iff_eq.2 w0
                  clear w0
                  go_wp2_with fail
                  refine (P5.putT at1 av ae HAK.out.2.1 HAK.out.2.2.1).mono ?_
                  rintro e w6 ⟨rfl, P6, K6⟩
                  have B6 := K6 _ _ B5
                  clear y0 y1 y2 y3
                  have y0 := B6.cell 0
                  have y1 := B6.cell 1
                  have y2 := B6.cell 2
                  have y3 := B6.cell 3
                  by_cases hlk : k < ra.length
                  · obtain ⟨g, cap2, hv, hg1, hg2, _, _⟩ := own_block P6.own (by omega)
                    injection hv with e1 e2 e3
                    subst e1 e3
                    have d3 : w6.cell? ⟨g, k * 4 + 3, none⟩ = some (.int .i64 ra[k].entry) := own_cells P6.own _ _ (by rw [flat_get aCells 4 (fun _ => rfl) ra k 3 (by decide) hlk]; rfl)
                    have f3 := own_frozen P6.own (k * 4 + 3)
                    have hk0 : (0 : Int) ≤ (k : Int) := by omega
                    have hk1 : (k : Int) < (ra.length : Int) := by omega
                    have hset := toR_set (a := ⟨aw, at1, av, ae⟩) hlk Pnd.out (HEQ.out hlk)
                    have hlook := HLOOK.out.1 hlk (HEQ.out hlk)
                    have HPUT : Hid (putR nn (ra.map toR) (at1, av) ae = (ra.set k { ra[k] with entry := ae }).map toR) := by
                      show _ = _
                      rw [hset]
                      unfold putR
                      have : look (ra.map toR) (at1, av) = some ra[k].entry := hlook
                      rw [this]
                      rfl
                    have P7 := P6.rowTo (ra' := ra.set k { ra[k] with entry := ae }) (vr' := .slice (some ⟨g, 0, none⟩) ra.length cr) ((Chg.refl w6 (fun j => (Value.slice (some ⟨g, 0, none⟩) ra.length cr).ownBlock = some j)).setCell (p := ⟨g, k * 4 + 3, none⟩) (fun _ => rfl) (.int .i64 ae)) (by rw [List.length_set, flat_set ra k hlk]; exact own_setS P6.own _ _)
                    clear hset hlook
                    go_wp2_with fail
                    go_meet
                    exact ⟨_, by rw [← HPUT.out]; exact P7⟩
                  · have hkl : k = ra.length := by omega
                    subst hkl
                    have hlook := HLOOK.out.2 rfl
                    have hput : putR nn (ra.map toR) (at1, av) ae = (if (ra.length : Int) = nn then (ra.map toR).eraseIdx 0 else ra.map toR) ++ [((at1, av), ae)] := by
                      unfold putR
                      have : look (ra.map toR) (at1, av) = none := hlook
                      rw [this, if_neg (by decide), List.length_map]
                    have HPUT := Lib.hid hput
                    have SB : Src (w6.alloc (.cells #[.int .i64 aw, .int .i64 at1, .int .i64 av, .int .i64 ae] 34)) (some ⟨w6.heap.size, 0, none⟩) 1 1 [.int .i64 aw, .int .i64 at1, .int .i64 av, .int .i64 ae] 4 := (Box.new w6 34 #[.int .i64 aw, .int .i64 at1, .int .i64 av, .int .i64 ae]).src 1 1 4 _ rfl rfl
                    have OB := own_alloc P6.own (.cells #[.int .i64 aw, .int .i64 at1, .int .i64 av, .int .i64 ae] 34)
                    have hsz := P6.chg0.size
                    clear hput hlook
                    have HFA := Lib.hid (fun (w7 : World) (g1 cap1 : Nat) (hown7 : w7.ownsRow w.heap.size 34 4 (.slice (some ⟨g1, 0, none⟩) (ra.length + 1) cap1) (ra.length + 1) (ra.flatMap aCells ++ [.int .i64 aw, .int .i64 at1, .int .i64 av, .int .i64 ae])) (hgr7 : World.grownBy (w6.alloc (.cells #[.int .i64 aw, .int .i64 at1, .int .i64 av, .int .i64 ae] 34)) w7 (Value.slice ar ra.length cr).ownBlock) =>
                      P6.rowTo (ra' := ra ++ [(⟨aw, at1, av, ae⟩ : ActD)]) (vr' := .slice (some ⟨g1, 0, none⟩) (ra.length + 1) cap1) (((Chg.refl w6 _).alloc _).grown hgr7 (fun j hj _ => hj)) (by rw [List.flatMap_append, List.length_append]; exact hown7))
                    by_cases hfull : (ra.length : Int) = nn
                    · have gf : decide (nn < (ra.length : Int) + 1) = true := decide_eq_true (by omega)
                      have HPE : Hid (putR nn (ra.map toR) (at1, av) ae = ((ra ++ [(⟨aw, at1, av, ae⟩ : ActD)]).drop 1).map toR) := by
                        show _ = _
                        rw [HPUT.out, if_pos hfull]
                        obtain ⟨x, r2, hx⟩ : ∃ x r2, ra = x :: r2 := by
                          cases ra with
                          | nil => simp at hfull; omega
                          | cons x r2 => exact ⟨x, r2, rfl⟩
                        rw [hx]
                        simp [toR]
                      have hl9 : ((ra ++ [(⟨aw, at1, av, ae⟩ : ActD)]).drop 1).length = ra.length := by simp
                      have HL9 := Lib.hid hl9
                      have hr0 : 0 < ra.length := by omega
                      clear hfull hl9
                      go_wp2_with first
                        | (at_builtin; go_loud (refine wpList_append_src _ rfl (.tmp 130) (.tmp 132) _ rfl w.heap.size 34 i0 _ 4 32 Try.underlying32 hi0 hz0 hz1 hz2 rfl (by omega) _ ra.length _ rfl OB _ 1 1 _ rfl SB (by intro x hx; simp at hx; rcases hx with rfl | rfl | rfl | rfl <;> rfl) (by unfold maxLen; omega) (by omega) (by first | omega | (simp; done) | (simp; omega)) ?_); go_loud (intro v1 w7 hown7 hgr7); go_loud (obtain ⟨g1, cap1, rfl, hg1, hg2, hc1, hc2⟩ := own_block hown7 (by omega)); go_loud (have P7 := HFA.out w7 g1 cap1 hown7 hgr7); go_loud (have SD' := drop_one P7.own (by simp)); go_loud (have hcap : ¬ cap1 = 1 := by omega); go_loud (have ON := World.ownsRow_nil w7 w7.heap.size 34 4; clear hown7 hgr7))
                        | (at_builtin; go_loud (refine wpList_append_src _ rfl (.const (.slice none 0 0)) (.tmp 139) _ rfl w7.heap.size 34 i0 _ 4 32 Try.underlying32 hi0 hz0 hz1 hz2 rfl (by omega) _ 0 _ rfl ON _ ra.length (cap1 - 1) _ rfl SD' (a_one _) (by unfold maxLen; omega) (by omega) (by omega) ?_; intro v2 w8 hown8 hgr8))
                      go_meet
                      refine ⟨_, by rw [← HPE.out]; exact P7.rowTo (ra' := (ra ++ [(⟨aw, at1, av, ae⟩ : ActD)]).drop 1) (vr' := v2) (Chg.of_grown hgr8 (fun j hj _ => by cases hj)) (by rw [HL9.out]; rw [Nat.zero_add, List.nil_append] at hown8; exact own_base hown8 (by have := P7.chg0.size; omega))⟩
                    · have gf : decide (nn < (ra.length : Int) + 1) = false := decide_eq_false (by omega)
                      have HPE : Hid (putR nn (ra.map toR) (at1, av) ae = (ra ++ [(⟨aw, at1, av, ae⟩ : ActD)]).map toR) := by
                        show _ = _
                        rw [HPUT.out, if_neg hfull, List.map_append]
                        rfl
                      clear hfull
                      go_wp2_with (at_builtin; go_loud (refine wpList_append_src _ rfl (.tmp 130) (.tmp 132) _ rfl w.heap.size 34 i0 _ 4 32 Try.underlying32 hi0 hz0 hz1 hz2 rfl (by omega) _ ra.length _ rfl OB _ 1 1 _ rfl SB (by intro x hx; simp at hx; rcases hx with rfl | rfl | rfl | rfl <;> rfl) (by unfold maxLen; omega) (by omega) (by first | omega | (simp; done) | (simp; omega)) ?_; intro v1 w7 hown7 hgr7; obtain ⟨g1, cap1, rfl, hg1, hg2, hc1, hc2⟩ := own_block hown7 (by omega); have P7 := HFA.out w7 g1 cap1 hown7 hgr7; clear hown7 hgr7))
                      go_meet
                      exact ⟨_, by rw [← HPE.out]; exact P7⟩
              have g0 : (aw == 0) = false := beq_eq_false_iff_ne.2 w0
              by_cases w1' : aw = 1
              · as_aux_lemma =>
                  have g1 : (aw == 1) = true := beq_iff_eq.2 w1'
                  clear w0 w1'
                  go_wp2_with fail
                  refine (P5.lookT at1 av HAK.out.2.1 HAK.out.2.2.1).mono ?_
                  rintro e w6 ⟨rfl, rfl⟩
                  by_cases hlk : k < ra.length
                  · obtain ⟨g, cap2, hv, hg1, hg2, _, _⟩ := own_block P5.own (by omega)
                    injection hv with e1 e2 e3
                    subst e1 e3
                    have d3 : wc.cell? ⟨g, k * 4 + 3, none⟩ = some (.int .i64 ra[k].entry) := own_cells P5.own _ _ (by rw [flat_get aCells 4 (fun _ => rfl) ra k 3 (by decide) hlk]; rfl)
                    have hk0 : (0 : Int) ≤ (k : Int) := by omega
                    have hk1 : (k : Int) < (ra.length : Int) := by omega
                    have hlook : look (ra.map toR) (at1, av) = some ra[k].entry := HLOOK.out.1 hlk (HEQ.out hlk)
                    rw [hlook]
                    clear hlook
                    go_wp2_with fail
                    go_meet
                    exact ⟨ra, P5⟩
                  · have hkl : k = ra.length := by omega
                    subst hkl
                    have hlook : look (ra.map toR) (at1, av) = none := HLOOK.out.2 rfl
                    rw [hlook]
                    clear hlook
                    go_wp2_with fail
                    go_meet
                    exact ⟨ra, P5⟩
              have g1 : (aw == 1) = false := beq_eq_false_iff_ne.2 w1'
              by_cases w2' : aw = 2
              · as_aux_lemma =>
                  have g2 : (aw == 2) = true := beq_iff_eq.2 w2'
                  clear w0 w1' w2'
                  go_wp2_with fail
                  refine (P5.flush at1).mono ?_
                  rintro e w6 ⟨rfl, P6, K6⟩
                  have B6 := K6 _ _ B5
                  have hsz6 := P6.chg0.size
                  clear y0 y1 y2 y3 B5 P5
                  go_wp2_with fail
                  go_loopw [15, 16] (fun s i wx => ∃ q : Nat, q ≤ ra.length ∧ i = .int .i64 q ∧ Chg w6 wx (fun _ => False) ∧ wx.ownsRow w6.heap.size 34 4 s ((ra.take q).filter (fun a => !(a.tag == at1))).length (((ra.take q).filter (fun a => !(a.tag == at1))).flatMap aCells)) (fun _ i _ => ra.length - (intOf i).toNat)
                  case atStart => exact ⟨0, by omega, rfl, Chg.refl _ _, World.ownsRow_nil _ _ _ _⟩
                  case round =>
                    obtain ⟨q, hq, rfl, Cq, Oq⟩ := hrel
                    have hfl := List.length_filter_le (fun a : ActD => !(a.tag == at1)) (ra.take q)
                    rw [List.length_take] at hfl
                    by_cases hlq : q < ra.length
                    · have Pq := P6.keep Cq
                      obtain ⟨g, cap2, hv, hg1, hg2, _, _⟩ := own_block Pq.own (by omega)
                      injection hv with e1 e2 e3
                      subst e1 e3
                      have hcq : ∀ (x : Nat) (v : Value), x < 4 → (aCells ra[q])[x]? = some v → wr.cell? ⟨g, q * 4 + x, none⟩ = some v := fun x v hx hv => own_cells Pq.own _ _ (by rw [flat_get aCells 4 (fun _ => rfl) ra q x hx hlq]; exact hv)
                      have d0 : wr.cell? ⟨g, q * 4, none⟩ = some (.int .i64 ra[q].way) := hcq 0 _ (by decide) rfl
                      have d1 : wr.cell? ⟨g, q * 4 + 1, none⟩ = some (.int .i64 ra[q].tag) := hcq 1 _ (by decide) rfl
                      have d2 : wr.cell? ⟨g, q * 4 + 2, none⟩ = some (.int .i64 ra[q].vpn) := hcq 2 _ (by decide) rfl
                      have d3 : wr.cell? ⟨g, q * 4 + 3, none⟩ = some (.int .i64 ra[q].entry) := hcq 3 _ (by decide) rfl
                      have y1 := (B6.chg Cq (fun h => h)).cell 1
                      have HTK : Hid ((ra.take (q + 1)).filter (fun a => !(a.tag == at1)) = (ra.take q).filter (fun a => !(a.tag == at1)) ++ (if ra[q].tag = at1 then [] else [ra[q]])) := by
                        show _ = _
                        rw [List.take_succ_eq_append_getElem hlq, List.filter_append]
                        congr 1
                        by_cases e : ra[q].tag = at1 <;> simp [e]
                      obtain ⟨x, hx⟩ : ∃ x, ra[q] = x := ⟨_, rfl⟩
                      rw [hx] at d0 d1 d2 d3 HTK
                      obtain ⟨x0, x1, x2, x3⟩ := x
                      obtain ⟨fl, hfle⟩ : ∃ fl, (ra.take q).filter (fun a => !(a.tag == at1)) = fl := ⟨_, rfl⟩
                      rw [hfle] at Oq HTK hfl
                      obtain ⟨asl, csl, rfl, hs1, hs2, hs3, hs4⟩ := own_form Oq
                      have hq0 : (0 : Int) ≤ (q : Int) := by omega
                      have hq1 : (q : Int) < (ra.length : Int) := by omega
                      clear hcq hx hfle
                      by_cases ht : x1 = at1
                      · have gt : (x1 != at1) = false := by rw [bne_eq_false_iff_eq]; exact ht
                        have HTE := Lib.hid (HTK.out.trans (by rw [if_pos (by exact ht), List.append_nil]))
                        clear ht
                        go_wp2_with fail
                        go_quiet (fail)
                        go_wp2_with fail
                        go_roundw
                        case rel => exact ⟨q + 1, by omega, by go_num, Cq.drewN _, by rw [HTE.out]; exact own_chg Oq ((Chg.refl wr (fun _ => False)).drewN _) (fun _ _ h => h)⟩
                        case measure => simp [intOf]; omega
                      · have gt : (x1 != at1) = true := bne_iff_ne.2 ht
                        have HTE := Lib.hid (HTK.out.trans (by rw [if_neg (by exact ht)]))
                        clear ht
                        go_wp2_with fail
                        go_quiet (fail)
                        have CN := (Chg.refl wr (fun _ => False)).drewN nq
                        have ON := own_alloc (own_chg Oq CN (fun _ _ h => h)) (.cells #[.int .i64 x0, .int .i64 x1, .int .i64 x2, .int .i64 x3] 34)
                        have SB : Src ((wr.drewN nq).alloc (.cells #[.int .i64 x0, .int .i64 x1, .int .i64 x2, .int .i64 x3] 34)) (some ⟨wr.heap.size, 0, none⟩) 1 1 [.int .i64 x0, .int .i64 x1, .int .i64 x2, .int .i64 x3] 4 := (Box.new (wr.drewN nq) 34 #[.int .i64 x0, .int .i64 x1, .int .i64 x2, .int .i64 x3]).src 1 1 4 _ rfl rfl
                        have hszq := Cq.size
                        go_wp2_with (at_builtin; go_loud (refine wpList_append_src _ rfl (.tmp 198) (.tmp 203) _ rfl w6.heap.size 34 i0 _ 4 32 Try.underlying32 hi0 hz0 hz1 hz2 rfl (by omega) _ fl.length _ rfl ON _ 1 1 _ rfl SB (by intro x hx; simp at hx; rcases hx with rfl | rfl | rfl | rfl <;> rfl) (by unfold maxLen; omega) (by omega) (by first | omega | (simp; done) | (simp; omega)) ?_; intro v1 w7 hown7 hgr7))
                        have C7 : Chg w6 w7 (fun _ => False) := ((Cq.trans CN).alloc _).grown hgr7 (fun j hj hlt => absurd (ON.lt j hj).1 (by omega))
                        go_roundw
                        case rel => exact ⟨q + 1, by omega, by go_num, C7, by rw [HTE.out, List.length_append, List.flatMap_append]; exact hown7⟩
                        case measure => simp [intOf]; omega
                    · have hql : q = ra.length := by omega
                      subst hql
                      rw [List.take_length] at Oq
                      have P7 := P6.rowTo (ra' := ra.filter (fun a => !(a.tag == at1))) (vr' := u15) (Cq.mono (fun _ _ h => h.elim)) (own_base Oq hsz6)
                      rw [← toR_filter] at P7
                      go_wp2_with fail
                      go_meet
                      exact ⟨_, P7⟩
              as_aux_lemma =>
                have g2 : (aw == 2) = false := beq_eq_false_iff_ne.2 w2'
                clear w0 w1' w2'
                go_wp2_with fail
                refine (P5.evict av).mono ?_
                rintro e w6 ⟨rfl, P6, K6⟩
                have B6 := K6 _ _ B5
                clear y0 y1 y2 y3
                have y2 := B6.cell 2
                by_cases hv0 : 0 ≤ av
                case neg =>
                  have gv : decide (0 ≤ av) = false := decide_eq_false hv0
                  have HEV : Hid (evR (ra.map toR) av = ra.map toR) := by show _ = _; unfold evR; rw [if_neg (by omega)]
                  clear hv0
                  go_wp2_with fail
                  go_meet
                  exact ⟨ra, by rw [HEV.out] at P6; exact P6⟩
                have gv : decide (0 ≤ av) = true := decide_eq_true hv0
                by_cases hv1 : av < ra.length
                case neg =>
                  have gv1 : decide (av < (ra.length : Int)) = false := decide_eq_false hv1
                  have HEV : Hid (evR (ra.map toR) av = ra.map toR) := by show _ = _; unfold evR; rw [if_neg (by rw [List.length_map]; omega)]
                  clear hv0 hv1
                  go_wp2_with fail
                  go_meet
                  exact ⟨ra, by rw [HEV.out] at P6; exact P6⟩
                have gv1 : decide (av < (ra.length : Int)) = true := decide_eq_true hv1
                obtain ⟨x, rfl⟩ := Int.eq_ofNat_of_zero_le hv0
                have hxl : x < ra.length := by omega
                have HEV : Hid (evR (ra.map toR) x = (ra.eraseIdx x).map toR) := by
                  show _ = _
                  rw [toR_erase]
                  unfold evR
                  rw [if_pos (by rw [List.length_map]; omega)]
                  rfl
                rw [HEV.out] at P6
                obtain ⟨g, cap2, hv, hg1, hg2, hgc, hgm⟩ := own_block P6.own (by omega)
                injection hv with e1 e2 e3
                subst e1 e3
                unfold maxLen at hgm
                have hin0 : (0 : Int) ≤ (x : Int) + 1 := by omega
                have hin1 : x + 1 ≤ ra.length := by omega
                have hin2 : (x : Int) + 1 ≤ (ra.length : Int) := by omega
                have hin3 : x ≤ cr := by omega
                have hsz6 := P6.chg0.size
                have hel : (ra.eraseIdx x).flatMap aCells = (ra.take x).flatMap aCells ++ (ra.drop (x + 1)).flatMap aCells := by rw [List.eraseIdx_eq_take_drop_succ, List.flatMap_append]
                have HEL := Lib.hid hel
                have hell : (ra.eraseIdx x).length = x + (ra.length - (x + 1)) := by rw [List.length_eraseIdx, if_pos hxl]; omega
                have HELL := Lib.hid hell
                have ON6 := World.ownsRow_nil w6 w6.heap.size 34 4
                clear hv0 hv1 hel hell
                by_cases hcj : cr = x + 1
                · have hxn : ra.length = x + 1 := by omega
                  subst hcj
                  have SD : Src w6 (some ⟨g, 0, none⟩) (0) (0) ((ra.drop (x + 1)).flatMap aCells) 4 := by
                    rw [← aflat_drop]
                    have := own_drop P6.own (x + 1) hin1 ⟨g, 0, none⟩ (.inl (by omega))
                    rw [show ra.length - (x + 1) = 0 by omega, show (x + 1) - (x + 1) = 0 by omega] at this
                    exact this
                  have hml : ra.length - (x + 1) = 0 := by omega
                  have HML := Lib.hid hml
                  clear hml
                  go_wp2_with first
                    | (at_builtin; go_loud (refine wpList_append_src _ rfl (.const (.slice none 0 0)) (.tmp 101) _ rfl w6.heap.size 34 i0 _ 4 32 Try.underlying32 hi0 hz0 hz1 hz2 rfl (by omega) _ 0 _ rfl ON6 _ (0) (0) _ rfl SD (a_one _) (by unfold maxLen; omega) (by omega) (by omega) ?_; intro v2 w7 hown7 hgr7; rw [Nat.zero_add, List.nil_append] at hown7; have C7 : Chg w6 w7 (fun _ => False) := Chg.of_grown hgr7 (fun j hj _ => by cases hj); obtain ⟨a2, c2, rfl, hb1, hb2, _, _⟩ := own_form hown7; have y7 := (B6.chg C7 (fun h => h)).cell 2; have ST := src_take (own_chg P6.own C7 (fun _ _ h => h)) x (by omega); have ON7 := World.ownsRow_nil w7 w7.heap.size 34 4; have hsz7 := C7.size; clear hgr7))
                    | (at_builtin; go_loud (refine wpList_append_src _ rfl (.const (.slice none 0 0)) (.tmp 106) _ rfl w7.heap.size 34 i0 _ 4 32 Try.underlying32 hi0 hz0 hz1 hz2 rfl (by omega) _ 0 _ rfl ON7 _ x (x + 1) _ rfl ST (a_one _) (by unfold maxLen; omega) (by omega) (by omega) ?_; intro v3 w8 hown8 hgr8; rw [Nat.zero_add, List.nil_append] at hown8; have C8 : Chg w7 w8 (fun _ => False) := Chg.of_grown hgr8 (fun j hj _ => by cases hj); obtain ⟨a3, c3, rfl, hb3, hb4, _, _⟩ := own_form hown8; have SR := own_src (own_chg hown7 C8 (fun _ _ h => h)); have hsz8 := C8.size; clear hgr8))
                    | (at_builtin; go_loud (refine wpList_append_src _ rfl (.tmp 107) (.tmp 108) _ rfl w7.heap.size 34 i0 _ 4 32 Try.underlying32 hi0 hz0 hz1 hz2 rfl (by omega) _ x _ rfl hown8 _ 0 c2 _ rfl SR (a_one _) (by unfold maxLen; omega) (by omega) (by omega) ?_; intro v4 w9 hown9 hgr9))
                  go_meet
                  have C9 : Chg w7 w9 (fun _ => False) := C8.grown hgr9 (fun j hj hlt => absurd (hown8.lt j hj).1 (by omega))
                  refine ⟨_, P6.rowTo (ra' := ra.eraseIdx x) (vr' := v4) ((C7.trans C9).mono (fun _ _ h => h.elim)) ?_⟩
                  rw [HEL.out, HELL.out, HML.out]
                  exact own_base hown9 (show w.heap.size ≤ w7.heap.size by omega)
                · have SD : Src w6 (some ⟨g, (x + 1) * 4, none⟩) (ra.length - (x + 1)) (cr - (x + 1)) ((ra.drop (x + 1)).flatMap aCells) 4 := by
                    rw [← aflat_drop]
                    have := own_drop P6.own (x + 1) hin1 ⟨g, (x + 1) * 4, none⟩ (.inr rfl)
                    skip
                    exact this
                  go_wp2_with first
                    | (at_builtin; go_loud (refine wpList_append_src _ rfl (.const (.slice none 0 0)) (.tmp 101) _ rfl w6.heap.size 34 i0 _ 4 32 Try.underlying32 hi0 hz0 hz1 hz2 rfl (by omega) _ 0 _ rfl ON6 _ (ra.length - (x + 1)) (cr - (x + 1)) _ rfl SD (a_one _) (by unfold maxLen; omega) (by omega) (by omega) ?_; intro v2 w7 hown7 hgr7; rw [Nat.zero_add, List.nil_append] at hown7; have C7 : Chg w6 w7 (fun _ => False) := Chg.of_grown hgr7 (fun j hj _ => by cases hj); obtain ⟨a2, c2, rfl, hb1, hb2, _, _⟩ := own_form hown7; have y7 := (B6.chg C7 (fun h => h)).cell 2; have ST := src_take (own_chg P6.own C7 (fun _ _ h => h)) x (by omega); have ON7 := World.ownsRow_nil w7 w7.heap.size 34 4; have hsz7 := C7.size; clear hgr7))
                    | (at_builtin; go_loud (refine wpList_append_src _ rfl (.const (.slice none 0 0)) (.tmp 106) _ rfl w7.heap.size 34 i0 _ 4 32 Try.underlying32 hi0 hz0 hz1 hz2 rfl (by omega) _ 0 _ rfl ON7 _ x cr _ rfl ST (a_one _) (by unfold maxLen; omega) (by omega) (by omega) ?_; intro v3 w8 hown8 hgr8; rw [Nat.zero_add, List.nil_append] at hown8; have C8 : Chg w7 w8 (fun _ => False) := Chg.of_grown hgr8 (fun j hj _ => by cases hj); obtain ⟨a3, c3, rfl, hb3, hb4, _, _⟩ := own_form hown8; have SR := own_src (own_chg hown7 C8 (fun _ _ h => h)); have hsz8 := C8.size; clear hgr8))
                    | (at_builtin; go_loud (refine wpList_append_src _ rfl (.tmp 107) (.tmp 108) _ rfl w7.heap.size 34 i0 _ 4 32 Try.underlying32 hi0 hz0 hz1 hz2 rfl (by omega) _ x _ rfl hown8 _ (ra.length - (x + 1)) c2 _ rfl SR (a_one _) (by unfold maxLen; omega) (by omega) (by omega) ?_; intro v4 w9 hown9 hgr9))
                  go_meet
                  have C9 : Chg w7 w9 (fun _ => False) := C8.grown hgr9 (fun j hj hlt => absurd (hown8.lt j hj).1 (by omega))
                  refine ⟨_, P6.rowTo (ra' := ra.eraseIdx x) (vr' := v4) ((C7.trans C9).mono (fun _ _ h => h.elim)) ?_⟩
                  rw [HEL.out, HELL.out]
                  exact own_base hown9 (show w.heap.size ≤ w7.heap.size by omega)
            case rest =>
              obtain ⟨ra2, P7⟩ := hcut
              obtain ⟨ar2, cr2, rfl, _⟩ := own_form P7.own
              go_wp2_with fail
              refine P7.tlen.mono ?_
              rintro e w8 ⟨rfl, rfl⟩
              rw [List.length_map]
              go_wp2_with fail
              go_roundw
              case rel => exact ⟨j + 1, ra2, by omega, by go_num, P7⟩
              case measure => simp [intOf]; omega
        · as_aux_lemma =>
            have h5 : j = l.length := by omega
            subst h5
            go_wp2_with fail
            go_loopw [18] (fun i wx => ∃ q : Nat, q ≤ ra.length ∧ i = .int .i64 q ∧ PS w nn t m u z (ra.map toR) ra (.slice ar ra.length cr) wx) (fun i _ => ra.length - (intOf i).toNat)
            case atStart => exact ⟨0, by omega, rfl, Pj⟩
            case round =>
              obtain ⟨q, hq, rfl, Pq⟩ := hrel
              by_cases hlq : q < ra.length
              · obtain ⟨g, cap2, hv, hg1, hg2, _, _⟩ := own_block Pq.own (by omega)
                injection hv with e1 e2 e3
                subst e1 e3
                have HC := Lib.hid (fun wx (P : PS w nn t m u z (ra.map toR) ra (.slice (some ⟨g, 0, none⟩) ra.length cr) wx) => (fun (x : Nat) (v : Value) (hx : x < 4) (hv : (aCells ra[q])[x]? = some v) => own_cells P.own _ _ (by rw [flat_get aCells 4 (fun _ => rfl) ra q x hx hlq]; exact hv) : ∀ (x : Nat) (v : Value), x < 4 → (aCells ra[q])[x]? = some v → wx.cell? ⟨g, q * 4 + x, none⟩ = some v))
                have hmem : toR ra[q] ∈ ra.map toR := List.mem_map.2 ⟨_, List.getElem_mem hlq, rfl⟩
                have HLK := Lib.hid ((look_mem Pq.keys.1).2 (show ((ra[q].tag, ra[q].vpn), ra[q].entry) ∈ ra.map toR from hmem))
                have hkok := Pq.kok _ hmem
                have HO1 := Lib.hid hkok.1
                have HO2 := Lib.hid hkok.2
                have HT := Lib.hid (fun wx P => HC.out wx P 1 (.int .i64 ra[q].tag) (by decide) rfl)
                have HV := Lib.hid (fun wx P => HC.out wx P 2 (.int .i64 ra[q].vpn) (by decide) rfl)
                have HE := Lib.hid (fun wx P => HC.out wx P 3 (.int .i64 ra[q].entry) (by decide) rfl)
                change Hid (i64ok ra[q].tag) at HO1
                change Hid (i64ok ra[q].vpn) at HO2
                obtain ⟨x1, hx1⟩ : ∃ x1, ra[q].tag = x1 := ⟨_, rfl⟩
                obtain ⟨x2, hx2⟩ : ∃ x2, ra[q].vpn = x2 := ⟨_, rfl⟩
                obtain ⟨x3, hx3⟩ : ∃ x3, ra[q].entry = x3 := ⟨_, rfl⟩
                rw [hx1] at HT HO1
                rw [hx2] at HV HO2
                rw [hx3] at HE
                rw [hx1, hx2, hx3] at HLK
                have hq0 : (0 : Int) ≤ (q : Int) := by omega
                have hq1 : (q : Int) < (ra.length : Int) := by omega
                clear hmem hkok hx1 hx2 hx3 HC
                go_wp2_with fail
                refine wp_region_noPanic ?_
                refine seq_begin (fun wx => PS w nn t m u z (ra.map toR) ra (.slice (some ⟨g, 0, none⟩) ra.length cr) wx) (by kernel_rfl) (Pq.keep ((Chg.refl _ _).drew)) ?_
                refine seq_op 0 (oi := ?oq0) (v := ?vq0) ?hq0 (by kernel_rfl) (by kernel_rfl) (by kernel_rfl) (fun _ _ _ h => h) ?wq0 (fun K wq hS hK => ?yq0) ?rq0
                case hq0 => simp only [List.getElem?_toArray, List.getElem?_cons_succ, List.getElem?_cons_zero]; rfl
                case wq0 => rfl
                case yq0 =>
                  have HS := Lib.hid hS
                  go_simp
                  exact hK.out _ HS.out
                try simp only [Act.put, List.setIfInBounds_toArray, List.set_cons_zero, List.set_cons_succ]
                refine seq_op 1 (oi := ?oq1) (v := ?vq1) ?hq1 (by kernel_rfl) (by kernel_rfl) (by kernel_rfl) (fun _ _ _ h => h) ?wq1 (fun K wq hS hK => ?yq1) ?rq1
                case hq1 => simp only [List.getElem?_toArray, List.getElem?_cons_succ, List.getElem?_cons_zero]; rfl
                case wq1 => rfl
                case yq1 =>
                  have HS := Lib.hid hS
                  go_simp
                  exact hK.out _ HS.out
                try simp only [Act.put, List.setIfInBounds_toArray, List.set_cons_zero, List.set_cons_succ]
                refine seq_op 2 (oi := ?oq2) (v := ?vq2) ?hq2 (by kernel_rfl) (by kernel_rfl) (by kernel_rfl) (fun _ _ _ h => h) ?wq2 (fun K wq hS hK => ?yq2) ?rq2
                case hq2 => simp only [List.getElem?_toArray, List.getElem?_cons_succ, List.getElem?_cons_zero]; rfl
                case wq2 => rfl
                case yq2 =>
                  have HS := Lib.hid hS
                  go_simp
                  exact hK.out _ HS.out
                try simp only [Act.put, List.setIfInBounds_toArray, List.set_cons_zero, List.set_cons_succ]
                refine seq_op 3 (oi := ?oq3) (v := ?vq3) ?hq3 (by kernel_rfl) (by kernel_rfl) (by kernel_rfl) (fun _ _ _ h => h) ?wq3 (fun K wq hS hK => ?yq3) ?rq3
                case hq3 => simp only [List.getElem?_toArray, List.getElem?_cons_succ, List.getElem?_cons_zero]; rfl
                case wq3 => rfl
                case yq3 =>
                  have HS := Lib.hid hS
                  go_simp
                  exact hK.out _ HS.out
                try simp only [Act.put, List.setIfInBounds_toArray, List.set_cons_zero, List.set_cons_succ]
                refine seq_op 4 (oi := ?oq4) (v := ?vq4) ?hq4 (by kernel_rfl) (by kernel_rfl) (by kernel_rfl) (fun _ _ _ h => h) ?wq4 (fun K wq hS hK => ?yq4) ?rq4
                case hq4 => simp only [List.getElem?_toArray, List.getElem?_cons_succ, List.getElem?_cons_zero]; rfl
                case wq4 => rfl
                case yq4 =>
                  have HS := Lib.hid hS
                  go_simp
                  exact hK.out _ HS.out
                try simp only [Act.put, List.setIfInBounds_toArray, List.set_cons_zero, List.set_cons_succ]
                refine seq_op 5 (oi := ?oq5) (v := ?vq5) ?hq5 (by kernel_rfl) (by kernel_rfl) (by kernel_rfl) (fun _ _ _ h => h) ?wq5 (fun K wq hS hK => ?yq5) ?rq5
                case hq5 => simp only [List.getElem?_toArray, List.getElem?_cons_succ, List.getElem?_cons_zero]; rfl
                case wq5 => rfl
                case yq5 =>
                  have HS := Lib.hid hS
                  have cc := HT.out _ hS
                  clear hS
                  go_simp
                  have hS2 := HS.out
                  exact hK.out _ hS2
                try simp only [Act.put, List.setIfInBounds_toArray, List.set_cons_zero, List.set_cons_succ]
                refine seq_op 6 (oi := ?oq6) (v := ?vq6) ?hq6 (by kernel_rfl) (by kernel_rfl) (by kernel_rfl) (fun _ _ _ h => h) ?wq6 (fun K wq hS hK => ?yq6) ?rq6
                case hq6 => simp only [List.getElem?_toArray, List.getElem?_cons_succ, List.getElem?_cons_zero]; rfl
                case wq6 => rfl
                case yq6 =>
                  have HS := Lib.hid hS
                  go_simp
                  exact hK.out _ HS.out
                try simp only [Act.put, List.setIfInBounds_toArray, List.set_cons_zero, List.set_cons_succ]
                refine seq_op 7 (oi := ?oq7) (v := ?vq7) ?hq7 (by kernel_rfl) (by kernel_rfl) (by kernel_rfl) (fun _ _ _ h => h) ?wq7 (fun K wq hS hK => ?yq7) ?rq7
                case hq7 => simp only [List.getElem?_toArray, List.getElem?_cons_succ, List.getElem?_cons_zero]; rfl
                case wq7 => rfl
                case yq7 =>
                  have HS := Lib.hid hS
                  go_simp
                  exact hK.out _ HS.out
                try simp only [Act.put, List.setIfInBounds_toArray, List.set_cons_zero, List.set_cons_succ]
                refine seq_op 8 (oi := ?oq8) (v := ?vq8) ?hq8 (by kernel_rfl) (by kernel_rfl) (by kernel_rfl) (fun _ _ _ h => h) ?wq8 (fun K wq hS hK => ?yq8) ?rq8
                case hq8 => simp only [List.getElem?_toArray, List.getElem?_cons_succ, List.getElem?_cons_zero]; rfl
                case wq8 => rfl
                case yq8 =>
                  have HS := Lib.hid hS
                  go_simp
                  exact hK.out _ HS.out
                try simp only [Act.put, List.setIfInBounds_toArray, List.set_cons_zero, List.set_cons_succ]
                refine seq_op 9 (oi := ?oq9) (v := ?vq9) ?hq9 (by kernel_rfl) (by kernel_rfl) (by kernel_rfl) (fun _ _ _ h => h) ?wq9 (fun K wq hS hK => ?yq9) ?rq9
                case hq9 => simp only [List.getElem?_toArray, List.getElem?_cons_succ, List.getElem?_cons_zero]; rfl
                case wq9 => rfl
                case yq9 =>
                  have HS := Lib.hid hS
                  go_simp
                  exact hK.out _ HS.out
                try simp only [Act.put, List.setIfInBounds_toArray, List.set_cons_zero, List.set_cons_succ]
                refine seq_op 10 (oi := ?oq10) (v := ?vq10) ?hq10 (by kernel_rfl) (by kernel_rfl) (by kernel_rfl) (fun _ _ _ h => h) ?wq10 (fun K wq hS hK => ?yq10) ?rq10
                case hq10 => simp only [List.getElem?_toArray, List.getElem?_cons_succ, List.getElem?_cons_zero]; rfl
                case wq10 => rfl
                case yq10 =>
                  have HS := Lib.hid hS
                  have cc := HV.out _ hS
                  clear hS
                  go_simp
                  have hS2 := HS.out
                  exact hK.out _ hS2
                try simp only [Act.put, List.setIfInBounds_toArray, List.set_cons_zero, List.set_cons_succ]
                refine seq_op 11 (oi := ?oq11) (v := ?vq11) ?hq11 (by kernel_rfl) (by kernel_rfl) (by kernel_rfl) (fun _ _ _ h => h) ?wq11 (fun K wq hS hK => ?yq11) ?rq11
                case hq11 => simp only [List.getElem?_toArray, List.getElem?_cons_succ, List.getElem?_cons_zero]; rfl
                case wq11 => rfl
                case yq11 =>
                  have HS := Lib.hid hS
                  clear hS
                  go_simp
                  refine (HS.out.lookT x1 x2 HO1.out HO2.out).mono ?_
                  rintro e w8 ⟨rfl, rfl⟩
                  have hS2 := HS.out
                  rw [HLK.out]
                  exact hK.out _ hS2
                try simp only [Act.put, List.setIfInBounds_toArray, List.set_cons_zero, List.set_cons_succ]
                refine seq_op 12 (oi := ?oq12) (v := ?vq12) ?hq12 (by kernel_rfl) (by kernel_rfl) (by kernel_rfl) (fun _ _ _ h => h) ?wq12 (fun K wq hS hK => ?yq12) ?rq12
                case hq12 => simp only [List.getElem?_toArray, List.getElem?_cons_succ, List.getElem?_cons_zero]; rfl
                case wq12 => rfl
                case yq12 =>
                  have HS := Lib.hid hS
                  go_simp
                  exact hK.out _ HS.out
                try simp only [Act.put, List.setIfInBounds_toArray, List.set_cons_zero, List.set_cons_succ]
                refine seq_op 13 (oi := ?oq13) (v := ?vq13) ?hq13 (by kernel_rfl) (by kernel_rfl) (by kernel_rfl) (fun _ _ _ h => h) ?wq13 (fun K wq hS hK => ?yq13) ?rq13
                case hq13 => simp only [List.getElem?_toArray, List.getElem?_cons_succ, List.getElem?_cons_zero]; rfl
                case wq13 => rfl
                case yq13 =>
                  have HS := Lib.hid hS
                  go_simp
                  exact hK.out _ HS.out
                try simp only [Act.put, List.setIfInBounds_toArray, List.set_cons_zero, List.set_cons_succ]
                refine seq_op 14 (oi := ?oq14) (v := ?vq14) ?hq14 (by kernel_rfl) (by kernel_rfl) (by kernel_rfl) (fun _ _ _ h => h) ?wq14 (fun K wq hS hK => ?yq14) ?rq14
                case hq14 => simp only [List.getElem?_toArray, List.getElem?_cons_succ, List.getElem?_cons_zero]; rfl
                case wq14 => rfl
                case yq14 =>
                  have HS := Lib.hid hS
                  go_simp
                  exact hK.out _ HS.out
                try simp only [Act.put, List.setIfInBounds_toArray, List.set_cons_zero, List.set_cons_succ]
                refine seq_op 15 (oi := ?oq15) (v := ?vq15) ?hq15 (by kernel_rfl) (by kernel_rfl) (by kernel_rfl) (fun _ _ _ h => h) ?wq15 (fun K wq hS hK => ?yq15) ?rq15
                case hq15 => simp only [List.getElem?_toArray, List.getElem?_cons_succ, List.getElem?_cons_zero]; rfl
                case wq15 => rfl
                case yq15 =>
                  have HS := Lib.hid hS
                  go_simp
                  exact hK.out _ HS.out
                try simp only [Act.put, List.setIfInBounds_toArray, List.set_cons_zero, List.set_cons_succ]
                refine seq_op 16 (oi := ?oq16) (v := ?vq16) ?hq16 (by kernel_rfl) (by kernel_rfl) (by kernel_rfl) (fun _ _ _ h => h) ?wq16 (fun K wq hS hK => ?yq16) ?rq16
                case hq16 => simp only [List.getElem?_toArray, List.getElem?_cons_succ, List.getElem?_cons_zero]; rfl
                case wq16 => rfl
                case yq16 =>
                  have HS := Lib.hid hS
                  go_simp
                  exact hK.out _ HS.out
                try simp only [Act.put, List.setIfInBounds_toArray, List.set_cons_zero, List.set_cons_succ]
                refine seq_done (by kernel_rfl) (fun wz hSz => ?_) _
                refine NoPanic.normal ?_
                have d3 := HE.out _ hSz
                go_wp2_with fail
                go_roundw
                case rel => exact ⟨q + 1, by omega, by go_num, hSz⟩
                case measure => simp [intOf]; omega
              · have hql : q = ra.length := by omega
                subst hql
                go_wp2_with fail
                go_ret
                exact ⟨rfl, Pq.chg0.below_of (Nat.le_refl _) (fun _ h => h.elim)⟩

set_option maxRecDepth 100000 in
set_option maxHeartbeats 2000000 in
theorem plays_out {l : List ActD} {ao : Option Addr} {cap : Nat} (n0 : Int) (w : World) (hL : Lst w ao l.length cap (l.flatMap aCells) 4) (hl : ¬ l.length ≤ 600) :
    Calls Try.prog 5 #[.int .i64 n0, .slice ao l.length cap] w fun e w' => e = .returned (.bool true) ∧ Below w.heap.size w w' := by
  have q0 : decide ((600 : Int) < (l.length : Int)) = true := decide_eq_true (by omega)
  go_enter Try.func5, Try.ntmps5
  go_wp2_with fail
  refine (alive6 _).mono ?_
  rintro e w1 ⟨rfl, C1⟩
  go_wp2_with fail
  go_ret
  exact ⟨rfl, C1.below_of (Nat.le_refl _) (fun _ h => h.elim)⟩
end Go.Proofs.Ytgblnmahniphdaa

/- PhysPlays: the walk. -/
import Derived.Test.YtmkhpahkcicfnaaPhysPl0
import Derived.Test.YtmkhpahkcicfnaaSeq2
import Derived.Deep.RegionHeld3
import Derived.BigRegion
namespace Go.Proofs.Ytmkhpahkcicfnaa
open Go.RowKit

set_option maxRecDepth 100000 in
set_option maxHeartbeats 8000000 in
theorem plays_in {l : List BAct} {ao : Option Addr} {cap : Nat} (pages : Int) (w : World) (hL : Lst w ao l.length cap (l.flatMap bCells) 5) (hok : ∀ a ∈ l, bOk w a) (hl : l.length ≤ 100) (hp : pages ≤ 300) :
    Calls Try.prog 5 #[.int .i64 pages, .slice ao l.length cap] w fun e w' => e = .returned (.bool true) ∧ Below w.heap.size w w' := by
  have q0 : decide ((100 : Int) < (l.length : Int)) = false := decide_eq_false (by omega)
  have q1 : decide ((300 : Int) < pages) = false := decide_eq_false (by omega)
  obtain ⟨i0, hi0, hz0, hz1, hz2⟩ := info_parts info_u8
  obtain ⟨n, hn⟩ : ∃ n, pgN pages = n := ⟨_, rfl⟩
  have HN := Lib.hid hn
  clear hn hp
  go_enter Try.func5, Try.ntmps5
  go_wp2_with fail
  refine (alive4 _).mono ?_
  rintro e w1 ⟨rfl, B1⟩
  go_wp2_with fail
  refine (new_at pages n HN.out _).mono ?_
  rintro e w2 ⟨am, bm, h1⟩
  have he := h1.ret
  subst he
  go_wp2_with fail
  refine (new_at pages n HN.out _).mono ?_
  rintro e w3 ⟨ao2, bo2, h2⟩
  have he := h2.ret
  subst he
  go_wp2_with fail
  refine (rnew_at pages n HN.out _).mono ?_
  rintro e w4 ⟨ar, br, h3⟩
  have he := h3.ret
  subst he
  have P0 := MS.make B1 B1.size h1 h2 h3
  clear h1 h2 h3 B1 q0 q1
  go_wp2_with fail
  refine wp_region_noPanic ?_
  refine seq_begin (fun wx => MS w n am bm ao2 bo2 ar br (fun _ => 0) (fun _ => 0) wx) (by kernel_rfl) (P0.keep ((Chg.refl _ _).drew)) ?_
  refine seq_op 0 (oi := ?oa0) (v := ?va0) ?ha0 (by kernel_rfl) (by kernel_rfl) (by kernel_rfl) (fun _ _ _ h => h) ?wa0 (fun K wq hS hK => ?ya0) ?ra0
  case ha0 => simp only [List.getElem?_toArray, List.getElem?_cons_succ, List.getElem?_cons_zero]; rfl
  case wa0 => rfl
  case ya0 =>
    have HS := Lib.hid hS
    clear hS
    go_simp
    exact hK.out _ HS.out
  try simp only [Act.put, List.setIfInBounds_toArray, List.set_cons_zero, List.set_cons_succ]
  refine seq_op 1 (oi := ?oa1) (v := ?va1) ?ha1 (by kernel_rfl) (by kernel_rfl) (by kernel_rfl) (fun _ _ _ h => h) ?wa1 (fun K wq hS hK => ?ya1) ?ra1
  case ha1 => simp only [List.getElem?_toArray, List.getElem?_cons_succ, List.getElem?_cons_zero]; rfl
  case wa1 => rfl
  case ya1 =>
    have HS := Lib.hid hS
    clear hS
    go_simp
    exact hK.out _ HS.out
  try simp only [Act.put, List.setIfInBounds_toArray, List.set_cons_zero, List.set_cons_succ]
  refine seq_op 2 (oi := ?oa2) (v := ?va2) ?ha2 (by kernel_rfl) (by kernel_rfl) (by kernel_rfl) (fun _ _ _ h => h) ?wa2 (fun K wq hS hK => ?ya2) ?ra2
  case ha2 => simp only [List.getElem?_toArray, List.getElem?_cons_succ, List.getElem?_cons_zero]; rfl
  case wa2 => rfl
  case ya2 =>
    have HS := Lib.hid hS
    clear hS
    go_simp
    exact hK.out _ HS.out
  try simp only [Act.put, List.setIfInBounds_toArray, List.set_cons_zero, List.set_cons_succ]
  refine seq_op 3 (oi := ?oa3) (v := ?va3) ?ha3 (by kernel_rfl) (by kernel_rfl) (by kernel_rfl) (fun _ _ _ h => h) ?wa3 (fun K wq hS hK => ?ya3) ?ra3
  case ha3 => simp only [List.getElem?_toArray, List.getElem?_cons_succ, List.getElem?_cons_zero]; rfl
  case wa3 => rfl
  case ya3 =>
    have HS := Lib.hid hS
    clear hS
    go_simp
    exact hK.out _ HS.out
  try simp only [Act.put, List.setIfInBounds_toArray, List.set_cons_zero, List.set_cons_succ]
  refine seq_op 4 (oi := ?oa4) (v := ?va4) ?ha4 (by kernel_rfl) (by kernel_rfl) (by kernel_rfl) (fun _ _ _ h => h) ?wa4 (fun K wq hS hK => ?ya4) ?ra4
  case ha4 => simp only [List.getElem?_toArray, List.getElem?_cons_succ, List.getElem?_cons_zero]; rfl
  case wa4 => rfl
  case ya4 =>
    have HS := Lib.hid hS
    clear hS
    go_simp
    exact hK.out _ HS.out
  try simp only [Act.put, List.setIfInBounds_toArray, List.set_cons_zero, List.set_cons_succ]
  refine seq_op 5 (oi := ?oa5) (v := ?va5) ?ha5 (by kernel_rfl) (by kernel_rfl) (by kernel_rfl) (fun _ _ _ h => h) ?wa5 (fun K wq hS hK => ?ya5) ?ra5
  case ha5 => simp only [List.getElem?_toArray, List.getElem?_cons_succ, List.getElem?_cons_zero]; rfl
  case wa5 => rfl
  case ya5 =>
    have HS := Lib.hid hS
    clear hS
    go_simp
    exact hK.out _ HS.out
  try simp only [Act.put, List.setIfInBounds_toArray, List.set_cons_zero, List.set_cons_succ]
  refine seq_op 6 (oi := ?oa6) (v := ?va6) ?ha6 (by kernel_rfl) (by kernel_rfl) (by kernel_rfl) (fun _ _ _ h => h) ?wa6 (fun K wq hS hK => ?ya6) ?ra6
  case ha6 => simp only [List.getElem?_toArray, List.getElem?_cons_succ, List.getElem?_cons_zero]; rfl
  case wa6 => rfl
  case ya6 =>
    have HS := Lib.hid hS
    clear hS
    go_simp
    exact hK.out _ HS.out
  try simp only [Act.put, List.setIfInBounds_toArray, List.set_cons_zero, List.set_cons_succ]
  refine seq_op 7 (oi := ?oa7) (v := ?va7) ?ha7 (by kernel_rfl) (by kernel_rfl) (by kernel_rfl) (fun _ _ _ h => h) ?wa7 (fun K wq hS hK => ?ya7) ?ra7
  case ha7 => simp only [List.getElem?_toArray, List.getElem?_cons_succ, List.getElem?_cons_zero]; rfl
  case wa7 => rfl
  case ya7 =>
    have HS := Lib.hid hS
    clear hS
    go_simp
    exact hK.out _ HS.out
  try simp only [Act.put, List.setIfInBounds_toArray, List.set_cons_zero, List.set_cons_succ]
  refine seq_op 8 (oi := ?oa8) (v := ?va8) ?ha8 (by kernel_rfl) (by kernel_rfl) (by kernel_rfl) (fun _ _ _ h => h) ?wa8 (fun K wq hS hK => ?ya8) ?ra8
  case ha8 => simp only [List.getElem?_toArray, List.getElem?_cons_succ, List.getElem?_cons_zero]; rfl
  case wa8 => rfl
  case ya8 =>
    have HS := Lib.hid hS
    clear hS
    go_simp
    refine (size_any HS.out.m).mono ?_
    rintro e w8 ⟨rfl, rfl⟩
    have hS2 := HS.out
    exact hK.out _ hS2
  try simp only [Act.put, List.setIfInBounds_toArray, List.set_cons_zero, List.set_cons_succ]
  refine seq_op 9 (oi := ?oa9) (v := ?va9) ?ha9 (by kernel_rfl) (by kernel_rfl) (by kernel_rfl) (fun _ _ _ h => h) ?wa9 (fun K wq hS hK => ?ya9) ?ra9
  case ha9 => simp only [List.getElem?_toArray, List.getElem?_cons_succ, List.getElem?_cons_zero]; rfl
  case wa9 => rfl
  case ya9 =>
    have HS := Lib.hid hS
    clear hS
    go_simp
    exact hK.out _ HS.out
  try simp only [Act.put, List.setIfInBounds_toArray, List.set_cons_zero, List.set_cons_succ]
  refine seq_op 10 (oi := ?oa10) (v := ?va10) ?ha10 (by kernel_rfl) (by kernel_rfl) (by kernel_rfl) (fun _ _ _ h => h) ?wa10 (fun K wq hS hK => ?ya10) ?ra10
  case ha10 => simp only [List.getElem?_toArray, List.getElem?_cons_succ, List.getElem?_cons_zero]; rfl
  case wa10 => rfl
  case ya10 =>
    have HS := Lib.hid hS
    clear hS
    go_simp
    exact hK.out _ HS.out
  try simp only [Act.put, List.setIfInBounds_toArray, List.set_cons_zero, List.set_cons_succ]
  refine seq_op 11 (oi := ?oa11) (v := ?va11) ?ha11 (by kernel_rfl) (by kernel_rfl) (by kernel_rfl) (fun _ _ _ h => h) ?wa11 (fun K wq hS hK => ?ya11) ?ra11
  case ha11 => simp only [List.getElem?_toArray, List.getElem?_cons_succ, List.getElem?_cons_zero]; rfl
  case wa11 => rfl
  case ya11 =>
    have HS := Lib.hid hS
    clear hS
    go_simp
    exact hK.out _ HS.out
  try simp only [Act.put, List.setIfInBounds_toArray, List.set_cons_zero, List.set_cons_succ]
  refine seq_op 12 (oi := ?oa12) (v := ?va12) ?ha12 (by kernel_rfl) (by kernel_rfl) (by kernel_rfl) (fun _ _ _ h => h) ?wa12 (fun K wq hS hK => ?ya12) ?ra12
  case ha12 => simp only [List.getElem?_toArray, List.getElem?_cons_succ, List.getElem?_cons_zero]; rfl
  case wa12 => rfl
  case ya12 =>
    have HS := Lib.hid hS
    have cc := hS.r.cell0
    clear hS
    go_simp
    have hS2 := HS.out
    exact hK.out _ hS2
  try simp only [Act.put, List.setIfInBounds_toArray, List.set_cons_zero, List.set_cons_succ]
  refine seq_op 13 (oi := ?oa13) (v := ?va13) ?ha13 (by kernel_rfl) (by kernel_rfl) (by kernel_rfl) (fun _ _ _ h => h) ?wa13 (fun K wq hS hK => ?ya13) ?ra13
  case ha13 => simp only [List.getElem?_toArray, List.getElem?_cons_succ, List.getElem?_cons_zero]; rfl
  case wa13 => rfl
  case ya13 =>
    have HS := Lib.hid hS
    clear hS
    go_simp
    exact hK.out _ HS.out
  try simp only [Act.put, List.setIfInBounds_toArray, List.set_cons_zero, List.set_cons_succ]
  refine seq_op 14 (oi := ?oa14) (v := ?va14) ?ha14 (by kernel_rfl) (by kernel_rfl) (by kernel_rfl) (fun _ _ _ h => h) ?wa14 (fun K wq hS hK => ?ya14) ?ra14
  case ha14 => simp only [List.getElem?_toArray, List.getElem?_cons_succ, List.getElem?_cons_zero]; rfl
  case wa14 => rfl
  case ya14 =>
    have HS := Lib.hid hS
    clear hS
    go_simp
    exact hK.out _ HS.out
  try simp only [Act.put, List.setIfInBounds_toArray, List.set_cons_zero, List.set_cons_succ]
  refine seq_op 15 (oi := ?oa15) (v := ?va15) ?ha15 (by kernel_rfl) (by kernel_rfl) (by kernel_rfl) (fun _ _ _ h => h) ?wa15 (fun K wq hS hK => ?ya15) ?ra15
  case ha15 => simp only [List.getElem?_toArray, List.getElem?_cons_succ, List.getElem?_cons_zero]; rfl
  case wa15 => rfl
  case ya15 =>
    have HS := Lib.hid hS
    clear hS
    go_simp
    exact hK.out _ HS.out
  try simp only [Act.put, List.setIfInBounds_toArray, List.set_cons_zero, List.set_cons_succ]
  refine seq_done (by kernel_rfl) (fun wz hSz => ?_) _
  refine NoPanic.normal ?_
  go_wp2_with fail
  go_loopw [9] (fun i wx => ∃ (j : Nat) (f : Nat → Int), j ≤ l.length ∧ i = .int .i64 j ∧ MS w n am bm ao2 bo2 ar br (f) (f) wx) (fun i _ => l.length - (intOf i).toNat)
  case atStart => exact ⟨0, _, by omega, rfl, hSz⟩
  case round =>
    obtain ⟨j, f, hj, rfl, Pj⟩ := hrel
    by_cases hlt : j < l.length
    · obtain ⟨ab, aof, rfl⟩ := hL.pos (by omega)
      have hLj := hL.chg (Chg.of_below Pj.b (fun _ => False)) (fun _ _ h => h)
      have c0 := Lst.cell0 (n := 5) (fun _ => rfl) hLj j (by decide) hlt rfl
      have c1 := Lst.cell (n := 5) (fun _ => rfl) hLj j 1 (by decide) hlt rfl
      have c2 := Lst.cell (n := 5) (fun _ => rfl) hLj j 2 (by decide) hlt rfl
      have c3 := Lst.cell (n := 5) (fun _ => rfl) hLj j 3 (by decide) hlt rfl
      have c4 := Lst.cell (n := 5) (fun _ => rfl) hLj j 4 (by decide) hlt rfl
      have hak := hok _ (List.getElem_mem hlt)
      obtain ⟨a, ha⟩ : ∃ a, l[j] = a := ⟨_, rfl⟩
      rw [ha] at c0 c1 c2 c3 c4 hak
      obtain ⟨aw, ad, asz, av, bo, bm1, bc, xs⟩ := a
      have HS0 := Lib.hid hak.1
      have HX := Lib.hid hak.2.1
      have hmc := hak.2.2.1
      have hcm := hak.2.2.2.1
      have HSB := Lib.hid hak.2.2.2.2
      change Hid (Src w bo bm1 bc (u8s xs) 1) at HS0
      change Hid (∀ x ∈ xs, 0 ≤ x ∧ x < 256) at HX
      change bm1 ≤ bc at hmc
      change bc ≤ maxLen at hcm
      change Hid (∀ ad, bo = some ad → 0 < bm1 → ad.block < w.heap.size) at HSB
      unfold maxLen at hcm
      have BA := Box.new wr 40 #[.int .i64 aw, .int .i64 ad, .int .i64 asz, .int .i64 av, .slice bo bm1 bc]
      have PA := Pj.keep ((Chg.refl wr (fun _ => False)).alloc (.cells #[.int .i64 aw, .int .i64 ad, .int .i64 asz, .int .i64 av, .slice bo bm1 bc] 40))
      have hlt6 := Pj.lt
      have hj0 : (0 : Int) ≤ (j : Int) := by omega
      have hj1 : (j : Int) < (l.length : Int) := by omega
      have y1 := BA.cell 1
      have HBO := Lib.hid (show (∀ a, bo = some a → 0 < bm1 → ¬ a.block = bm) ∧ (∀ a, bo = some a → 0 < bm1 → ¬ a.block = br) from ⟨fun a h h' => by have := HSB.out a h h'; have := Pj.d.ge; omega, fun a h h' => by have := HSB.out a h h'; have := Pj.d.ge; omega⟩)
      have HAG0 := Lib.hid (show ¬ wr.heap.size = bm ∧ ¬ wr.heap.size = br ∧ ¬ wr.heap.size = bo2 by omega)
      clear hLj hak ha hlt6
      go_upto_block 1 with fail
      go_cut [10] (fun s wx => ∃ f2 : Nat → Int, MS w n am bm ao2 bo2 ar br (f2) (f2) wx)
      case first =>
        go_wp2_with fail
        refine (PA.storeO ad 4 j).mono ?_
        rintro e w4 ⟨rfl, P4, C4⟩
        have B4 := BA.chg C4 HAG0.out.2.2
        obtain ⟨ag, hag⟩ : ∃ ag, wr.heap.size = ag := ⟨_, rfl⟩
        rw [hag] at B4 HAG0 ⊢
        have HAG := Lib.hid (show ¬ ag = bm ∧ ¬ ag = br from ⟨HAG0.out.1, HAG0.out.2.1⟩)
        clear y1 c0 c1 c2 c3 c4 PA BA hag C4 Pj HAG0
        have y0 := B4.cell 0
        have y1 := B4.cell 1
        have y2 := B4.cell 2
        have y3 := B4.cell 3
        have y4 := B4.cell 4
        by_cases w0 : aw = 0
        · skip
          as_aux_lemma =>
            have g0 : (aw == 0) = true := beq_iff_eq.2 w0
            clear w0
            obtain ⟨vv, hvv⟩ : ∃ vv, ldV n f ad asz = vv := ⟨_, rfl⟩
            obtain ⟨kk, hkk⟩ : ∃ kk, okB n ad asz = kk := ⟨_, rfl⟩
            have L1 := load_any P4.m ad asz
            have L2 := rload_any P4.r ad asz
            rw [hvv, hkk] at L1 L2
            have L2 := Lib.hid L2
            have L1 := Lib.hid L1
            have qa : (vv != vv) = false := by simp
            have qb : (kk != kk) = false := by simp
            clear hvv hkk
            go_wp2_with fail
            refine L1.out.mono ?_
            rintro e w6 ⟨rfl, rfl⟩
            go_wp2_with fail
            refine L2.out.mono ?_
            rintro e w6 ⟨rfl, rfl⟩
            go_wp2_with fail
            go_meet
            exact ⟨f, P4⟩
        have g0 : (aw == 0) = false := beq_eq_false_iff_ne.2 w0
        by_cases w1' : aw = 1
        · skip
          as_aux_lemma =>
            have g1 : (aw == 1) = true := beq_iff_eq.2 w1'
            have qb : (okB n ad asz != okB n ad asz) = false := by simp
            clear w0 w1'
            go_wp2_with fail
            refine wp_region_noPanic ?_
            refine seq2_begin (fun L : Array Bool => (fun x y wx => MS w n am bm ao2 bo2 ar br (cond x (stV n f ad asz av) f) (cond y (stV n f ad asz av) f) wx ∧ Box wx ag 40 #[.int .i64 aw, .int .i64 ad, .int .i64 asz, .int .i64 av, .slice bo bm1 bc]) (L.getD 7 false) (L.getD 15 false)) (by kernel_rfl) (⟨P4.keep ((Chg.refl _ _).drew), B4.drew⟩) ?_
            refine seq2_op 0 (oi := ?ob0) (v := ?vb0) ?hb0 (by kernel_rfl) (by kernel_rfl) (by kernel_rfl) (fun _ _ _ h => h) ?wb0 (fun L => flags_keep (fun x y wx => MS w n am bm ao2 bo2 ar br (cond x (stV n f ad asz av) f) (cond y (stV n f ad asz av) f) wx ∧ Box wx ag 40 #[.int .i64 aw, .int .i64 ad, .int .i64 asz, .int .i64 av, .slice bo bm1 bc]) 7 15 0 (by decide) (by decide) L) (fun K L wq hS hK => ?yb0) ?rb0
            case hb0 => simp only [List.getElem?_toArray, List.getElem?_cons_succ, List.getElem?_cons_zero]; rfl
            case wb0 => rfl
            case yb0 =>
              have HS := Lib.hid hS
              clear hS
              go_simp
              exact hK.out _ HS.out
            try simp only [Act.put, List.setIfInBounds_toArray, List.set_cons_zero, List.set_cons_succ]
            refine seq2_op 1 (oi := ?ob1) (v := ?vb1) ?hb1 (by kernel_rfl) (by kernel_rfl) (by kernel_rfl) (fun _ _ _ h => h) ?wb1 (fun L => flags_keep (fun x y wx => MS w n am bm ao2 bo2 ar br (cond x (stV n f ad asz av) f) (cond y (stV n f ad asz av) f) wx ∧ Box wx ag 40 #[.int .i64 aw, .int .i64 ad, .int .i64 asz, .int .i64 av, .slice bo bm1 bc]) 7 15 1 (by decide) (by decide) L) (fun K L wq hS hK => ?yb1) ?rb1
            case hb1 => simp only [List.getElem?_toArray, List.getElem?_cons_succ, List.getElem?_cons_zero]; rfl
            case wb1 => rfl
            case yb1 =>
              have HS := Lib.hid hS
              clear hS
              go_simp
              exact hK.out _ HS.out
            try simp only [Act.put, List.setIfInBounds_toArray, List.set_cons_zero, List.set_cons_succ]
            refine seq2_op 2 (oi := ?ob2) (v := ?vb2) ?hb2 (by kernel_rfl) (by kernel_rfl) (by kernel_rfl) (fun _ _ _ h => h) ?wb2 (fun L => flags_keep (fun x y wx => MS w n am bm ao2 bo2 ar br (cond x (stV n f ad asz av) f) (cond y (stV n f ad asz av) f) wx ∧ Box wx ag 40 #[.int .i64 aw, .int .i64 ad, .int .i64 asz, .int .i64 av, .slice bo bm1 bc]) 7 15 2 (by decide) (by decide) L) (fun K L wq hS hK => ?yb2) ?rb2
            case hb2 => simp only [List.getElem?_toArray, List.getElem?_cons_succ, List.getElem?_cons_zero]; rfl
            case wb2 => rfl
            case yb2 =>
              have HS := Lib.hid hS
              have cc : wq.cell? ⟨ag, 1, none⟩ = some (.int .i64 ad) := (show _ ∧ _ from hS).2.cell 1
              clear hS
              go_simp
              have hS2 := HS.out
              exact hK.out _ hS2
            try simp only [Act.put, List.setIfInBounds_toArray, List.set_cons_zero, List.set_cons_succ]
            refine seq2_op 3 (oi := ?ob3) (v := ?vb3) ?hb3 (by kernel_rfl) (by kernel_rfl) (by kernel_rfl) (fun _ _ _ h => h) ?wb3 (fun L => flags_keep (fun x y wx => MS w n am bm ao2 bo2 ar br (cond x (stV n f ad asz av) f) (cond y (stV n f ad asz av) f) wx ∧ Box wx ag 40 #[.int .i64 aw, .int .i64 ad, .int .i64 asz, .int .i64 av, .slice bo bm1 bc]) 7 15 3 (by decide) (by decide) L) (fun K L wq hS hK => ?yb3) ?rb3
            case hb3 => simp only [List.getElem?_toArray, List.getElem?_cons_succ, List.getElem?_cons_zero]; rfl
            case wb3 => rfl
            case yb3 =>
              have HS := Lib.hid hS
              clear hS
              go_simp
              exact hK.out _ HS.out
            try simp only [Act.put, List.setIfInBounds_toArray, List.set_cons_zero, List.set_cons_succ]
            refine seq2_op 4 (oi := ?ob4) (v := ?vb4) ?hb4 (by kernel_rfl) (by kernel_rfl) (by kernel_rfl) (fun _ _ _ h => h) ?wb4 (fun L => flags_keep (fun x y wx => MS w n am bm ao2 bo2 ar br (cond x (stV n f ad asz av) f) (cond y (stV n f ad asz av) f) wx ∧ Box wx ag 40 #[.int .i64 aw, .int .i64 ad, .int .i64 asz, .int .i64 av, .slice bo bm1 bc]) 7 15 4 (by decide) (by decide) L) (fun K L wq hS hK => ?yb4) ?rb4
            case hb4 => simp only [List.getElem?_toArray, List.getElem?_cons_succ, List.getElem?_cons_zero]; rfl
            case wb4 => rfl
            case yb4 =>
              have HS := Lib.hid hS
              have cc : wq.cell? ⟨ag, 2, none⟩ = some (.int .i64 asz) := (show _ ∧ _ from hS).2.cell 2
              clear hS
              go_simp
              have hS2 := HS.out
              exact hK.out _ hS2
            try simp only [Act.put, List.setIfInBounds_toArray, List.set_cons_zero, List.set_cons_succ]
            refine seq2_op 5 (oi := ?ob5) (v := ?vb5) ?hb5 (by kernel_rfl) (by kernel_rfl) (by kernel_rfl) (fun _ _ _ h => h) ?wb5 (fun L => flags_keep (fun x y wx => MS w n am bm ao2 bo2 ar br (cond x (stV n f ad asz av) f) (cond y (stV n f ad asz av) f) wx ∧ Box wx ag 40 #[.int .i64 aw, .int .i64 ad, .int .i64 asz, .int .i64 av, .slice bo bm1 bc]) 7 15 5 (by decide) (by decide) L) (fun K L wq hS hK => ?yb5) ?rb5
            case hb5 => simp only [List.getElem?_toArray, List.getElem?_cons_succ, List.getElem?_cons_zero]; rfl
            case wb5 => rfl
            case yb5 =>
              have HS := Lib.hid hS
              clear hS
              go_simp
              exact hK.out _ HS.out
            try simp only [Act.put, List.setIfInBounds_toArray, List.set_cons_zero, List.set_cons_succ]
            refine seq2_op 6 (oi := ?ob6) (v := ?vb6) ?hb6 (by kernel_rfl) (by kernel_rfl) (by kernel_rfl) (fun _ _ _ h => h) ?wb6 (fun L => flags_keep (fun x y wx => MS w n am bm ao2 bo2 ar br (cond x (stV n f ad asz av) f) (cond y (stV n f ad asz av) f) wx ∧ Box wx ag 40 #[.int .i64 aw, .int .i64 ad, .int .i64 asz, .int .i64 av, .slice bo bm1 bc]) 7 15 6 (by decide) (by decide) L) (fun K L wq hS hK => ?yb6) ?rb6
            case hb6 => simp only [List.getElem?_toArray, List.getElem?_cons_succ, List.getElem?_cons_zero]; rfl
            case wb6 => rfl
            case yb6 =>
              have HS := Lib.hid hS
              have cc : wq.cell? ⟨ag, 3, none⟩ = some (.int .i64 av) := (show _ ∧ _ from hS).2.cell 3
              clear hS
              go_simp
              have hS2 := HS.out
              exact hK.out _ hS2
            try simp only [Act.put, List.setIfInBounds_toArray, List.set_cons_zero, List.set_cons_succ]
            refine seq2_turn 7 (oi := ?ob7) (v := ?vb7) ?hb7 (by kernel_rfl) (by kernel_rfl) (by kernel_rfl) (fun _ _ _ h => h) ?wb7 (fun K L wq hL hS hK => ?yb7) ?rb7
            case hb7 => simp only [List.getElem?_toArray, List.getElem?_cons_succ, List.getElem?_cons_zero]; rfl
            case wb7 => rfl
            case yb7 =>
              have h0 := (show _ ∧ _ from hS)
              have h1 := h0.1
              have hB := h0.2
              rw [flag_off hL] at h1
              have H1 := Lib.hid h1
              have HB := Lib.hid hB
              have HL := Lib.hid hL
              clear hS h1 hB hL h0
              go_simp
              refine (H1.out.storeM ad asz av).mono ?_
              rintro e w8 ⟨rfl, P8, C8⟩
              have hS2 : MS w n am bm ao2 bo2 ar br (cond ((L.setIfInBounds 7 true).getD 7 false) (stV n f ad asz av) f) (cond ((L.setIfInBounds 7 true).getD 15 false) (stV n f ad asz av) f) w8 ∧ Box w8 ag 40 #[.int .i64 aw, .int .i64 ad, .int .i64 asz, .int .i64 av, .slice bo bm1 bc] := ⟨by rw [flag_on HL.out, getD_set_ne (i := 7) (j := 15) false (by decide)]; exact P8, HB.out.chg C8 HAG.out.1⟩
              exact hK.out _ hS2
            try simp only [Act.put, List.setIfInBounds_toArray, List.set_cons_zero, List.set_cons_succ]
            refine seq2_op 8 (oi := ?ob8) (v := ?vb8) ?hb8 (by kernel_rfl) (by kernel_rfl) (by kernel_rfl) (fun _ _ _ h => h) ?wb8 (fun L => flags_keep (fun x y wx => MS w n am bm ao2 bo2 ar br (cond x (stV n f ad asz av) f) (cond y (stV n f ad asz av) f) wx ∧ Box wx ag 40 #[.int .i64 aw, .int .i64 ad, .int .i64 asz, .int .i64 av, .slice bo bm1 bc]) 7 15 8 (by decide) (by decide) L) (fun K L wq hS hK => ?yb8) ?rb8
            case hb8 => simp only [List.getElem?_toArray, List.getElem?_cons_succ, List.getElem?_cons_zero]; rfl
            case wb8 => rfl
            case yb8 =>
              have HS := Lib.hid hS
              clear hS
              go_simp
              exact hK.out _ HS.out
            try simp only [Act.put, List.setIfInBounds_toArray, List.set_cons_zero, List.set_cons_succ]
            refine seq2_op 9 (oi := ?ob9) (v := ?vb9) ?hb9 (by kernel_rfl) (by kernel_rfl) (by kernel_rfl) (fun _ _ _ h => h) ?wb9 (fun L => flags_keep (fun x y wx => MS w n am bm ao2 bo2 ar br (cond x (stV n f ad asz av) f) (cond y (stV n f ad asz av) f) wx ∧ Box wx ag 40 #[.int .i64 aw, .int .i64 ad, .int .i64 asz, .int .i64 av, .slice bo bm1 bc]) 7 15 9 (by decide) (by decide) L) (fun K L wq hS hK => ?yb9) ?rb9
            case hb9 => simp only [List.getElem?_toArray, List.getElem?_cons_succ, List.getElem?_cons_zero]; rfl
            case wb9 => rfl
            case yb9 =>
              have HS := Lib.hid hS
              clear hS
              go_simp
              exact hK.out _ HS.out
            try simp only [Act.put, List.setIfInBounds_toArray, List.set_cons_zero, List.set_cons_succ]
            refine seq2_op 10 (oi := ?ob10) (v := ?vb10) ?hb10 (by kernel_rfl) (by kernel_rfl) (by kernel_rfl) (fun _ _ _ h => h) ?wb10 (fun L => flags_keep (fun x y wx => MS w n am bm ao2 bo2 ar br (cond x (stV n f ad asz av) f) (cond y (stV n f ad asz av) f) wx ∧ Box wx ag 40 #[.int .i64 aw, .int .i64 ad, .int .i64 asz, .int .i64 av, .slice bo bm1 bc]) 7 15 10 (by decide) (by decide) L) (fun K L wq hS hK => ?yb10) ?rb10
            case hb10 => simp only [List.getElem?_toArray, List.getElem?_cons_succ, List.getElem?_cons_zero]; rfl
            case wb10 => rfl
            case yb10 =>
              have HS := Lib.hid hS
              have cc : wq.cell? ⟨ag, 1, none⟩ = some (.int .i64 ad) := (show _ ∧ _ from hS).2.cell 1
              clear hS
              go_simp
              have hS2 := HS.out
              exact hK.out _ hS2
            try simp only [Act.put, List.setIfInBounds_toArray, List.set_cons_zero, List.set_cons_succ]
            refine seq2_op 11 (oi := ?ob11) (v := ?vb11) ?hb11 (by kernel_rfl) (by kernel_rfl) (by kernel_rfl) (fun _ _ _ h => h) ?wb11 (fun L => flags_keep (fun x y wx => MS w n am bm ao2 bo2 ar br (cond x (stV n f ad asz av) f) (cond y (stV n f ad asz av) f) wx ∧ Box wx ag 40 #[.int .i64 aw, .int .i64 ad, .int .i64 asz, .int .i64 av, .slice bo bm1 bc]) 7 15 11 (by decide) (by decide) L) (fun K L wq hS hK => ?yb11) ?rb11
            case hb11 => simp only [List.getElem?_toArray, List.getElem?_cons_succ, List.getElem?_cons_zero]; rfl
            case wb11 => rfl
            case yb11 =>
              have HS := Lib.hid hS
              clear hS
              go_simp
              exact hK.out _ HS.out
            try simp only [Act.put, List.setIfInBounds_toArray, List.set_cons_zero, List.set_cons_succ]
            refine seq2_op 12 (oi := ?ob12) (v := ?vb12) ?hb12 (by kernel_rfl) (by kernel_rfl) (by kernel_rfl) (fun _ _ _ h => h) ?wb12 (fun L => flags_keep (fun x y wx => MS w n am bm ao2 bo2 ar br (cond x (stV n f ad asz av) f) (cond y (stV n f ad asz av) f) wx ∧ Box wx ag 40 #[.int .i64 aw, .int .i64 ad, .int .i64 asz, .int .i64 av, .slice bo bm1 bc]) 7 15 12 (by decide) (by decide) L) (fun K L wq hS hK => ?yb12) ?rb12
            case hb12 => simp only [List.getElem?_toArray, List.getElem?_cons_succ, List.getElem?_cons_zero]; rfl
            case wb12 => rfl
            case yb12 =>
              have HS := Lib.hid hS
              have cc : wq.cell? ⟨ag, 2, none⟩ = some (.int .i64 asz) := (show _ ∧ _ from hS).2.cell 2
              clear hS
              go_simp
              have hS2 := HS.out
              exact hK.out _ hS2
            try simp only [Act.put, List.setIfInBounds_toArray, List.set_cons_zero, List.set_cons_succ]
            refine seq2_op 13 (oi := ?ob13) (v := ?vb13) ?hb13 (by kernel_rfl) (by kernel_rfl) (by kernel_rfl) (fun _ _ _ h => h) ?wb13 (fun L => flags_keep (fun x y wx => MS w n am bm ao2 bo2 ar br (cond x (stV n f ad asz av) f) (cond y (stV n f ad asz av) f) wx ∧ Box wx ag 40 #[.int .i64 aw, .int .i64 ad, .int .i64 asz, .int .i64 av, .slice bo bm1 bc]) 7 15 13 (by decide) (by decide) L) (fun K L wq hS hK => ?yb13) ?rb13
            case hb13 => simp only [List.getElem?_toArray, List.getElem?_cons_succ, List.getElem?_cons_zero]; rfl
            case wb13 => rfl
            case yb13 =>
              have HS := Lib.hid hS
              clear hS
              go_simp
              exact hK.out _ HS.out
            try simp only [Act.put, List.setIfInBounds_toArray, List.set_cons_zero, List.set_cons_succ]
            refine seq2_op 14 (oi := ?ob14) (v := ?vb14) ?hb14 (by kernel_rfl) (by kernel_rfl) (by kernel_rfl) (fun _ _ _ h => h) ?wb14 (fun L => flags_keep (fun x y wx => MS w n am bm ao2 bo2 ar br (cond x (stV n f ad asz av) f) (cond y (stV n f ad asz av) f) wx ∧ Box wx ag 40 #[.int .i64 aw, .int .i64 ad, .int .i64 asz, .int .i64 av, .slice bo bm1 bc]) 7 15 14 (by decide) (by decide) L) (fun K L wq hS hK => ?yb14) ?rb14
            case hb14 => simp only [List.getElem?_toArray, List.getElem?_cons_succ, List.getElem?_cons_zero]; rfl
            case wb14 => rfl
            case yb14 =>
              have HS := Lib.hid hS
              have cc : wq.cell? ⟨ag, 3, none⟩ = some (.int .i64 av) := (show _ ∧ _ from hS).2.cell 3
              clear hS
              go_simp
              have hS2 := HS.out
              exact hK.out _ hS2
            try simp only [Act.put, List.setIfInBounds_toArray, List.set_cons_zero, List.set_cons_succ]
            refine seq2_turn 15 (oi := ?ob15) (v := ?vb15) ?hb15 (by kernel_rfl) (by kernel_rfl) (by kernel_rfl) (fun _ _ _ h => h) ?wb15 (fun K L wq hL hS hK => ?yb15) ?rb15
            case hb15 => simp only [List.getElem?_toArray, List.getElem?_cons_succ, List.getElem?_cons_zero]; rfl
            case wb15 => rfl
            case yb15 =>
              have h0 := (show _ ∧ _ from hS)
              have h1 := h0.1
              have hB := h0.2
              rw [flag_off hL] at h1
              have H1 := Lib.hid h1
              have HB := Lib.hid hB
              have HL := Lib.hid hL
              clear hS h1 hB hL h0
              go_simp
              refine (H1.out.storeR ad asz av).mono ?_
              rintro e w8 ⟨rfl, P8, C8⟩
              have hS2 : MS w n am bm ao2 bo2 ar br (cond ((L.setIfInBounds 15 true).getD 7 false) (stV n f ad asz av) f) (cond ((L.setIfInBounds 15 true).getD 15 false) (stV n f ad asz av) f) w8 ∧ Box w8 ag 40 #[.int .i64 aw, .int .i64 ad, .int .i64 asz, .int .i64 av, .slice bo bm1 bc] := ⟨by rw [flag_on HL.out, getD_set_ne (i := 15) (j := 7) false (by decide)]; exact P8, HB.out.chg C8 HAG.out.2⟩
              exact hK.out _ hS2
            try simp only [Act.put, List.setIfInBounds_toArray, List.set_cons_zero, List.set_cons_succ]
            refine seq2_op 16 (oi := ?ob16) (v := ?vb16) ?hb16 (by kernel_rfl) (by kernel_rfl) (by kernel_rfl) (fun _ _ _ h => h) ?wb16 (fun L => flags_keep (fun x y wx => MS w n am bm ao2 bo2 ar br (cond x (stV n f ad asz av) f) (cond y (stV n f ad asz av) f) wx ∧ Box wx ag 40 #[.int .i64 aw, .int .i64 ad, .int .i64 asz, .int .i64 av, .slice bo bm1 bc]) 7 15 16 (by decide) (by decide) L) (fun K L wq hS hK => ?yb16) ?rb16
            case hb16 => simp only [List.getElem?_toArray, List.getElem?_cons_succ, List.getElem?_cons_zero]; rfl
            case wb16 => rfl
            case yb16 =>
              have HS := Lib.hid hS
              clear hS
              go_simp
              exact hK.out _ HS.out
            try simp only [Act.put, List.setIfInBounds_toArray, List.set_cons_zero, List.set_cons_succ]
            refine seq2_done (by kernel_rfl) (fun wz hSz => ?_) _
            refine NoPanic.normal ?_
            have P8 : MS w n am bm ao2 bo2 ar br (stV n f ad asz av) (stV n f ad asz av) wz := (show _ ∧ _ from hSz).1
            clear hSz
            go_wp2_with fail
            go_meet
            exact ⟨_, P8⟩
        have g1 : (aw == 1) = false := beq_eq_false_iff_ne.2 w1'
        by_cases w2' : aw = 2
        · skip
          as_aux_lemma =>
            have g2 : (aw == 2) = true := beq_iff_eq.2 w2'
            clear w0 w1' w2'
            obtain ⟨gn, hq⟩ : ∃ q, getN n ad asz = q := ⟨_, rfl⟩
            obtain ⟨ys, hys⟩ : ∃ ys, sl f ad.toNat gn = ys := ⟨_, rfl⟩
            have G := get_any P4.m ad asz
            rw [hq, hys] at G
            go_wp2_with fail
            refine G.mono ?_
            rintro e w6 ⟨a6, c6, rfl, O6, C6⟩
            have P6 := P4.keep C6
            have B6 := B4.chg C6 (fun h => h)
            have G2 := rget_any (P6.keep ((Chg.refl w6 (fun _ => False)).drew)).r ad asz
            rw [hq, hys] at G2
            have HG := Lib.hid G2
            have e6 := fun wx => conv_bytes (ao := a6) (m := gn) (c := c6) (xs := ys) wx
            obtain ⟨st, hst⟩ : ∃ st, strOfNums ys = st := ⟨_, rfl⟩
            rw [hst] at e6
            have HW1 := Lib.hid hst
            have HSV := Lib.hid (show Src w6.drew a6 gn c6 (u8s ys) 1 ∧ w6.drew.cell? ⟨ag, 1, none⟩ = some (.int .i64 ad) ∧ w6.drew.cell? ⟨ag, 2, none⟩ = some (.int .i64 asz) from ⟨(own_src O6).drew, B6.drew.cell 1, B6.drew.cell 2⟩)
            clear G G2 hq hys hst y0 y1 y2 y3 y4
            go_wp2_with fail
            refine wp_region_noPanic ?_
            refine wp_region_held_drew (S := fun w' => Src w' a6 gn c6 (u8s ys) 1 ∧ w'.cell? ⟨ag, 1, none⟩ = some (.int .i64 ad) ∧ w'.cell? ⟨ag, 2, none⟩ = some (.int .i64 asz)) (by kernel_rfl) (HSV.out) (fun hHeld => ?_)
            refine wpAnyH_take (i := 0) (oi := ?oid0) (v := ?vd0) ?hid0 (by kernel_rfl) (by kernel_rfl) (by kernel_rfl) (fun _ _ _ h => h) (Or.inl ⟨?hwd0, ?hyd0⟩) (by assumption) ?hrd0
            case hid0 => simp only [List.getElem?_toArray, List.getElem?_cons_succ, List.getElem?_cons_zero]; rfl
            case hwd0 => rfl
            case hyd0 => intro wq hSq; (try dsimp only at hSq); go_simp; (try with_reducible rfl)
            try simp only [Act.put, List.setIfInBounds_toArray, List.set_cons_zero, List.set_cons_succ]
            refine wpAnyH_take (i := 1) (oi := ?oid1) (v := ?vd1) ?hid1 (by kernel_rfl) (by kernel_rfl) (by kernel_rfl) (fun _ _ _ h => h) (Or.inl ⟨?hwd1, ?hyd1⟩) (by assumption) ?hrd1
            case hid1 => simp only [List.getElem?_toArray, List.getElem?_cons_succ, List.getElem?_cons_zero]; rfl
            case hwd1 => rfl
            case hyd1 => intro wq hSq; (try dsimp only at hSq); go_simp; (try with_reducible rfl)
            try simp only [Act.put, List.setIfInBounds_toArray, List.set_cons_zero, List.set_cons_succ]
            refine wpAnyH_take (i := 2) (oi := ?oid2) (v := ?vd2) ?hid2 (by kernel_rfl) (by kernel_rfl) (by kernel_rfl) (fun _ _ _ h => h) (Or.inl ⟨?hwd2, ?hyd2⟩) (by assumption) ?hrd2
            case hid2 => simp only [List.getElem?_toArray, List.getElem?_cons_succ, List.getElem?_cons_zero]; rfl
            case hwd2 => rfl
            case hyd2 => intro wq hSq; (try dsimp only at hSq); go_simp; (try with_reducible rfl)
            try simp only [Act.put, List.setIfInBounds_toArray, List.set_cons_zero, List.set_cons_succ]
            refine wpAnyH_take (i := 3) (oi := ?oid3) (v := ?vd3) ?hid3 (by kernel_rfl) (by kernel_rfl) (by kernel_rfl) (fun _ _ _ h => h) (Or.inl ⟨?hwd3, ?hyd3⟩) (by assumption) ?hrd3
            case hid3 => simp only [List.getElem?_toArray, List.getElem?_cons_succ, List.getElem?_cons_zero]; rfl
            case hwd3 => rfl
            case hyd3 => intro wq hSq; (try dsimp only at hSq); go_simp; (try with_reducible rfl)
            try simp only [Act.put, List.setIfInBounds_toArray, List.set_cons_zero, List.set_cons_succ]
            refine wpAnyH_take (i := 4) (oi := ?oid4) (v := ?vd4) ?hid4 (by kernel_rfl) (by kernel_rfl) (by kernel_rfl) (fun _ _ _ h => h) (Or.inl ⟨?hwd4, ?hyd4⟩) (by assumption) ?hrd4
            case hid4 => simp only [List.getElem?_toArray, List.getElem?_cons_succ, List.getElem?_cons_zero]; rfl
            case hwd4 => rfl
            case hyd4 => intro wq hSq; (try dsimp only at hSq); go_simp; (try with_reducible rfl)
            try simp only [Act.put, List.setIfInBounds_toArray, List.set_cons_zero, List.set_cons_succ]
            refine wpAnyH_take (i := 5) (oi := ?oid5) (v := ?vd5) ?hid5 (by kernel_rfl) (by kernel_rfl) (by kernel_rfl) (fun _ _ _ h => h) (Or.inl ⟨?hwd5, ?hyd5⟩) (by assumption) ?hrd5
            case hid5 => simp only [List.getElem?_toArray, List.getElem?_cons_succ, List.getElem?_cons_zero]; rfl
            case hwd5 => rfl
            case hyd5 => intro wq hSq; (try dsimp only at hSq); go_simp; (try with_reducible rfl)
            try simp only [Act.put, List.setIfInBounds_toArray, List.set_cons_zero, List.set_cons_succ]
            refine wpAnyH_take (i := 6) (oi := ?oid6) (v := ?vd6) ?hid6 (by kernel_rfl) (by kernel_rfl) (by kernel_rfl) (fun _ _ _ h => h) (Or.inl ⟨?hwd6, ?hyd6⟩) (by assumption) ?hrd6
            case hid6 => simp only [List.getElem?_toArray, List.getElem?_cons_succ, List.getElem?_cons_zero]; rfl
            case hwd6 => rfl
            case hyd6 => intro wq hSq; (try dsimp only at hSq); go_simp; (try with_reducible rfl)
            try simp only [Act.put, List.setIfInBounds_toArray, List.set_cons_zero, List.set_cons_succ]
            refine wpAnyH_ready (rs := [7]) (by kernel_rfl) (by simp) ?_
            refine AllReadyH.cons rfl (fun K hK => ?_) AllReadyH.nil
            go_simp
            refine HG.out.mono ?_
            rintro e w8 ⟨a8, c8, rfl, O8, C8⟩
            have e8 := fun wx => conv_bytes (ao := a8) (m := gn) (c := c8) (xs := ys) wx
            rw [HW1.out] at e8
            have hHeld2 : (fun w' => (Src w' a6 gn c6 (u8s ys) 1 ∧ w'.cell? ⟨ag, 1, none⟩ = some (.int .i64 ad) ∧ w'.cell? ⟨ag, 2, none⟩ = some (.int .i64 asz)) ∧ Src w' a8 gn c8 (u8s ys) 1) _ := ⟨⟨HSV.out.1.chg C8 (fun _ _ h => h), C8.cell HSV.out.2.1 (fun h => h), C8.cell HSV.out.2.2 (fun h => h)⟩, own_src O8⟩
            refine hK.out _ _ hHeld2.1 (fun _ => wpAnyH_mono (S2 := fun w' => (Src w' a6 gn c6 (u8s ys) 1 ∧ w'.cell? ⟨ag, 1, none⟩ = some (.int .i64 ad) ∧ w'.cell? ⟨ag, 2, none⟩ = some (.int .i64 asz)) ∧ Src w' a8 gn c8 (u8s ys) 1) (fun _ h => h.1) _ _ _ _ ?_)
            clear hK K hHeld
            try simp only [Act.put, List.setIfInBounds_toArray, List.set_cons_zero, List.set_cons_succ]
            refine wpAnyH_take (i := 8) (oi := ?oid8) (v := ?vd8) ?hid8 (by kernel_rfl) (by kernel_rfl) (by kernel_rfl) (fun _ _ _ h => h) (Or.inl ⟨?hwd8, ?hyd8⟩) (by assumption) ?hrd8
            case hid8 => simp only [List.getElem?_toArray, List.getElem?_cons_succ, List.getElem?_cons_zero]; rfl
            case hwd8 => rfl
            case hyd8 => intro wq hSq; (try dsimp only at hSq); go_simp; (try with_reducible rfl)
            try simp only [Act.put, List.setIfInBounds_toArray, List.set_cons_zero, List.set_cons_succ]
            refine wpAnyH_take (i := 9) (oi := ?oid9) (v := ?vd9) ?hid9 (by kernel_rfl) (by kernel_rfl) (by kernel_rfl) (fun _ _ _ h => h) (Or.inl ⟨?hwd9, ?hyd9⟩) (by assumption) ?hrd9
            case hid9 => simp only [List.getElem?_toArray, List.getElem?_cons_succ, List.getElem?_cons_zero]; rfl
            case hwd9 => rfl
            case hyd9 => intro wq hSq; (try dsimp only at hSq); go_simp; (try with_reducible rfl)
            try simp only [Act.put, List.setIfInBounds_toArray, List.set_cons_zero, List.set_cons_succ]
            refine wpAnyH_done (by kernel_rfl) ?_ _
            refine NoPanic.normal ?_
            have C68 : Chg w6 w8 (fun _ => False) := ((Chg.refl w6 (fun _ => False)).drew).trans C8
            have ON := own_chg O6 C68 (fun _ _ h => h)
            have PN := P6.keep C68
            have HPB := Lib.hid P4
            clear hHeld2
            go_wp2_with fail

            go_loopw [16] (fun i wx => ∃ q : Nat, q ≤ gn ∧ i = .int .i64 q ∧ (∃ zs : List Int, wx.ownsRow w4.heap.size 5 1 (.slice a6 gn c6) gn (u8s zs)) ∧ MS w n am bm ao2 bo2 ar br (f) (f) wx) (fun i _ => gn - (intOf i).toNat)
            case atStart => exact ⟨0, by omega, rfl, ⟨_, ON⟩, PN⟩
            case round =>
              obtain ⟨q, hq, rfl, ⟨zs, Oq⟩, Pq⟩ := hrel
              by_cases hlq : q < gn
              case neg =>
                have hql : q = gn := by omega
                subst hql
                go_wp2_with fail
                go_meet
                exact ⟨_, Pq⟩
              have d4 : decide ((q : Int) < (gn : Int)) = true := decide_eq_true (by omega)
              have hq0 : (0 : Int) ≤ (q : Int) := by omega
              have hq1 : (q : Int) < (gn : Int) := by omega
              by_cases h5 : q < 5000
              case neg =>
                have d5 : decide ((q : Int) < 5000) = false := decide_eq_false (by omega)
                clear h5
                go_wp2_with fail
                go_meet
                exact ⟨_, Pq⟩
              have d5 : decide ((q : Int) < 5000) = true := decide_eq_true (by omega)
              obtain ⟨g, cap2, hv, hg1, hg2, _, _⟩ := own_block Oq (by omega)
              injection hv with e1 e2 e3
              subst e1 e3
              have hzl : zs.length = gn := by have := Oq.1; simpa [u8s] using this
              have dd : wr.cell? ⟨g, q, none⟩ = some (.int .u8 zs[q]) := own_cells Oq _ _ (by simp [u8s, hzl, hlq])
              have ff := own_frozen Oq q
              obtain ⟨zq, hzq⟩ : ∃ z, zs[q] = z := ⟨_, rfl⟩
              rw [hzq] at dd
              clear hzq
              go_wp2_with fail
              go_roundw
              case rel => exact ⟨q + 1, by omega, by go_num, ⟨zs.set q _, by rw [← u8s_set]; exact own_setB Oq q _⟩, Pq.keep1 ((Chg.refl wr (fun k => k = g)).setCell (p := ⟨g, q, none⟩) (fun _ => rfl) _) HPB.out hg1⟩
              case measure => simp [intOf]; omega
        skip
        as_aux_lemma =>
          have g2 : (aw == 2) = false := beq_eq_false_iff_ne.2 w2'
          clear w0 w1' w2'
          by_cases hbig : 10000 < bm1
          case pos =>
            have d0 : decide ((10000 : Int) < (bm1 : Int)) = true := decide_eq_true (by omega)
            clear hbig
            go_wp2_with fail
            go_ret
            exact ⟨rfl, P4.b⟩
          have d0 : decide ((10000 : Int) < (bm1 : Int)) = false := decide_eq_false (by omega)
          obtain ⟨base, hbase⟩ : ∃ base, w4.heap.size = base := ⟨_, rfl⟩
          have ON0 := World.ownsRow_nil w4 w4.heap.size 5 1
          have S5 := HS0.out.chg (Chg.of_below P4.b (fun _ => False)) (fun _ _ h => h)
          have qb : (okR n ad bm1 != okR n ad bm1) = false := by simp
          go_wp2_with (at_builtin; go_loud (refine wpList_append_src _ rfl (.const (.slice none 0 0)) (.tmp 76) _ rfl w4.heap.size 5 i0 _ 1 1 Try.underlying36 hi0 hz0 hz1 hz2 rfl (by omega) _ 0 _ rfl ON0 _ bm1 bc _ rfl S5 (u8s_one _) (by unfold maxLen; omega) (by omega) (by omega) ?_; intro v7 w7 O7 hgr7; rw [Nat.zero_add, List.nil_append] at O7; have C7 : Chg w4 w7 (fun _ => False) := Chg.of_grown hgr7 (fun j hj _ => by cases hj); have P7 := P4.keep C7; have B7 := B4.chg C7 (fun h => h); have S7 := S5.chg C7 (fun _ _ h => h); obtain ⟨a7, c7, rfl, hb1, hb2, hb3, hb4⟩ := own_form O7; rw [hbase] at O7; clear hgr7))
          have HOW : Hid ((∀ k, (Value.slice a7 bm1 c7).ownBlock = some k → ¬ k = bm) ∧ (∀ k, (Value.slice a7 bm1 c7).ownBlock = some k → ¬ k = br)) := by
            have hlt := P4.lt
            exact ⟨fun k hk => by have := (O7.lt k hk).1; omega, fun k hk => by have := (O7.lt k hk).1; omega⟩
          refine wp_region_noPanic ?_
          refine seq2_begin (fun L : Array Bool => (fun x y wx => MS w n am bm ao2 bo2 ar br (cond x (ptV n f ad xs) f) (cond y (ptV n f ad xs) f) wx ∧ Box wx ag 40 #[.int .i64 aw, .int .i64 ad, .int .i64 asz, .int .i64 av, .slice bo bm1 bc] ∧ wx.ownsRow base 5 1 (.slice a7 bm1 c7) bm1 (u8s xs) ∧ Src wx bo bm1 bc (u8s xs) 1) (L.getD 4 false) (L.getD 10 false)) (by kernel_rfl) (⟨P7.keep ((Chg.refl _ _).drew), B7.drew, O7, S7.drew⟩) ?_
          refine seq2_op 0 (oi := ?oc0) (v := ?vc0) ?hc0 (by kernel_rfl) (by kernel_rfl) (by kernel_rfl) (fun _ _ _ h => h) ?w40 (fun L => flags_keep (fun x y wx => MS w n am bm ao2 bo2 ar br (cond x (ptV n f ad xs) f) (cond y (ptV n f ad xs) f) wx ∧ Box wx ag 40 #[.int .i64 aw, .int .i64 ad, .int .i64 asz, .int .i64 av, .slice bo bm1 bc] ∧ wx.ownsRow base 5 1 (.slice a7 bm1 c7) bm1 (u8s xs) ∧ Src wx bo bm1 bc (u8s xs) 1) 4 10 0 (by decide) (by decide) L) (fun K L wq hS hK => ?yc0) ?rc0
          case hc0 => simp only [List.getElem?_toArray, List.getElem?_cons_succ, List.getElem?_cons_zero]; rfl
          case w40 => rfl
          case yc0 =>
            have HS := Lib.hid hS
            clear hS
            go_simp
            exact hK.out _ HS.out
          try simp only [Act.put, List.setIfInBounds_toArray, List.set_cons_zero, List.set_cons_succ]
          refine seq2_op 1 (oi := ?oc1) (v := ?vc1) ?hc1 (by kernel_rfl) (by kernel_rfl) (by kernel_rfl) (fun _ _ _ h => h) ?w41 (fun L => flags_keep (fun x y wx => MS w n am bm ao2 bo2 ar br (cond x (ptV n f ad xs) f) (cond y (ptV n f ad xs) f) wx ∧ Box wx ag 40 #[.int .i64 aw, .int .i64 ad, .int .i64 asz, .int .i64 av, .slice bo bm1 bc] ∧ wx.ownsRow base 5 1 (.slice a7 bm1 c7) bm1 (u8s xs) ∧ Src wx bo bm1 bc (u8s xs) 1) 4 10 1 (by decide) (by decide) L) (fun K L wq hS hK => ?yc1) ?rc1
          case hc1 => simp only [List.getElem?_toArray, List.getElem?_cons_succ, List.getElem?_cons_zero]; rfl
          case w41 => rfl
          case yc1 =>
            have HS := Lib.hid hS
            clear hS
            go_simp
            exact hK.out _ HS.out
          try simp only [Act.put, List.setIfInBounds_toArray, List.set_cons_zero, List.set_cons_succ]
          refine seq2_op 2 (oi := ?oc2) (v := ?vc2) ?hc2 (by kernel_rfl) (by kernel_rfl) (by kernel_rfl) (fun _ _ _ h => h) ?w42 (fun L => flags_keep (fun x y wx => MS w n am bm ao2 bo2 ar br (cond x (ptV n f ad xs) f) (cond y (ptV n f ad xs) f) wx ∧ Box wx ag 40 #[.int .i64 aw, .int .i64 ad, .int .i64 asz, .int .i64 av, .slice bo bm1 bc] ∧ wx.ownsRow base 5 1 (.slice a7 bm1 c7) bm1 (u8s xs) ∧ Src wx bo bm1 bc (u8s xs) 1) 4 10 2 (by decide) (by decide) L) (fun K L wq hS hK => ?yc2) ?rc2
          case hc2 => simp only [List.getElem?_toArray, List.getElem?_cons_succ, List.getElem?_cons_zero]; rfl
          case w42 => rfl
          case yc2 =>
            have HS := Lib.hid hS
            have cc : wq.cell? ⟨ag, 1, none⟩ = some (.int .i64 ad) := (show _ ∧ _ from hS).2.1.cell 1
            clear hS
            go_simp
            have hS2 := HS.out
            exact hK.out _ hS2
          try simp only [Act.put, List.setIfInBounds_toArray, List.set_cons_zero, List.set_cons_succ]
          refine seq2_op 3 (oi := ?oc3) (v := ?vc3) ?hc3 (by kernel_rfl) (by kernel_rfl) (by kernel_rfl) (fun _ _ _ h => h) ?w43 (fun L => flags_keep (fun x y wx => MS w n am bm ao2 bo2 ar br (cond x (ptV n f ad xs) f) (cond y (ptV n f ad xs) f) wx ∧ Box wx ag 40 #[.int .i64 aw, .int .i64 ad, .int .i64 asz, .int .i64 av, .slice bo bm1 bc] ∧ wx.ownsRow base 5 1 (.slice a7 bm1 c7) bm1 (u8s xs) ∧ Src wx bo bm1 bc (u8s xs) 1) 4 10 3 (by decide) (by decide) L) (fun K L wq hS hK => ?yc3) ?rc3
          case hc3 => simp only [List.getElem?_toArray, List.getElem?_cons_succ, List.getElem?_cons_zero]; rfl
          case w43 => rfl
          case yc3 =>
            have HS := Lib.hid hS
            clear hS
            go_simp
            exact hK.out _ HS.out
          try simp only [Act.put, List.setIfInBounds_toArray, List.set_cons_zero, List.set_cons_succ]
          refine seq2_turn 4 (oi := ?oc4) (v := ?vc4) ?hc4 (by kernel_rfl) (by kernel_rfl) (by kernel_rfl) (fun _ _ _ h => h) ?w44 (fun K L wq hL hS hK => ?yc4) ?rc4
          case hc4 => simp only [List.getElem?_toArray, List.getElem?_cons_succ, List.getElem?_cons_zero]; rfl
          case w44 => rfl
          case yc4 =>
            have h0 := (show _ ∧ _ from hS)
            have h1 := h0.1
            have hB := h0.2
            rw [flag_off hL] at h1
            have H1 := Lib.hid h1
            have HB := Lib.hid hB
            have HL := Lib.hid hL
            clear hS h1 hB hL h0
            go_simp
            refine (H1.out.putM ad bm1 c7 a7 xs (own_src HB.out.2.1) HX.out).mono ?_
            rintro e w8 ⟨rfl, P8, C8⟩
            have hS2 : MS w n am bm ao2 bo2 ar br (cond ((L.setIfInBounds 4 true).getD 4 false) (ptV n f ad xs) f) (cond ((L.setIfInBounds 4 true).getD 10 false) (ptV n f ad xs) f) w8 ∧ Box w8 ag 40 #[.int .i64 aw, .int .i64 ad, .int .i64 asz, .int .i64 av, .slice bo bm1 bc] ∧ w8.ownsRow base 5 1 (.slice a7 bm1 c7) bm1 (u8s xs) ∧ Src w8 bo bm1 bc (u8s xs) 1 := ⟨by rw [flag_on HL.out, getD_set_ne (i := 4) (j := 10) false (by decide)]; exact P8, HB.out.1.chg C8 HAG.out.1, own_chg HB.out.2.1 C8 HOW.out.1, src_chg0 HB.out.2.2 C8 HBO.out.1⟩
            exact hK.out _ hS2
          try simp only [Act.put, List.setIfInBounds_toArray, List.set_cons_zero, List.set_cons_succ]
          refine seq2_op 5 (oi := ?oc5) (v := ?vc5) ?hc5 (by kernel_rfl) (by kernel_rfl) (by kernel_rfl) (fun _ _ _ h => h) ?w45 (fun L => flags_keep (fun x y wx => MS w n am bm ao2 bo2 ar br (cond x (ptV n f ad xs) f) (cond y (ptV n f ad xs) f) wx ∧ Box wx ag 40 #[.int .i64 aw, .int .i64 ad, .int .i64 asz, .int .i64 av, .slice bo bm1 bc] ∧ wx.ownsRow base 5 1 (.slice a7 bm1 c7) bm1 (u8s xs) ∧ Src wx bo bm1 bc (u8s xs) 1) 4 10 5 (by decide) (by decide) L) (fun K L wq hS hK => ?yc5) ?rc5
          case hc5 => simp only [List.getElem?_toArray, List.getElem?_cons_succ, List.getElem?_cons_zero]; rfl
          case w45 => rfl
          case yc5 =>
            have HS := Lib.hid hS
            clear hS
            go_simp
            exact hK.out _ HS.out
          try simp only [Act.put, List.setIfInBounds_toArray, List.set_cons_zero, List.set_cons_succ]
          refine seq2_op 6 (oi := ?oc6) (v := ?vc6) ?hc6 (by kernel_rfl) (by kernel_rfl) (by kernel_rfl) (fun _ _ _ h => h) ?w46 (fun L => flags_keep (fun x y wx => MS w n am bm ao2 bo2 ar br (cond x (ptV n f ad xs) f) (cond y (ptV n f ad xs) f) wx ∧ Box wx ag 40 #[.int .i64 aw, .int .i64 ad, .int .i64 asz, .int .i64 av, .slice bo bm1 bc] ∧ wx.ownsRow base 5 1 (.slice a7 bm1 c7) bm1 (u8s xs) ∧ Src wx bo bm1 bc (u8s xs) 1) 4 10 6 (by decide) (by decide) L) (fun K L wq hS hK => ?yc6) ?rc6
          case hc6 => simp only [List.getElem?_toArray, List.getElem?_cons_succ, List.getElem?_cons_zero]; rfl
          case w46 => rfl
          case yc6 =>
            have HS := Lib.hid hS
            clear hS
            go_simp
            exact hK.out _ HS.out
          try simp only [Act.put, List.setIfInBounds_toArray, List.set_cons_zero, List.set_cons_succ]
          refine seq2_op 7 (oi := ?oc7) (v := ?vc7) ?hc7 (by kernel_rfl) (by kernel_rfl) (by kernel_rfl) (fun _ _ _ h => h) ?w47 (fun L => flags_keep (fun x y wx => MS w n am bm ao2 bo2 ar br (cond x (ptV n f ad xs) f) (cond y (ptV n f ad xs) f) wx ∧ Box wx ag 40 #[.int .i64 aw, .int .i64 ad, .int .i64 asz, .int .i64 av, .slice bo bm1 bc] ∧ wx.ownsRow base 5 1 (.slice a7 bm1 c7) bm1 (u8s xs) ∧ Src wx bo bm1 bc (u8s xs) 1) 4 10 7 (by decide) (by decide) L) (fun K L wq hS hK => ?yc7) ?rc7
          case hc7 => simp only [List.getElem?_toArray, List.getElem?_cons_succ, List.getElem?_cons_zero]; rfl
          case w47 => rfl
          case yc7 =>
            have HS := Lib.hid hS
            have cc : wq.cell? ⟨ag, 1, none⟩ = some (.int .i64 ad) := (show _ ∧ _ from hS).2.1.cell 1
            clear hS
            go_simp
            have hS2 := HS.out
            exact hK.out _ hS2
          try simp only [Act.put, List.setIfInBounds_toArray, List.set_cons_zero, List.set_cons_succ]
          refine seq2_op 8 (oi := ?oc8) (v := ?vc8) ?hc8 (by kernel_rfl) (by kernel_rfl) (by kernel_rfl) (fun _ _ _ h => h) ?w48 (fun L => flags_keep (fun x y wx => MS w n am bm ao2 bo2 ar br (cond x (ptV n f ad xs) f) (cond y (ptV n f ad xs) f) wx ∧ Box wx ag 40 #[.int .i64 aw, .int .i64 ad, .int .i64 asz, .int .i64 av, .slice bo bm1 bc] ∧ wx.ownsRow base 5 1 (.slice a7 bm1 c7) bm1 (u8s xs) ∧ Src wx bo bm1 bc (u8s xs) 1) 4 10 8 (by decide) (by decide) L) (fun K L wq hS hK => ?yc8) ?rc8
          case hc8 => simp only [List.getElem?_toArray, List.getElem?_cons_succ, List.getElem?_cons_zero]; rfl
          case w48 => rfl
          case yc8 =>
            have HS := Lib.hid hS
            clear hS
            go_simp
            exact hK.out _ HS.out
          try simp only [Act.put, List.setIfInBounds_toArray, List.set_cons_zero, List.set_cons_succ]
          refine seq2_op 9 (oi := ?oc9) (v := ?vc9) ?hc9 (by kernel_rfl) (by kernel_rfl) (by kernel_rfl) (fun _ _ _ h => h) ?w49 (fun L => flags_keep (fun x y wx => MS w n am bm ao2 bo2 ar br (cond x (ptV n f ad xs) f) (cond y (ptV n f ad xs) f) wx ∧ Box wx ag 40 #[.int .i64 aw, .int .i64 ad, .int .i64 asz, .int .i64 av, .slice bo bm1 bc] ∧ wx.ownsRow base 5 1 (.slice a7 bm1 c7) bm1 (u8s xs) ∧ Src wx bo bm1 bc (u8s xs) 1) 4 10 9 (by decide) (by decide) L) (fun K L wq hS hK => ?yc9) ?rc9
          case hc9 => simp only [List.getElem?_toArray, List.getElem?_cons_succ, List.getElem?_cons_zero]; rfl
          case w49 => rfl
          case yc9 =>
            have HS := Lib.hid hS
            have cc : wq.cell? ⟨ag, 4, none⟩ = some (.slice bo bm1 bc) := (show _ ∧ _ from hS).2.1.cell 4
            clear hS
            go_simp
            have hS2 := HS.out
            exact hK.out _ hS2
          try simp only [Act.put, List.setIfInBounds_toArray, List.set_cons_zero, List.set_cons_succ]
          refine seq2_turn 10 (oi := ?oc10) (v := ?vc10) ?hc10 (by kernel_rfl) (by kernel_rfl) (by kernel_rfl) (fun _ _ _ h => h) ?w410 (fun K L wq hL hS hK => ?yc10) ?rc10
          case hc10 => simp only [List.getElem?_toArray, List.getElem?_cons_succ, List.getElem?_cons_zero]; rfl
          case w410 => rfl
          case yc10 =>
            have h0 := (show _ ∧ _ from hS)
            have h1 := h0.1
            have hB := h0.2
            rw [flag_off hL] at h1
            have H1 := Lib.hid h1
            have HB := Lib.hid hB
            have HL := Lib.hid hL
            clear hS h1 hB hL h0
            go_simp
            refine (H1.out.putR ad bm1 bc bo xs HB.out.2.2 HX.out).mono ?_
            rintro e w8 ⟨rfl, P8, C8⟩
            have hS2 : MS w n am bm ao2 bo2 ar br (cond ((L.setIfInBounds 10 true).getD 4 false) (ptV n f ad xs) f) (cond ((L.setIfInBounds 10 true).getD 10 false) (ptV n f ad xs) f) w8 ∧ Box w8 ag 40 #[.int .i64 aw, .int .i64 ad, .int .i64 asz, .int .i64 av, .slice bo bm1 bc] ∧ w8.ownsRow base 5 1 (.slice a7 bm1 c7) bm1 (u8s xs) ∧ Src w8 bo bm1 bc (u8s xs) 1 := ⟨by rw [flag_on HL.out, getD_set_ne (i := 10) (j := 4) false (by decide)]; exact P8, HB.out.1.chg C8 HAG.out.2, own_chg HB.out.2.1 C8 HOW.out.2, src_chg0 HB.out.2.2 C8 HBO.out.2⟩
            exact hK.out _ hS2
          try simp only [Act.put, List.setIfInBounds_toArray, List.set_cons_zero, List.set_cons_succ]
          refine seq2_op 11 (oi := ?oc11) (v := ?vc11) ?hc11 (by kernel_rfl) (by kernel_rfl) (by kernel_rfl) (fun _ _ _ h => h) ?w411 (fun L => flags_keep (fun x y wx => MS w n am bm ao2 bo2 ar br (cond x (ptV n f ad xs) f) (cond y (ptV n f ad xs) f) wx ∧ Box wx ag 40 #[.int .i64 aw, .int .i64 ad, .int .i64 asz, .int .i64 av, .slice bo bm1 bc] ∧ wx.ownsRow base 5 1 (.slice a7 bm1 c7) bm1 (u8s xs) ∧ Src wx bo bm1 bc (u8s xs) 1) 4 10 11 (by decide) (by decide) L) (fun K L wq hS hK => ?yc11) ?rc11
          case hc11 => simp only [List.getElem?_toArray, List.getElem?_cons_succ, List.getElem?_cons_zero]; rfl
          case w411 => rfl
          case yc11 =>
            have HS := Lib.hid hS
            clear hS
            go_simp
            exact hK.out _ HS.out
          try simp only [Act.put, List.setIfInBounds_toArray, List.set_cons_zero, List.set_cons_succ]
          refine seq2_done (by kernel_rfl) (fun wz hSz => ?_) _
          refine NoPanic.normal ?_
          have P8 : MS w n am bm ao2 bo2 ar br (ptV n f ad xs) (ptV n f ad xs) wz := (show _ ∧ _ from hSz).1
          have ON := (show _ ∧ _ from hSz).2.2.1
          clear hSz
          obtain ⟨f1, hf1⟩ : ∃ f1, ptV n f ad xs = f1 := ⟨_, rfl⟩
          rw [hf1] at P8
          have PN := P8
          have HPB := Lib.hid P4
          rw [← hbase] at ON
          go_wp2_with fail

          go_loopw [18] (fun i wx => ∃ q : Nat, q ≤ bm1 ∧ i = .int .i64 q ∧ (∃ zs : List Int, wx.ownsRow w4.heap.size 5 1 (.slice a7 bm1 c7) bm1 (u8s zs)) ∧ MS w n am bm ao2 bo2 ar br (f1) (f1) wx) (fun i _ => bm1 - (intOf i).toNat)
          case atStart => exact ⟨0, by omega, rfl, ⟨_, ON⟩, PN⟩
          case round =>
            obtain ⟨q, hq, rfl, ⟨zs, Oq⟩, Pq⟩ := hrel
            by_cases hlq : q < bm1
            case neg =>
              have hql : q = bm1 := by omega
              subst hql
              go_wp2_with fail
              go_meet
              exact ⟨_, Pq⟩
            have d4 : decide ((q : Int) < (bm1 : Int)) = true := decide_eq_true (by omega)
            have hq0 : (0 : Int) ≤ (q : Int) := by omega
            have hq1 : (q : Int) < (bm1 : Int) := by omega
            obtain ⟨g, cap2, hv, hg1, hg2, _, _⟩ := own_block Oq (by omega)
            injection hv with e1 e2 e3
            subst e1 e3
            have hzl : zs.length = bm1 := by have := Oq.1; simpa [u8s] using this
            have dd : wr.cell? ⟨g, q, none⟩ = some (.int .u8 zs[q]) := own_cells Oq _ _ (by simp [u8s, hzl, hlq])
            have ff := own_frozen Oq q
            obtain ⟨zq, hzq⟩ : ∃ z, zs[q] = z := ⟨_, rfl⟩
            rw [hzq] at dd
            clear hzq
            go_wp2_with fail
            go_roundw
            case rel => exact ⟨q + 1, by omega, by go_num, ⟨zs.set q _, by rw [← u8s_set]; exact own_setB Oq q _⟩, Pq.keep1 ((Chg.refl wr (fun k => k = g)).setCell (p := ⟨g, q, none⟩) (fun _ => rfl) _) HPB.out hg1⟩
            case measure => simp [intOf]; omega
      case rest =>
        obtain ⟨f2, P9⟩ := hcut
        go_wp2_with fail
        go_roundw
        case rel => exact ⟨j + 1, f2, by omega, by go_num, P9⟩
        case measure => simp [intOf]; omega
    · skip
      as_aux_lemma =>
        have h5 : j = l.length := by omega
        subst h5
        obtain ⟨ys, hys⟩ : ∃ ys, sl f 0 n = ys := ⟨_, rfl⟩
        have G := get_any (Pj.keep ((Chg.refl wr (fun _ => False)).drew)).m 0 n
        rw [show getN n 0 n = n from by unfold getN; rw [show okR n 0 n = true from decide_eq_true (by omega)]; rfl, show (0 : Int).toNat = 0 from rfl, hys] at G
        have HG := Lib.hid G
        have HMD := Lib.hid (Pj.keep ((Chg.refl wr (fun _ => False)).drew)).m
        have e6 := fun wx => conv_bytes (ao := some ⟨br, 0, none⟩) (m := n) (c := n) (xs := ys) wx
        obtain ⟨st, hst⟩ : ∃ st, strOfNums ys = st := ⟨_, rfl⟩
        rw [hst] at e6
        have HW1 := Lib.hid hst
        have sr : Src wr (some ⟨br, 0, none⟩) n n (u8s ys) 1 := by rw [← hys]; exact mem_src Pj.r 0 n n (by omega)
        have HSV := Lib.hid (show Src wr.drew (some ⟨br, 0, none⟩) n n (u8s ys) 1 ∧ wr.drew.cell? ⟨ar, 0, none⟩ = some (.slice (some ⟨br, 0, none⟩) n n) from ⟨sr.drew, Pj.r.cell0⟩)
        clear G hys hst sr
        go_wp2_with fail
        refine wp_region_noPanic ?_
        refine wp_region_held_drew (S := fun w' => Src w' (some ⟨br, 0, none⟩) n n (u8s ys) 1 ∧ w'.cell? ⟨ar, 0, none⟩ = some (.slice (some ⟨br, 0, none⟩) n n)) (by kernel_rfl) (HSV.out) (fun hHeld => ?_)
        refine wpAnyH_take (i := 0) (oi := ?oie0) (v := ?ve0) ?hie0 (by kernel_rfl) (by kernel_rfl) (by kernel_rfl) (fun _ _ _ h => h) (Or.inl ⟨?hwe0, ?hye0⟩) (by assumption) ?hre0
        case hie0 => simp only [List.getElem?_toArray, List.getElem?_cons_succ, List.getElem?_cons_zero]; rfl
        case hwe0 => rfl
        case hye0 => intro wq hSq; (try dsimp only at hSq); go_simp; (try with_reducible rfl)
        try simp only [Act.put, List.setIfInBounds_toArray, List.set_cons_zero, List.set_cons_succ]
        refine wpAnyH_take (i := 1) (oi := ?oie1) (v := ?ve1) ?hie1 (by kernel_rfl) (by kernel_rfl) (by kernel_rfl) (fun _ _ _ h => h) (Or.inl ⟨?hwe1, ?hye1⟩) (by assumption) ?hre1
        case hie1 => simp only [List.getElem?_toArray, List.getElem?_cons_succ, List.getElem?_cons_zero]; rfl
        case hwe1 => rfl
        case hye1 => intro wq hSq; (try dsimp only at hSq); go_simp; (try with_reducible rfl)
        try simp only [Act.put, List.setIfInBounds_toArray, List.set_cons_zero, List.set_cons_succ]
        refine wpAnyH_take (i := 5) (oi := ?oie5) (v := ?ve5) ?hie5 (by kernel_rfl) (by kernel_rfl) (by kernel_rfl) (fun _ _ _ h => h) (Or.inl ⟨?hwe5, ?hye5⟩) (by assumption) ?hre5
        case hie5 => simp only [List.getElem?_toArray, List.getElem?_cons_succ, List.getElem?_cons_zero]; rfl
        case hwe5 => rfl
        case hye5 => intro wq hSq; (try dsimp only at hSq); go_simp; (try with_reducible rfl)
        try simp only [Act.put, List.setIfInBounds_toArray, List.set_cons_zero, List.set_cons_succ]
        refine wpAnyH_take (i := 6) (oi := ?oie6) (v := ?ve6) ?hie6 (by kernel_rfl) (by kernel_rfl) (by kernel_rfl) (fun _ _ _ h => h) (Or.inl ⟨?hwe6, ?hye6⟩) (by assumption) ?hre6
        case hie6 => simp only [List.getElem?_toArray, List.getElem?_cons_succ, List.getElem?_cons_zero]; rfl
        case hwe6 => rfl
        case hye6 => intro wq hSq; (try dsimp only at hSq); go_simp; (try with_reducible rfl)
        try simp only [Act.put, List.setIfInBounds_toArray, List.set_cons_zero, List.set_cons_succ]
        refine wpAnyH_take (i := 7) (oi := ?oie7) (v := ?ve7) ?hie7 (by kernel_rfl) (by kernel_rfl) (by kernel_rfl) (fun _ _ _ h => h) (Or.inl ⟨?hwe7, ?hye7⟩) (by assumption) ?hre7
        case hie7 => simp only [List.getElem?_toArray, List.getElem?_cons_succ, List.getElem?_cons_zero]; rfl
        case hwe7 => rfl
        case hye7 => intro wq hSq; (try dsimp only at hSq); go_simp; (try with_reducible rfl)
        try simp only [Act.put, List.setIfInBounds_toArray, List.set_cons_zero, List.set_cons_succ]
        refine wpAnyH_take (i := 8) (oi := ?oie8) (v := ?ve8) ?hie8 (by kernel_rfl) (by kernel_rfl) (by kernel_rfl) (fun _ _ _ h => h) (Or.inl ⟨?hwe8, ?hye8⟩) (by assumption) ?hre8
        case hie8 => simp only [List.getElem?_toArray, List.getElem?_cons_succ, List.getElem?_cons_zero]; rfl
        case hwe8 => rfl
        case hye8 => intro wq hSq; (try dsimp only at hSq); go_simp; (try with_reducible rfl)
        try simp only [Act.put, List.setIfInBounds_toArray, List.set_cons_zero, List.set_cons_succ]
        refine wpAnyH_take (i := 9) (oi := ?oie9) (v := ?ve9) ?hie9 (by kernel_rfl) (by kernel_rfl) (by kernel_rfl) (fun _ _ _ h => h) (Or.inl ⟨?hwe9, ?hye9⟩) (by assumption) ?hre9
        case hie9 => simp only [List.getElem?_toArray, List.getElem?_cons_succ, List.getElem?_cons_zero]; rfl
        case hwe9 => rfl
        case hye9 => intro wq hSq; (try dsimp only at hSq); go_simp; (try with_reducible rfl)
        try simp only [Act.put, List.setIfInBounds_toArray, List.set_cons_zero, List.set_cons_succ]
        refine wpAnyH_ready (rs := [2]) (by kernel_rfl) (by simp) ?_
        refine AllReadyH.cons rfl (fun K hK => ?_) AllReadyH.nil
        go_simp
        refine (size_any HMD.out).mono ?_
        rintro e w7 ⟨rfl, rfl⟩
        have hHeld1 : (fun w' => (Src w' (some ⟨br, 0, none⟩) n n (u8s ys) 1 ∧ w'.cell? ⟨ar, 0, none⟩ = some (.slice (some ⟨br, 0, none⟩) n n)) ∧ True) _ := ⟨HSV.out, trivial⟩
        refine hK.out _ _ hHeld1.1 (fun _ => wpAnyH_mono (S2 := fun w' => (Src w' (some ⟨br, 0, none⟩) n n (u8s ys) 1 ∧ w'.cell? ⟨ar, 0, none⟩ = some (.slice (some ⟨br, 0, none⟩) n n)) ∧ True) (fun _ h => h.1) _ _ _ _ ?_)
        clear hK K hHeld
        try simp only [Act.put, List.setIfInBounds_toArray, List.set_cons_zero, List.set_cons_succ]
        refine wpAnyH_ready (rs := [3]) (by kernel_rfl) (by simp) ?_
        refine AllReadyH.cons rfl (fun K hK => ?_) AllReadyH.nil
        go_simp
        refine HG.out.mono ?_
        rintro e w8 ⟨a8, c8, rfl, O8, C8⟩
        have e8 := fun wx => conv_bytes (ao := a8) (m := n) (c := c8) (xs := ys) wx
        rw [HW1.out] at e8
        have hHeld2 : (fun w' => ((Src w' (some ⟨br, 0, none⟩) n n (u8s ys) 1 ∧ w'.cell? ⟨ar, 0, none⟩ = some (.slice (some ⟨br, 0, none⟩) n n)) ∧ True) ∧ Src w' a8 n c8 (u8s ys) 1) _ := ⟨⟨⟨HSV.out.1.chg C8 (fun _ _ h => h), C8.cell HSV.out.2 (fun h => h)⟩, trivial⟩, own_src O8⟩
        refine hK.out _ _ hHeld2.1 (fun _ => wpAnyH_mono (S2 := fun w' => ((Src w' (some ⟨br, 0, none⟩) n n (u8s ys) 1 ∧ w'.cell? ⟨ar, 0, none⟩ = some (.slice (some ⟨br, 0, none⟩) n n)) ∧ True) ∧ Src w' a8 n c8 (u8s ys) 1) (fun _ h => h.1) _ _ _ _ ?_)
        clear hK K hHeld1
        try simp only [Act.put, List.setIfInBounds_toArray, List.set_cons_zero, List.set_cons_succ]
        refine wpAnyH_take (i := 4) (oi := ?oie4) (v := ?ve4) ?hie4 (by kernel_rfl) (by kernel_rfl) (by kernel_rfl) (fun _ _ _ h => h) (Or.inl ⟨?hwe4, ?hye4⟩) (by assumption) ?hre4
        case hie4 => simp only [List.getElem?_toArray, List.getElem?_cons_succ, List.getElem?_cons_zero]; rfl
        case hwe4 => rfl
        case hye4 => intro wq hSq; (try dsimp only at hSq); go_simp; (try with_reducible rfl)
        try simp only [Act.put, List.setIfInBounds_toArray, List.set_cons_zero, List.set_cons_succ]
        refine wpAnyH_take (i := 10) (oi := ?oie10) (v := ?ve10) ?hie10 (by kernel_rfl) (by kernel_rfl) (by kernel_rfl) (fun _ _ _ h => h) (Or.inl ⟨?hwe10, ?hye10⟩) (by assumption) ?hre10
        case hie10 => simp only [List.getElem?_toArray, List.getElem?_cons_succ, List.getElem?_cons_zero]; rfl
        case hwe10 => rfl
        case hye10 => intro wq hSq; (try dsimp only at hSq); go_simp; (try with_reducible rfl)
        try simp only [Act.put, List.setIfInBounds_toArray, List.set_cons_zero, List.set_cons_succ]
        refine wpAnyH_take (i := 11) (oi := ?oie11) (v := ?ve11) ?hie11 (by kernel_rfl) (by kernel_rfl) (by kernel_rfl) (fun _ _ _ h => h) (Or.inl ⟨?hwe11, ?hye11⟩) (by assumption) ?hre11
        case hie11 => simp only [List.getElem?_toArray, List.getElem?_cons_succ, List.getElem?_cons_zero]; rfl
        case hwe11 => rfl
        case hye11 => intro wq hSq; (try dsimp only at hSq); go_simp; (try with_reducible rfl)
        try simp only [Act.put, List.setIfInBounds_toArray, List.set_cons_zero, List.set_cons_succ]
        refine wpAnyH_done (by kernel_rfl) ?_ _
        refine NoPanic.normal ?_
        go_wp2_with fail
        all_goals
          go_ret
          exact ⟨by simp, below_chg (below_chg Pj.b ((Chg.refl wr (fun _ => False)).drew) Pj.s (fun _ p => p.elim)) C8 Pj.s (fun _ p => p.elim)⟩


set_option maxRecDepth 100000 in
set_option maxHeartbeats 2000000 in
theorem plays_out {l : List BAct} {ao : Option Addr} {cap : Nat} (pages : Int) (w : World) (hL : Lst w ao l.length cap (l.flatMap bCells) 5) (hl : ¬ (l.length ≤ 100 ∧ pages ≤ 300)) :
    Calls Try.prog 5 #[.int .i64 pages, .slice ao l.length cap] w fun e w' => e = .returned (.bool true) ∧ Below w.heap.size w w' := by
  by_cases h : (l.length : Int) ≤ 100
  · have q0 : decide ((100 : Int) < (l.length : Int)) = false := decide_eq_false (by omega)
    have q1 : decide ((300 : Int) < pages) = true := decide_eq_true (by omega)
    go_enter Try.func5, Try.ntmps5
    go_wp2_with fail
    refine (alive4 _).mono ?_
    rintro e w1 ⟨rfl, B1⟩
    go_wp2_with fail
    go_ret
    exact ⟨rfl, B1⟩
  · have q0 : decide ((100 : Int) < (l.length : Int)) = true := decide_eq_true (by omega)
    go_enter Try.func5, Try.ntmps5
    go_wp2_with fail
    refine (alive4 _).mono ?_
    rintro e w1 ⟨rfl, B1⟩
    go_wp2_with fail
    go_ret
    exact ⟨rfl, B1⟩
end Go.Proofs.Ytmkhpahkcicfnaa

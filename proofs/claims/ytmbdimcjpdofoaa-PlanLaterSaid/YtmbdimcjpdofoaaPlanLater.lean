/- PlanLater: that each major frame is as the one ahead. No condition. -/
import Derived.Test.YtmbdimcjpdofoaaPlan4
import Derived.Test.YtmbdimcjpdofoaaPlanR
import Derived.Test.YtmbdimcjpdofoaaPlanLaw
import Derived.Test.YtmbdimcjpdofoaaPlanB2
import Derived.Test.YtmbdimcjpdofoaaBig
import Derived.Test.YtmbdimcjpdofoaaCfgArg
import Derived.Test.YtmbdimcjpdofoaaAlive15
import Derived.Test.YtmbdimcjpdofoaaSeq
import Derived.Test.YtmbdimcjpdofoaaRow
import Derived.Test.YtmbdimcjpdofoaaChkAt
namespace Go.Proofs.Ytmbdimcjpdofoaa
open Go.ChangeShapes Go.WideShapes Go.ChangeAt Go.RowKit

theorem later_steps {C : Cfg} (hF : WFine C) (hc : chk C = 0) (part t f n : Int) (h0 : 0 ≤ t) (h1 : 0 ≤ f * C.major) (h2 : t + f * C.major + n ≤ 1099511627776) (h3 : 0 ≤ n) : stepsV C part (t + f * C.major) (t + f * C.major + n) = stepsV C part t (t + n) := by
  unfold stepsV
  rw [if_pos ⟨by rw [tickB_two, hc, show okT (t + f * C.major) = true from decide_eq_true (by omega), show okT (t + f * C.major + n) = true from decide_eq_true (by omega)]; rfl, by omega⟩, if_pos ⟨by rw [tickB_two, hc, show okT t = true from decide_eq_true (by omega), show okT (t + n) = true from decide_eq_true (by omega)]; rfl, by omega⟩]
  rw [show t + f * C.major + n = (t + n) + f * C.major by omega, later_upto hF, later_upto hF]
  omega
theorem later_at {C : Cfg} (hF : WFine C) (hc : chk C = 0) (t f : Int) (h0 : 0 ≤ t) (h1 : 0 ≤ f * C.major) (h2 : t + f * C.major ≤ 1099511627776) : atV C (t + f * C.major) = atV C t ∧ tickB C [t] = true ∧ tickB C [t + f * C.major] = true := by
  have a : tickB C [t] = true := by unfold tickB; rw [hc, all_one, show okT t = true from decide_eq_true (by omega)]; rfl
  have b : tickB C [t + f * C.major] = true := by unfold tickB; rw [hc, all_one, show okT (t + f * C.major) = true from decide_eq_true (by omega)]; rfl
  refine ⟨?_, a, b⟩
  unfold atV
  rw [if_pos a, if_pos b, later_mod hF]

set_option maxRecDepth 100000 in
set_option maxHeartbeats 4000000 in
theorem planLater_any {C : Cfg} {ap ac aw : Option Addr} {cp cc cw : Nat} (part t fr : Int) (w : World) (h : CfgAt w C ap ac aw cp cc cw) :
    Calls Try.prog 7 #[.agg (cfgCells C ap ac aw cp cc cw), .int .i64 part, .int .i64 t, .int .i64 fr] w fun e w' => e = .returned (.bool true) ∧ Below w.heap.size w w' := by
  have HB := Box.new w 26 (cfgCells C ap ac aw cp cc cw)
  have HA := h.keep ((Chg.refl w (fun _ => False)).alloc (.cells (cfgCells C ap ac aw cp cc cw) 26))
  obtain ⟨w0, hw0⟩ : ∃ w0, w.alloc (.cells (cfgCells C ap ac aw cp cc cw) 26) = w0 := ⟨_, rfl⟩
  have C0 : Chg w w0 (fun _ => False) := by rw [← hw0]; exact (Chg.refl _ _).alloc _
  rw [hw0] at HB HA
  unfold cfgCells at *
  go_enter Try.func7, Try.ntmps7
  go_wp2_with fail
  clear hw0
  refine (alive15 _).mono ?_
  rintro e w1 ⟨rfl, C1⟩
  have HKB : ∀ w', Chg w0 w' (fun _ => False) → Box w' w.heap.size 26 #[.int .i64 C.pages, .int .i64 C.major, .int .i64 C.switch, .slice ap C.parts.length cp, .slice ac C.chans.length cc, .slice aw C.wins.length cw] := fun w' c => HB.chg c (fun h => h)
  replace HKB := Lib.hid HKB
  replace HA := Lib.hid HA
  clear HB
  have B := HKB.out _ C1
  have x0 := B.cell 0
  have x1 := B.cell 1
  have x2 := B.cell 2
  have x3 := B.cell 3
  have x4 := B.cell 4
  have x5 := B.cell 5
  clear B
  go_wp2_with fail
  refine (big_any _ (HA.out.keep C1)).mono ?_
  rintro e w2 ⟨rfl, C2'⟩
  have C2 := C1.trans C2'
  clear x0 x1 x2 x3 x4 x5 C2'
  cases hbig : bigV C
  case true =>
    clear hbig
    go_wp2_with fail
    go_ret
    exact ⟨rfl, (C0.trans C2).below_of (Nat.le_refl _) (fun _ h => h.elim)⟩
  clear hbig
  have B := HKB.out _ C2
  have x0 := B.cell 0
  have x1 := B.cell 1
  have x2 := B.cell 2
  have x3 := B.cell 3
  have x4 := B.cell 4
  have x5 := B.cell 5
  clear B
  go_wp2_with fail
  refine (rcheck_any _ (HA.out.keep C2)).mono ?_
  rintro e w3 ⟨rfl, C3'⟩
  have C3 := C2.trans C3'
  clear x0 x1 x2 x3 x4 x5 C3'
  by_cases hchk : chk C = 0
  case neg =>
    have qc : (chk C != 0) = true := bne_iff_ne.2 hchk
    clear hchk
    go_wp2_with fail
    go_ret
    exact ⟨rfl, (C0.trans C3).below_of (Nat.le_refl _) (fun _ h => h.elim)⟩
  rw [hchk]
  by_cases g0 : t < 0
  case pos =>
    have q0 : decide (t < 0) = true := decide_eq_true g0
    clear g0 hchk
    go_wp2_with fail
    go_ret
    exact ⟨rfl, (C0.trans C3).below_of (Nat.le_refl _) (fun _ h => h.elim)⟩
  have q0 : decide (t < 0) = false := decide_eq_false g0
  have b0 : 0 ≤ t := by omega
  clear g0
  by_cases g1 : 1073741824 < t
  case pos =>
    have q1 : decide (1073741824 < t) = true := decide_eq_true g1
    clear g1 hchk
    go_wp2_with fail
    go_ret
    exact ⟨rfl, (C0.trans C3).below_of (Nat.le_refl _) (fun _ h => h.elim)⟩
  have q1 : decide (1073741824 < t) = false := decide_eq_false g1
  have b1 : t ≤ 1073741824 := by omega
  clear g1
  by_cases g2 : fr < 0
  case pos =>
    have q2 : decide (fr < 0) = true := decide_eq_true g2
    clear g2 hchk
    go_wp2_with fail
    go_ret
    exact ⟨rfl, (C0.trans C3).below_of (Nat.le_refl _) (fun _ h => h.elim)⟩
  have q2 : decide (fr < 0) = false := decide_eq_false g2
  have b2 : 0 ≤ fr := by omega
  clear g2
  by_cases g3 : 1000 < fr
  case pos =>
    have q3 : decide (1000 < fr) = true := decide_eq_true g3
    clear g3 hchk
    go_wp2_with fail
    go_ret
    exact ⟨rfl, (C0.trans C3).below_of (Nat.le_refl _) (fun _ h => h.elim)⟩
  have q3 : decide (1000 < fr) = false := decide_eq_false g3
  have b3 : fr ≤ 1000 := by omega
  clear g3
  have HF := Lib.hid (chk_wins hchk)
  have HCK := Lib.hid hchk
  clear hchk
  have hm := HF.out.major
  have a0 := Int.mul_nonneg b2 (show 0 ≤ C.major by omega)
  have a1 := Int.mul_le_mul b3 hm.2 (by omega) (by decide)
  have hl := later_at HF.out HCK.out t fr b0 a0 (by omega)
  have hn := later_next HF.out part t fr hl.2.1 hl.2.2
  have hs := later_steps HF.out HCK.out part t fr 77 b0 a0 (by omega) (by decide)
  have hat := hl.1
  obtain ⟨pr, hpr⟩ : ∃ pr, fr * C.major = pr := ⟨_, rfl⟩
  rw [hpr] at hs hn hat a0 a1
  obtain ⟨u, hu⟩ : ∃ u, t + pr = u := ⟨_, rfl⟩
  rw [hu] at hs hn hat
  have hpr1 : pr ≤ 100000000 := by omega
  have hu0 : 0 ≤ u := by omega
  have hu1 : u ≤ 1200000000 := by omega
  have y2 : IntKind.i64.wrap (u - t) = pr := by rw [IntWalk.i64_in _ (by omega)]; omega
  have HAT := Lib.hid hat
  have HSS := Lib.hid hs
  have HY2 := Lib.hid y2
  have HUT := Lib.hid (show u - t = pr by omega)
  clear hat hs hl a1 hm y2
  obtain ⟨nv, hnv⟩ : ∃ nv, nextV C part t = nv := ⟨_, rfl⟩
  obtain ⟨mv, hmv⟩ : ∃ mv, nextV C part u = mv := ⟨_, rfl⟩
  rw [hnv, hmv] at hn
  have HNV := Lib.hid hnv
  have HMV := Lib.hid hmv
  clear hnv hmv
  obtain ⟨n1, n2⟩ := nv
  obtain ⟨m1, m2⟩ := mv
  obtain ⟨hn1, hn2⟩ := hn
  have hn1' : m2 = n2 := hn1
  subst hn1'
  have HN2 := Lib.hid hn2
  clear hn1 hn2
  obtain ⟨av, hav⟩ : ∃ av, atV C t = av := ⟨_, rfl⟩
  have HAV := Lib.hid hav
  replace HAT : Hid (atV C u = av) := by show _ = _; rw [HAT.out, hav]
  clear hav
  obtain ⟨sv, hsv⟩ : ∃ sv, stepsV C part t (t + 77) = sv := ⟨_, rfl⟩
  have HSV := Lib.hid hsv
  replace HSS : Hid (stepsV C part u (u + 77) = sv) := by show _ = _; rw [HSS.out, hsv]
  clear hsv
  obtain ⟨a1, a2⟩ := av
  have B := HKB.out _ C3
  have x0 := B.cell 0
  have x1 := B.cell 1
  have x2 := B.cell 2
  have x3 := B.cell 3
  have x4 := B.cell 4
  have x5 := B.cell 5
  clear B
  go_wp2_with fail
  refine (at_any _ (HA.out.keep C3) t).mono ?_
  rintro e w4 ⟨rfl, C4'⟩
  have C4 := C3.trans C4'
  rw [HAV.out]
  clear x0 x1 x2 x3 x4 x5 C4' hpr hu
  have B := HKB.out _ C4
  have x0 := B.cell 0
  have x1 := B.cell 1
  have x2 := B.cell 2
  have x3 := B.cell 3
  have x4 := B.cell 4
  have x5 := B.cell 5
  clear B
  go_wp2_with fail
  refine (at_any _ (HA.out.keep C4) u).mono ?_
  rintro e w5 ⟨rfl, C5'⟩
  have C5 := C4.trans C5'
  clear x0 x1 x2 x3 x4 x5 C5'
  rw [HAT.out]
  have B := HKB.out _ C5
  have x0 := B.cell 0
  have x1 := B.cell 1
  have x2 := B.cell 2
  have x3 := B.cell 3
  have x4 := B.cell 4
  have x5 := B.cell 5
  clear B
  go_wp2_with fail
  refine (next_any _ (HA.out.keep C5) part t).mono ?_
  rintro e w6 ⟨rfl, C6'⟩
  have C6 := C5.trans C6'
  clear x0 x1 x2 x3 x4 x5 C6'
  rw [HNV.out]
  have B := HKB.out _ C6
  have x0 := B.cell 0
  have x1 := B.cell 1
  have x2 := B.cell 2
  have x3 := B.cell 3
  have x4 := B.cell 4
  have x5 := B.cell 5
  clear B
  go_wp2_with fail
  refine (next_any _ (HA.out.keep C6) part u).mono ?_
  rintro e w7 ⟨rfl, C7'⟩
  have C7 := C6.trans C7'
  clear x0 x1 x2 x3 x4 x5 C7'
  rw [HMV.out]
  have yt : IntKind.i64.wrap (t + 77) = t + 77 := IntWalk.i64_in _ (by omega)
  have yu : IntKind.i64.wrap (u + 77) = u + 77 := IntWalk.i64_in _ (by omega)
  go_wp2_with fail
  cases m2
  case false =>
    refine wp_region_noPanic ?_
    refine seq_begin (fun w' => Chg w0 w' (fun _ => False)) (by kernel_rfl) (C7.drew) ?_
    refine seq_op 0 (oi := ?of0) (v := ?vf0) ?hf0 (by kernel_rfl) (by kernel_rfl) (by kernel_rfl) (fun _ _ _ h => h) ?wf0 (fun K wq hS hK => ?yf0) ?rf0
    case hf0 => simp only [List.getElem?_toArray, List.getElem?_cons_succ, List.getElem?_cons_zero]; rfl
    case wf0 => rfl
    case yf0 =>
      have HS := Lib.hid hS
      try dsimp only at hS
      go_simp
      exact hK.out _ HS.out
    try simp only [Act.put, List.setIfInBounds_toArray, List.set_cons_zero, List.set_cons_succ]
    refine seq_op 1 (oi := ?of1) (v := ?vf1) ?hf1 (by kernel_rfl) (by kernel_rfl) (by kernel_rfl) (fun _ _ _ h => h) ?wf1 (fun K wq hS hK => ?yf1) ?rf1
    case hf1 => simp only [List.getElem?_toArray, List.getElem?_cons_succ, List.getElem?_cons_zero]; rfl
    case wf1 => rfl
    case yf1 =>
      have HS := Lib.hid hS
      try dsimp only at hS
      go_simp
      exact hK.out _ HS.out
    try simp only [Act.put, List.setIfInBounds_toArray, List.set_cons_zero, List.set_cons_succ]
    refine seq_op 2 (oi := ?of2) (v := ?vf2) ?hf2 (by kernel_rfl) (by kernel_rfl) (by kernel_rfl) (fun _ _ _ h => h) ?wf2 (fun K wq hS hK => ?yf2) ?rf2
    case hf2 => simp only [List.getElem?_toArray, List.getElem?_cons_succ, List.getElem?_cons_zero]; rfl
    case wf2 => rfl
    case yf2 =>
      have HS := Lib.hid hS
      try dsimp only at hS
      go_simp
      exact hK.out _ HS.out
    try simp only [Act.put, List.setIfInBounds_toArray, List.set_cons_zero, List.set_cons_succ]
    refine seq_op 3 (oi := ?of3) (v := ?vf3) ?hf3 (by kernel_rfl) (by kernel_rfl) (by kernel_rfl) (fun _ _ _ h => h) ?wf3 (fun K wq hS hK => ?yf3) ?rf3
    case hf3 => simp only [List.getElem?_toArray, List.getElem?_cons_succ, List.getElem?_cons_zero]; rfl
    case wf3 => rfl
    case yf3 =>
      have HS := Lib.hid hS
      try dsimp only at hS
      go_simp
      exact hK.out _ HS.out
    try simp only [Act.put, List.setIfInBounds_toArray, List.set_cons_zero, List.set_cons_succ]
    refine seq_op 4 (oi := ?of4) (v := ?vf4) ?hf4 (by kernel_rfl) (by kernel_rfl) (by kernel_rfl) (fun _ _ _ h => h) ?wf4 (fun K wq hS hK => ?yf4) ?rf4
    case hf4 => simp only [List.getElem?_toArray, List.getElem?_cons_succ, List.getElem?_cons_zero]; rfl
    case wf4 => rfl
    case yf4 =>
      have HS := Lib.hid hS
      try dsimp only at hS
      go_simp
      exact hK.out _ HS.out
    try simp only [Act.put, List.setIfInBounds_toArray, List.set_cons_zero, List.set_cons_succ]
    refine seq_op 5 (oi := ?of5) (v := ?vf5) ?hf5 (by kernel_rfl) (by kernel_rfl) (by kernel_rfl) (fun _ _ _ h => h) ?wf5 (fun K wq hS hK => ?yf5) ?rf5
    case hf5 => simp only [List.getElem?_toArray, List.getElem?_cons_succ, List.getElem?_cons_zero]; rfl
    case wf5 => rfl
    case yf5 =>
      have HS := Lib.hid hS
      try dsimp only at hS
      go_simp
      exact hK.out _ HS.out
    try simp only [Act.put, List.setIfInBounds_toArray, List.set_cons_zero, List.set_cons_succ]
    refine seq_op 6 (oi := ?of6) (v := ?vf6) ?hf6 (by kernel_rfl) (by kernel_rfl) (by kernel_rfl) (fun _ _ _ h => h) ?wf6 (fun K wq hS hK => ?yf6) ?rf6
    case hf6 => simp only [List.getElem?_toArray, List.getElem?_cons_succ, List.getElem?_cons_zero]; rfl
    case wf6 => rfl
    case yf6 =>
      have HS := Lib.hid hS
      try dsimp only at hS
      go_simp
      exact hK.out _ HS.out
    try simp only [Act.put, List.setIfInBounds_toArray, List.set_cons_zero, List.set_cons_succ]
    refine seq_op 7 (oi := ?of7) (v := ?vf7) ?hf7 (by kernel_rfl) (by kernel_rfl) (by kernel_rfl) (fun _ _ _ h => h) ?wf7 (fun K wq hS hK => ?yf7) ?rf7
    case hf7 => simp only [List.getElem?_toArray, List.getElem?_cons_succ, List.getElem?_cons_zero]; rfl
    case wf7 => rfl
    case yf7 =>
      have HS := Lib.hid hS
      try dsimp only at hS
      go_simp
      exact hK.out _ HS.out
    try simp only [Act.put, List.setIfInBounds_toArray, List.set_cons_zero, List.set_cons_succ]
    refine seq_op 8 (oi := ?of8) (v := ?vf8) ?hf8 (by kernel_rfl) (by kernel_rfl) (by kernel_rfl) (fun _ _ _ h => h) ?wf8 (fun K wq hS hK => ?yf8) ?rf8
    case hf8 => simp only [List.getElem?_toArray, List.getElem?_cons_succ, List.getElem?_cons_zero]; rfl
    case wf8 => rfl
    case yf8 =>
      have HS := Lib.hid hS
      try dsimp only at hS
      go_simp
      exact hK.out _ HS.out
    try simp only [Act.put, List.setIfInBounds_toArray, List.set_cons_zero, List.set_cons_succ]
    refine seq_op 9 (oi := ?of9) (v := ?vf9) ?hf9 (by kernel_rfl) (by kernel_rfl) (by kernel_rfl) (fun _ _ _ h => h) ?wf9 (fun K wq hS hK => ?yf9) ?rf9
    case hf9 => simp only [List.getElem?_toArray, List.getElem?_cons_succ, List.getElem?_cons_zero]; rfl
    case wf9 => rfl
    case yf9 =>
      have HS := Lib.hid hS
      try dsimp only at hS
      go_simp
      exact hK.out _ HS.out
    try simp only [Act.put, List.setIfInBounds_toArray, List.set_cons_zero, List.set_cons_succ]
    refine seq_op 10 (oi := ?of10) (v := ?vf10) ?hf10 (by kernel_rfl) (by kernel_rfl) (by kernel_rfl) (fun _ _ _ h => h) ?wf10 (fun K wq hS hK => ?yf10) ?rf10
    case hf10 => simp only [List.getElem?_toArray, List.getElem?_cons_succ, List.getElem?_cons_zero]; rfl
    case wf10 => rfl
    case yf10 =>
      have HS := Lib.hid hS
      try dsimp only at hS
      go_simp
      exact hK.out _ HS.out
    try simp only [Act.put, List.setIfInBounds_toArray, List.set_cons_zero, List.set_cons_succ]
    refine seq_op 11 (oi := ?of11) (v := ?vf11) ?hf11 (by kernel_rfl) (by kernel_rfl) (by kernel_rfl) (fun _ _ _ h => h) ?wf11 (fun K wq hS hK => ?yf11) ?rf11
    case hf11 => simp only [List.getElem?_toArray, List.getElem?_cons_succ, List.getElem?_cons_zero]; rfl
    case wf11 => rfl
    case yf11 =>
      have HS := Lib.hid hS
      try dsimp only at hS
      go_simp
      exact hK.out _ HS.out
    try simp only [Act.put, List.setIfInBounds_toArray, List.set_cons_zero, List.set_cons_succ]
    refine seq_op 12 (oi := ?of12) (v := ?vf12) ?hf12 (by kernel_rfl) (by kernel_rfl) (by kernel_rfl) (fun _ _ _ h => h) ?wf12 (fun K wq hS hK => ?yf12) ?rf12
    case hf12 => simp only [List.getElem?_toArray, List.getElem?_cons_succ, List.getElem?_cons_zero]; rfl
    case wf12 => rfl
    case yf12 =>
      have HS := Lib.hid hS
      try dsimp only at hS
      go_simp
      exact hK.out _ HS.out
    try simp only [Act.put, List.setIfInBounds_toArray, List.set_cons_zero, List.set_cons_succ]
    refine seq_op 13 (oi := ?of13) (v := ?vf13) ?hf13 (by kernel_rfl) (by kernel_rfl) (by kernel_rfl) (fun _ _ _ h => h) ?wf13 (fun K wq hS hK => ?yf13) ?rf13
    case hf13 => simp only [List.getElem?_toArray, List.getElem?_cons_succ, List.getElem?_cons_zero]; rfl
    case wf13 => rfl
    case yf13 =>
      have HS := Lib.hid hS
      try dsimp only at hS
      go_simp
      exact hK.out _ HS.out
    try simp only [Act.put, List.setIfInBounds_toArray, List.set_cons_zero, List.set_cons_succ]
    refine seq_op 14 (oi := ?of14) (v := ?vf14) ?hf14 (by kernel_rfl) (by kernel_rfl) (by kernel_rfl) (fun _ _ _ h => h) ?wf14 (fun K wq hS hK => ?yf14) ?rf14
    case hf14 => simp only [List.getElem?_toArray, List.getElem?_cons_succ, List.getElem?_cons_zero]; rfl
    case wf14 => rfl
    case yf14 =>
      have HS := Lib.hid hS
      try dsimp only at hS
      go_simp
      exact hK.out _ HS.out
    try simp only [Act.put, List.setIfInBounds_toArray, List.set_cons_zero, List.set_cons_succ]
    refine seq_op 15 (oi := ?of15) (v := ?vf15) ?hf15 (by kernel_rfl) (by kernel_rfl) (by kernel_rfl) (fun _ _ _ h => h) ?wf15 (fun K wq hS hK => ?yf15) ?rf15
    case hf15 => simp only [List.getElem?_toArray, List.getElem?_cons_succ, List.getElem?_cons_zero]; rfl
    case wf15 => rfl
    case yf15 =>
      have HS := Lib.hid hS
      try dsimp only at hS
      go_simp
      exact hK.out _ HS.out
    try simp only [Act.put, List.setIfInBounds_toArray, List.set_cons_zero, List.set_cons_succ]
    refine seq_op 16 (oi := ?of16) (v := ?vf16) ?hf16 (by kernel_rfl) (by kernel_rfl) (by kernel_rfl) (fun _ _ _ h => h) ?wf16 (fun K wq hS hK => ?yf16) ?rf16
    case hf16 => simp only [List.getElem?_toArray, List.getElem?_cons_succ, List.getElem?_cons_zero]; rfl
    case wf16 => rfl
    case yf16 =>
      have HS := Lib.hid hS
      try dsimp only at hS
      go_simp
      exact hK.out _ HS.out
    try simp only [Act.put, List.setIfInBounds_toArray, List.set_cons_zero, List.set_cons_succ]
    refine seq_skip 17 (oi := ?of17) ?hf17 (by kernel_rfl) (by kernel_rfl) (by kernel_rfl) (fun _ _ _ h => h) ?wf17 ?rf17
    case hf17 => simp only [List.getElem?_toArray, List.getElem?_cons_succ, List.getElem?_cons_zero]; rfl
    case wf17 => rfl
    try simp only [Act.put, List.setIfInBounds_toArray, List.set_cons_zero, List.set_cons_succ]
    refine seq_skip 18 (oi := ?of18) ?hf18 (by kernel_rfl) (by kernel_rfl) (by kernel_rfl) (fun _ _ _ h => h) ?wf18 ?rf18
    case hf18 => simp only [List.getElem?_toArray, List.getElem?_cons_succ, List.getElem?_cons_zero]; rfl
    case wf18 => rfl
    try simp only [Act.put, List.setIfInBounds_toArray, List.set_cons_zero, List.set_cons_succ]
    refine seq_skip 19 (oi := ?of19) ?hf19 (by kernel_rfl) (by kernel_rfl) (by kernel_rfl) (fun _ _ _ h => h) ?wf19 ?rf19
    case hf19 => simp only [List.getElem?_toArray, List.getElem?_cons_succ, List.getElem?_cons_zero]; rfl
    case wf19 => rfl
    try simp only [Act.put, List.setIfInBounds_toArray, List.set_cons_zero, List.set_cons_succ]
    refine seq_skip 20 (oi := ?of20) ?hf20 (by kernel_rfl) (by kernel_rfl) (by kernel_rfl) (fun _ _ _ h => h) ?wf20 ?rf20
    case hf20 => simp only [List.getElem?_toArray, List.getElem?_cons_succ, List.getElem?_cons_zero]; rfl
    case wf20 => rfl
    try simp only [Act.put, List.setIfInBounds_toArray, List.set_cons_zero, List.set_cons_succ]
    refine seq_skip 21 (oi := ?of21) ?hf21 (by kernel_rfl) (by kernel_rfl) (by kernel_rfl) (fun _ _ _ h => h) ?wf21 ?rf21
    case hf21 => simp only [List.getElem?_toArray, List.getElem?_cons_succ, List.getElem?_cons_zero]; rfl
    case wf21 => rfl
    try simp only [Act.put, List.setIfInBounds_toArray, List.set_cons_zero, List.set_cons_succ]
    refine seq_skip 22 (oi := ?of22) ?hf22 (by kernel_rfl) (by kernel_rfl) (by kernel_rfl) (fun _ _ _ h => h) ?wf22 ?rf22
    case hf22 => simp only [List.getElem?_toArray, List.getElem?_cons_succ, List.getElem?_cons_zero]; rfl
    case wf22 => rfl
    try simp only [Act.put, List.setIfInBounds_toArray, List.set_cons_zero, List.set_cons_succ]
    refine seq_skip 23 (oi := ?of23) ?hf23 (by kernel_rfl) (by kernel_rfl) (by kernel_rfl) (fun _ _ _ h => h) ?wf23 ?rf23
    case hf23 => simp only [List.getElem?_toArray, List.getElem?_cons_succ, List.getElem?_cons_zero]; rfl
    case wf23 => rfl
    try simp only [Act.put, List.setIfInBounds_toArray, List.set_cons_zero, List.set_cons_succ]
    refine seq_op 24 (oi := ?of24) (v := ?vf24) ?hf24 (by kernel_rfl) (by kernel_rfl) (by kernel_rfl) (fun _ _ _ h => h) ?wf24 (fun K wq hS hK => ?yf24) ?rf24
    case hf24 => simp only [List.getElem?_toArray, List.getElem?_cons_succ, List.getElem?_cons_zero]; rfl
    case wf24 => rfl
    case yf24 =>
      have HS := Lib.hid hS
      try dsimp only at hS
      go_simp
      exact hK.out _ HS.out
    try simp only [Act.put, List.setIfInBounds_toArray, List.set_cons_zero, List.set_cons_succ]
    refine seq_op 25 (oi := ?of25) (v := ?vf25) ?hf25 (by kernel_rfl) (by kernel_rfl) (by kernel_rfl) (fun _ _ _ h => h) ?wf25 (fun K wq hS hK => ?yf25) ?rf25
    case hf25 => simp only [List.getElem?_toArray, List.getElem?_cons_succ, List.getElem?_cons_zero]; rfl
    case wf25 => rfl
    case yf25 =>
      have HS := Lib.hid hS
      try dsimp only at hS
      go_simp
      exact hK.out _ HS.out
    try simp only [Act.put, List.setIfInBounds_toArray, List.set_cons_zero, List.set_cons_succ]
    refine seq_op 26 (oi := ?of26) (v := ?vf26) ?hf26 (by kernel_rfl) (by kernel_rfl) (by kernel_rfl) (fun _ _ _ h => h) ?wf26 (fun K wq hS hK => ?yf26) ?rf26
    case hf26 => simp only [List.getElem?_toArray, List.getElem?_cons_succ, List.getElem?_cons_zero]; rfl
    case wf26 => rfl
    case yf26 =>
      have HS := Lib.hid hS
      try dsimp only at hS
      go_simp
      exact hK.out _ HS.out
    try simp only [Act.put, List.setIfInBounds_toArray, List.set_cons_zero, List.set_cons_succ]
    refine seq_op 27 (oi := ?of27) (v := ?vf27) ?hf27 (by kernel_rfl) (by kernel_rfl) (by kernel_rfl) (fun _ _ _ h => h) ?wf27 (fun K wq hS hK => ?yf27) ?rf27
    case hf27 => simp only [List.getElem?_toArray, List.getElem?_cons_succ, List.getElem?_cons_zero]; rfl
    case wf27 => rfl
    case yf27 =>
      have HS := Lib.hid hS
      have B := HKB.out _ hS
      have x0 := B.cell 0
      have x1 := B.cell 1
      have x2 := B.cell 2
      have x3 := B.cell 3
      have x4 := B.cell 4
      have x5 := B.cell 5
      clear hS B
      go_simp
      have hS2 := HS.out
      exact hK.out _ hS2
    try simp only [Act.put, List.setIfInBounds_toArray, List.set_cons_zero, List.set_cons_succ]
    refine seq_op 28 (oi := ?of28) (v := ?vf28) ?hf28 (by kernel_rfl) (by kernel_rfl) (by kernel_rfl) (fun _ _ _ h => h) ?wf28 (fun K wq hS hK => ?yf28) ?rf28
    case hf28 => simp only [List.getElem?_toArray, List.getElem?_cons_succ, List.getElem?_cons_zero]; rfl
    case wf28 => rfl
    case yf28 =>
      have HS := Lib.hid hS
      try dsimp only at hS
      go_simp
      exact hK.out _ HS.out
    try simp only [Act.put, List.setIfInBounds_toArray, List.set_cons_zero, List.set_cons_succ]
    refine seq_op 29 (oi := ?of29) (v := ?vf29) ?hf29 (by kernel_rfl) (by kernel_rfl) (by kernel_rfl) (fun _ _ _ h => h) ?wf29 (fun K wq hS hK => ?yf29) ?rf29
    case hf29 => simp only [List.getElem?_toArray, List.getElem?_cons_succ, List.getElem?_cons_zero]; rfl
    case wf29 => rfl
    case yf29 =>
      have HS := Lib.hid hS
      try dsimp only at hS
      go_simp
      exact hK.out _ HS.out
    try simp only [Act.put, List.setIfInBounds_toArray, List.set_cons_zero, List.set_cons_succ]
    refine seq_op 30 (oi := ?of30) (v := ?vf30) ?hf30 (by kernel_rfl) (by kernel_rfl) (by kernel_rfl) (fun _ _ _ h => h) ?wf30 (fun K wq hS hK => ?yf30) ?rf30
    case hf30 => simp only [List.getElem?_toArray, List.getElem?_cons_succ, List.getElem?_cons_zero]; rfl
    case wf30 => rfl
    case yf30 =>
      have HS := Lib.hid hS
      try dsimp only at hS
      go_simp
      exact hK.out _ HS.out
    try simp only [Act.put, List.setIfInBounds_toArray, List.set_cons_zero, List.set_cons_succ]
    refine seq_op 31 (oi := ?of31) (v := ?vf31) ?hf31 (by kernel_rfl) (by kernel_rfl) (by kernel_rfl) (fun _ _ _ h => h) ?wf31 (fun K wq hS hK => ?yf31) ?rf31
    case hf31 => simp only [List.getElem?_toArray, List.getElem?_cons_succ, List.getElem?_cons_zero]; rfl
    case wf31 => rfl
    case yf31 =>
      have HS := Lib.hid hS
      try dsimp only at hS
      go_simp
      exact hK.out _ HS.out
    try simp only [Act.put, List.setIfInBounds_toArray, List.set_cons_zero, List.set_cons_succ]
    refine seq_op 32 (oi := ?of32) (v := ?vf32) ?hf32 (by kernel_rfl) (by kernel_rfl) (by kernel_rfl) (fun _ _ _ h => h) ?wf32 (fun K wq hS hK => ?yf32) ?rf32
    case hf32 => simp only [List.getElem?_toArray, List.getElem?_cons_succ, List.getElem?_cons_zero]; rfl
    case wf32 => rfl
    case yf32 =>
      have HS := Lib.hid hS
      have HX := HA.out.keep hS
      clear hS
      go_simp
      refine (steps_any _ HX part t (t + 77)).mono ?_
      rintro e w8 ⟨rfl, C8⟩
      have hS2 := HS.out.trans C8
      rw [HSV.out]
      exact hK.out _ hS2
    try simp only [Act.put, List.setIfInBounds_toArray, List.set_cons_zero, List.set_cons_succ]
    refine seq_op 33 (oi := ?of33) (v := ?vf33) ?hf33 (by kernel_rfl) (by kernel_rfl) (by kernel_rfl) (fun _ _ _ h => h) ?wf33 (fun K wq hS hK => ?yf33) ?rf33
    case hf33 => simp only [List.getElem?_toArray, List.getElem?_cons_succ, List.getElem?_cons_zero]; rfl
    case wf33 => rfl
    case yf33 =>
      have HS := Lib.hid hS
      have B := HKB.out _ hS
      have x0 := B.cell 0
      have x1 := B.cell 1
      have x2 := B.cell 2
      have x3 := B.cell 3
      have x4 := B.cell 4
      have x5 := B.cell 5
      clear hS B
      go_simp
      have hS2 := HS.out
      exact hK.out _ hS2
    try simp only [Act.put, List.setIfInBounds_toArray, List.set_cons_zero, List.set_cons_succ]
    refine seq_op 34 (oi := ?of34) (v := ?vf34) ?hf34 (by kernel_rfl) (by kernel_rfl) (by kernel_rfl) (fun _ _ _ h => h) ?wf34 (fun K wq hS hK => ?yf34) ?rf34
    case hf34 => simp only [List.getElem?_toArray, List.getElem?_cons_succ, List.getElem?_cons_zero]; rfl
    case wf34 => rfl
    case yf34 =>
      have HS := Lib.hid hS
      try dsimp only at hS
      go_simp
      exact hK.out _ HS.out
    try simp only [Act.put, List.setIfInBounds_toArray, List.set_cons_zero, List.set_cons_succ]
    refine seq_op 35 (oi := ?of35) (v := ?vf35) ?hf35 (by kernel_rfl) (by kernel_rfl) (by kernel_rfl) (fun _ _ _ h => h) ?wf35 (fun K wq hS hK => ?yf35) ?rf35
    case hf35 => simp only [List.getElem?_toArray, List.getElem?_cons_succ, List.getElem?_cons_zero]; rfl
    case wf35 => rfl
    case yf35 =>
      have HS := Lib.hid hS
      try dsimp only at hS
      go_simp
      exact hK.out _ HS.out
    try simp only [Act.put, List.setIfInBounds_toArray, List.set_cons_zero, List.set_cons_succ]
    refine seq_op 36 (oi := ?of36) (v := ?vf36) ?hf36 (by kernel_rfl) (by kernel_rfl) (by kernel_rfl) (fun _ _ _ h => h) ?wf36 (fun K wq hS hK => ?yf36) ?rf36
    case hf36 => simp only [List.getElem?_toArray, List.getElem?_cons_succ, List.getElem?_cons_zero]; rfl
    case wf36 => rfl
    case yf36 =>
      have HS := Lib.hid hS
      try dsimp only at hS
      go_simp
      exact hK.out _ HS.out
    try simp only [Act.put, List.setIfInBounds_toArray, List.set_cons_zero, List.set_cons_succ]
    refine seq_op 37 (oi := ?of37) (v := ?vf37) ?hf37 (by kernel_rfl) (by kernel_rfl) (by kernel_rfl) (fun _ _ _ h => h) ?wf37 (fun K wq hS hK => ?yf37) ?rf37
    case hf37 => simp only [List.getElem?_toArray, List.getElem?_cons_succ, List.getElem?_cons_zero]; rfl
    case wf37 => rfl
    case yf37 =>
      have HS := Lib.hid hS
      try dsimp only at hS
      go_simp
      exact hK.out _ HS.out
    try simp only [Act.put, List.setIfInBounds_toArray, List.set_cons_zero, List.set_cons_succ]
    refine seq_op 38 (oi := ?of38) (v := ?vf38) ?hf38 (by kernel_rfl) (by kernel_rfl) (by kernel_rfl) (fun _ _ _ h => h) ?wf38 (fun K wq hS hK => ?yf38) ?rf38
    case hf38 => simp only [List.getElem?_toArray, List.getElem?_cons_succ, List.getElem?_cons_zero]; rfl
    case wf38 => rfl
    case yf38 =>
      have HS := Lib.hid hS
      have HX := HA.out.keep hS
      clear hS
      go_simp
      refine (steps_any _ HX part u (u + 77)).mono ?_
      rintro e w8 ⟨rfl, C8⟩
      have hS2 := HS.out.trans C8
      rw [HSS.out]
      exact hK.out _ hS2
    try simp only [Act.put, List.setIfInBounds_toArray, List.set_cons_zero, List.set_cons_succ]
    refine seq_op 39 (oi := ?of39) (v := ?vf39) ?hf39 (by kernel_rfl) (by kernel_rfl) (by kernel_rfl) (fun _ _ _ h => h) ?wf39 (fun K wq hS hK => ?yf39) ?rf39
    case hf39 => simp only [List.getElem?_toArray, List.getElem?_cons_succ, List.getElem?_cons_zero]; rfl
    case wf39 => rfl
    case yf39 =>
      have HS := Lib.hid hS
      try dsimp only at hS
      go_simp
      exact hK.out _ HS.out
    try simp only [Act.put, List.setIfInBounds_toArray, List.set_cons_zero, List.set_cons_succ]
    refine seq_op 40 (oi := ?of40) (v := ?vf40) ?hf40 (by kernel_rfl) (by kernel_rfl) (by kernel_rfl) (fun _ _ _ h => h) ?wf40 (fun K wq hS hK => ?yf40) ?rf40
    case hf40 => simp only [List.getElem?_toArray, List.getElem?_cons_succ, List.getElem?_cons_zero]; rfl
    case wf40 => rfl
    case yf40 =>
      have HS := Lib.hid hS
      try dsimp only at hS
      go_simp
      exact hK.out _ HS.out
    try simp only [Act.put, List.setIfInBounds_toArray, List.set_cons_zero, List.set_cons_succ]
    refine seq_op 41 (oi := ?of41) (v := ?vf41) ?hf41 (by kernel_rfl) (by kernel_rfl) (by kernel_rfl) (fun _ _ _ h => h) ?wf41 (fun K wq hS hK => ?yf41) ?rf41
    case hf41 => simp only [List.getElem?_toArray, List.getElem?_cons_succ, List.getElem?_cons_zero]; rfl
    case wf41 => rfl
    case yf41 =>
      have HS := Lib.hid hS
      try dsimp only at hS
      go_simp
      exact hK.out _ HS.out
    try simp only [Act.put, List.setIfInBounds_toArray, List.set_cons_zero, List.set_cons_succ]
    refine seq_done (by kernel_rfl) (fun wz hSz => ?_) _
    refine NoPanic.normal ?_
    go_wp2_with fail
    go_ret
    exact ⟨rfl, (C0.trans hSz).below_of (Nat.le_refl _) (fun _ h => h.elim)⟩
  case true =>
    have hmn : m1 - n1 = pr := HN2.out rfl
    have y1 : IntKind.i64.wrap (m1 - n1) = pr := by rw [hmn]; exact IntWalk.i64_in _ (by omega)
    have y2 : IntKind.i64.wrap (u - t) = pr := HY2.out
    have y3 := HUT.out
    refine wp_region_noPanic ?_
    refine seq_begin (fun w' => Chg w0 w' (fun _ => False)) (by kernel_rfl) (C7.drew) ?_
    refine seq_op 0 (oi := ?ot0) (v := ?vt0) ?ht0 (by kernel_rfl) (by kernel_rfl) (by kernel_rfl) (fun _ _ _ h => h) ?wt0 (fun K wq hS hK => ?yt0) ?rt0
    case ht0 => simp only [List.getElem?_toArray, List.getElem?_cons_succ, List.getElem?_cons_zero]; rfl
    case wt0 => rfl
    case yt0 =>
      have HS := Lib.hid hS
      try dsimp only at hS
      go_simp
      exact hK.out _ HS.out
    try simp only [Act.put, List.setIfInBounds_toArray, List.set_cons_zero, List.set_cons_succ]
    refine seq_op 1 (oi := ?ot1) (v := ?vt1) ?ht1 (by kernel_rfl) (by kernel_rfl) (by kernel_rfl) (fun _ _ _ h => h) ?wt1 (fun K wq hS hK => ?yt1) ?rt1
    case ht1 => simp only [List.getElem?_toArray, List.getElem?_cons_succ, List.getElem?_cons_zero]; rfl
    case wt1 => rfl
    case yt1 =>
      have HS := Lib.hid hS
      try dsimp only at hS
      go_simp
      exact hK.out _ HS.out
    try simp only [Act.put, List.setIfInBounds_toArray, List.set_cons_zero, List.set_cons_succ]
    refine seq_op 2 (oi := ?ot2) (v := ?vt2) ?ht2 (by kernel_rfl) (by kernel_rfl) (by kernel_rfl) (fun _ _ _ h => h) ?wt2 (fun K wq hS hK => ?yt2) ?rt2
    case ht2 => simp only [List.getElem?_toArray, List.getElem?_cons_succ, List.getElem?_cons_zero]; rfl
    case wt2 => rfl
    case yt2 =>
      have HS := Lib.hid hS
      try dsimp only at hS
      go_simp
      exact hK.out _ HS.out
    try simp only [Act.put, List.setIfInBounds_toArray, List.set_cons_zero, List.set_cons_succ]
    refine seq_op 3 (oi := ?ot3) (v := ?vt3) ?ht3 (by kernel_rfl) (by kernel_rfl) (by kernel_rfl) (fun _ _ _ h => h) ?wt3 (fun K wq hS hK => ?yt3) ?rt3
    case ht3 => simp only [List.getElem?_toArray, List.getElem?_cons_succ, List.getElem?_cons_zero]; rfl
    case wt3 => rfl
    case yt3 =>
      have HS := Lib.hid hS
      try dsimp only at hS
      go_simp
      exact hK.out _ HS.out
    try simp only [Act.put, List.setIfInBounds_toArray, List.set_cons_zero, List.set_cons_succ]
    refine seq_op 4 (oi := ?ot4) (v := ?vt4) ?ht4 (by kernel_rfl) (by kernel_rfl) (by kernel_rfl) (fun _ _ _ h => h) ?wt4 (fun K wq hS hK => ?yt4) ?rt4
    case ht4 => simp only [List.getElem?_toArray, List.getElem?_cons_succ, List.getElem?_cons_zero]; rfl
    case wt4 => rfl
    case yt4 =>
      have HS := Lib.hid hS
      try dsimp only at hS
      go_simp
      exact hK.out _ HS.out
    try simp only [Act.put, List.setIfInBounds_toArray, List.set_cons_zero, List.set_cons_succ]
    refine seq_op 5 (oi := ?ot5) (v := ?vt5) ?ht5 (by kernel_rfl) (by kernel_rfl) (by kernel_rfl) (fun _ _ _ h => h) ?wt5 (fun K wq hS hK => ?yt5) ?rt5
    case ht5 => simp only [List.getElem?_toArray, List.getElem?_cons_succ, List.getElem?_cons_zero]; rfl
    case wt5 => rfl
    case yt5 =>
      have HS := Lib.hid hS
      try dsimp only at hS
      go_simp
      exact hK.out _ HS.out
    try simp only [Act.put, List.setIfInBounds_toArray, List.set_cons_zero, List.set_cons_succ]
    refine seq_op 6 (oi := ?ot6) (v := ?vt6) ?ht6 (by kernel_rfl) (by kernel_rfl) (by kernel_rfl) (fun _ _ _ h => h) ?wt6 (fun K wq hS hK => ?yt6) ?rt6
    case ht6 => simp only [List.getElem?_toArray, List.getElem?_cons_succ, List.getElem?_cons_zero]; rfl
    case wt6 => rfl
    case yt6 =>
      have HS := Lib.hid hS
      try dsimp only at hS
      go_simp
      exact hK.out _ HS.out
    try simp only [Act.put, List.setIfInBounds_toArray, List.set_cons_zero, List.set_cons_succ]
    refine seq_op 7 (oi := ?ot7) (v := ?vt7) ?ht7 (by kernel_rfl) (by kernel_rfl) (by kernel_rfl) (fun _ _ _ h => h) ?wt7 (fun K wq hS hK => ?yt7) ?rt7
    case ht7 => simp only [List.getElem?_toArray, List.getElem?_cons_succ, List.getElem?_cons_zero]; rfl
    case wt7 => rfl
    case yt7 =>
      have HS := Lib.hid hS
      try dsimp only at hS
      go_simp
      exact hK.out _ HS.out
    try simp only [Act.put, List.setIfInBounds_toArray, List.set_cons_zero, List.set_cons_succ]
    refine seq_op 8 (oi := ?ot8) (v := ?vt8) ?ht8 (by kernel_rfl) (by kernel_rfl) (by kernel_rfl) (fun _ _ _ h => h) ?wt8 (fun K wq hS hK => ?yt8) ?rt8
    case ht8 => simp only [List.getElem?_toArray, List.getElem?_cons_succ, List.getElem?_cons_zero]; rfl
    case wt8 => rfl
    case yt8 =>
      have HS := Lib.hid hS
      try dsimp only at hS
      go_simp
      exact hK.out _ HS.out
    try simp only [Act.put, List.setIfInBounds_toArray, List.set_cons_zero, List.set_cons_succ]
    refine seq_op 9 (oi := ?ot9) (v := ?vt9) ?ht9 (by kernel_rfl) (by kernel_rfl) (by kernel_rfl) (fun _ _ _ h => h) ?wt9 (fun K wq hS hK => ?yt9) ?rt9
    case ht9 => simp only [List.getElem?_toArray, List.getElem?_cons_succ, List.getElem?_cons_zero]; rfl
    case wt9 => rfl
    case yt9 =>
      have HS := Lib.hid hS
      try dsimp only at hS
      go_simp
      exact hK.out _ HS.out
    try simp only [Act.put, List.setIfInBounds_toArray, List.set_cons_zero, List.set_cons_succ]
    refine seq_op 10 (oi := ?ot10) (v := ?vt10) ?ht10 (by kernel_rfl) (by kernel_rfl) (by kernel_rfl) (fun _ _ _ h => h) ?wt10 (fun K wq hS hK => ?yt10) ?rt10
    case ht10 => simp only [List.getElem?_toArray, List.getElem?_cons_succ, List.getElem?_cons_zero]; rfl
    case wt10 => rfl
    case yt10 =>
      have HS := Lib.hid hS
      try dsimp only at hS
      go_simp
      exact hK.out _ HS.out
    try simp only [Act.put, List.setIfInBounds_toArray, List.set_cons_zero, List.set_cons_succ]
    refine seq_op 11 (oi := ?ot11) (v := ?vt11) ?ht11 (by kernel_rfl) (by kernel_rfl) (by kernel_rfl) (fun _ _ _ h => h) ?wt11 (fun K wq hS hK => ?yt11) ?rt11
    case ht11 => simp only [List.getElem?_toArray, List.getElem?_cons_succ, List.getElem?_cons_zero]; rfl
    case wt11 => rfl
    case yt11 =>
      have HS := Lib.hid hS
      try dsimp only at hS
      go_simp
      exact hK.out _ HS.out
    try simp only [Act.put, List.setIfInBounds_toArray, List.set_cons_zero, List.set_cons_succ]
    refine seq_op 12 (oi := ?ot12) (v := ?vt12) ?ht12 (by kernel_rfl) (by kernel_rfl) (by kernel_rfl) (fun _ _ _ h => h) ?wt12 (fun K wq hS hK => ?yt12) ?rt12
    case ht12 => simp only [List.getElem?_toArray, List.getElem?_cons_succ, List.getElem?_cons_zero]; rfl
    case wt12 => rfl
    case yt12 =>
      have HS := Lib.hid hS
      try dsimp only at hS
      go_simp
      exact hK.out _ HS.out
    try simp only [Act.put, List.setIfInBounds_toArray, List.set_cons_zero, List.set_cons_succ]
    refine seq_op 13 (oi := ?ot13) (v := ?vt13) ?ht13 (by kernel_rfl) (by kernel_rfl) (by kernel_rfl) (fun _ _ _ h => h) ?wt13 (fun K wq hS hK => ?yt13) ?rt13
    case ht13 => simp only [List.getElem?_toArray, List.getElem?_cons_succ, List.getElem?_cons_zero]; rfl
    case wt13 => rfl
    case yt13 =>
      have HS := Lib.hid hS
      try dsimp only at hS
      go_simp
      exact hK.out _ HS.out
    try simp only [Act.put, List.setIfInBounds_toArray, List.set_cons_zero, List.set_cons_succ]
    refine seq_op 14 (oi := ?ot14) (v := ?vt14) ?ht14 (by kernel_rfl) (by kernel_rfl) (by kernel_rfl) (fun _ _ _ h => h) ?wt14 (fun K wq hS hK => ?yt14) ?rt14
    case ht14 => simp only [List.getElem?_toArray, List.getElem?_cons_succ, List.getElem?_cons_zero]; rfl
    case wt14 => rfl
    case yt14 =>
      have HS := Lib.hid hS
      try dsimp only at hS
      go_simp
      exact hK.out _ HS.out
    try simp only [Act.put, List.setIfInBounds_toArray, List.set_cons_zero, List.set_cons_succ]
    refine seq_op 15 (oi := ?ot15) (v := ?vt15) ?ht15 (by kernel_rfl) (by kernel_rfl) (by kernel_rfl) (fun _ _ _ h => h) ?wt15 (fun K wq hS hK => ?yt15) ?rt15
    case ht15 => simp only [List.getElem?_toArray, List.getElem?_cons_succ, List.getElem?_cons_zero]; rfl
    case wt15 => rfl
    case yt15 =>
      have HS := Lib.hid hS
      try dsimp only at hS
      go_simp
      exact hK.out _ HS.out
    try simp only [Act.put, List.setIfInBounds_toArray, List.set_cons_zero, List.set_cons_succ]
    refine seq_op 16 (oi := ?ot16) (v := ?vt16) ?ht16 (by kernel_rfl) (by kernel_rfl) (by kernel_rfl) (fun _ _ _ h => h) ?wt16 (fun K wq hS hK => ?yt16) ?rt16
    case ht16 => simp only [List.getElem?_toArray, List.getElem?_cons_succ, List.getElem?_cons_zero]; rfl
    case wt16 => rfl
    case yt16 =>
      have HS := Lib.hid hS
      try dsimp only at hS
      go_simp
      exact hK.out _ HS.out
    try simp only [Act.put, List.setIfInBounds_toArray, List.set_cons_zero, List.set_cons_succ]
    refine seq_op 17 (oi := ?ot17) (v := ?vt17) ?ht17 (by kernel_rfl) (by kernel_rfl) (by kernel_rfl) (fun _ _ _ h => h) ?wt17 (fun K wq hS hK => ?yt17) ?rt17
    case ht17 => simp only [List.getElem?_toArray, List.getElem?_cons_succ, List.getElem?_cons_zero]; rfl
    case wt17 => rfl
    case yt17 =>
      have HS := Lib.hid hS
      try dsimp only at hS
      go_simp
      exact hK.out _ HS.out
    try simp only [Act.put, List.setIfInBounds_toArray, List.set_cons_zero, List.set_cons_succ]
    refine seq_op 18 (oi := ?ot18) (v := ?vt18) ?ht18 (by kernel_rfl) (by kernel_rfl) (by kernel_rfl) (fun _ _ _ h => h) ?wt18 (fun K wq hS hK => ?yt18) ?rt18
    case ht18 => simp only [List.getElem?_toArray, List.getElem?_cons_succ, List.getElem?_cons_zero]; rfl
    case wt18 => rfl
    case yt18 =>
      have HS := Lib.hid hS
      try dsimp only at hS
      go_simp
      exact hK.out _ HS.out
    try simp only [Act.put, List.setIfInBounds_toArray, List.set_cons_zero, List.set_cons_succ]
    refine seq_op 19 (oi := ?ot19) (v := ?vt19) ?ht19 (by kernel_rfl) (by kernel_rfl) (by kernel_rfl) (fun _ _ _ h => h) ?wt19 (fun K wq hS hK => ?yt19) ?rt19
    case ht19 => simp only [List.getElem?_toArray, List.getElem?_cons_succ, List.getElem?_cons_zero]; rfl
    case wt19 => rfl
    case yt19 =>
      have HS := Lib.hid hS
      try dsimp only at hS
      go_simp
      exact hK.out _ HS.out
    try simp only [Act.put, List.setIfInBounds_toArray, List.set_cons_zero, List.set_cons_succ]
    refine seq_op 20 (oi := ?ot20) (v := ?vt20) ?ht20 (by kernel_rfl) (by kernel_rfl) (by kernel_rfl) (fun _ _ _ h => h) ?wt20 (fun K wq hS hK => ?yt20) ?rt20
    case ht20 => simp only [List.getElem?_toArray, List.getElem?_cons_succ, List.getElem?_cons_zero]; rfl
    case wt20 => rfl
    case yt20 =>
      have HS := Lib.hid hS
      try dsimp only at hS
      go_simp
      exact hK.out _ HS.out
    try simp only [Act.put, List.setIfInBounds_toArray, List.set_cons_zero, List.set_cons_succ]
    refine seq_op 21 (oi := ?ot21) (v := ?vt21) ?ht21 (by kernel_rfl) (by kernel_rfl) (by kernel_rfl) (fun _ _ _ h => h) ?wt21 (fun K wq hS hK => ?yt21) ?rt21
    case ht21 => simp only [List.getElem?_toArray, List.getElem?_cons_succ, List.getElem?_cons_zero]; rfl
    case wt21 => rfl
    case yt21 =>
      have HS := Lib.hid hS
      try dsimp only at hS
      go_simp
      exact hK.out _ HS.out
    try simp only [Act.put, List.setIfInBounds_toArray, List.set_cons_zero, List.set_cons_succ]
    refine seq_op 22 (oi := ?ot22) (v := ?vt22) ?ht22 (by kernel_rfl) (by kernel_rfl) (by kernel_rfl) (fun _ _ _ h => h) ?wt22 (fun K wq hS hK => ?yt22) ?rt22
    case ht22 => simp only [List.getElem?_toArray, List.getElem?_cons_succ, List.getElem?_cons_zero]; rfl
    case wt22 => rfl
    case yt22 =>
      have HS := Lib.hid hS
      try dsimp only at hS
      go_simp
      exact hK.out _ HS.out
    try simp only [Act.put, List.setIfInBounds_toArray, List.set_cons_zero, List.set_cons_succ]
    refine seq_op 23 (oi := ?ot23) (v := ?vt23) ?ht23 (by kernel_rfl) (by kernel_rfl) (by kernel_rfl) (fun _ _ _ h => h) ?wt23 (fun K wq hS hK => ?yt23) ?rt23
    case ht23 => simp only [List.getElem?_toArray, List.getElem?_cons_succ, List.getElem?_cons_zero]; rfl
    case wt23 => rfl
    case yt23 =>
      have HS := Lib.hid hS
      try dsimp only at hS
      go_simp
      exact hK.out _ HS.out
    try simp only [Act.put, List.setIfInBounds_toArray, List.set_cons_zero, List.set_cons_succ]
    refine seq_op 24 (oi := ?ot24) (v := ?vt24) ?ht24 (by kernel_rfl) (by kernel_rfl) (by kernel_rfl) (fun _ _ _ h => h) ?wt24 (fun K wq hS hK => ?yt24) ?rt24
    case ht24 => simp only [List.getElem?_toArray, List.getElem?_cons_succ, List.getElem?_cons_zero]; rfl
    case wt24 => rfl
    case yt24 =>
      have HS := Lib.hid hS
      try dsimp only at hS
      go_simp
      exact hK.out _ HS.out
    try simp only [Act.put, List.setIfInBounds_toArray, List.set_cons_zero, List.set_cons_succ]
    refine seq_op 25 (oi := ?ot25) (v := ?vt25) ?ht25 (by kernel_rfl) (by kernel_rfl) (by kernel_rfl) (fun _ _ _ h => h) ?wt25 (fun K wq hS hK => ?yt25) ?rt25
    case ht25 => simp only [List.getElem?_toArray, List.getElem?_cons_succ, List.getElem?_cons_zero]; rfl
    case wt25 => rfl
    case yt25 =>
      have HS := Lib.hid hS
      try dsimp only at hS
      go_simp
      exact hK.out _ HS.out
    try simp only [Act.put, List.setIfInBounds_toArray, List.set_cons_zero, List.set_cons_succ]
    refine seq_op 26 (oi := ?ot26) (v := ?vt26) ?ht26 (by kernel_rfl) (by kernel_rfl) (by kernel_rfl) (fun _ _ _ h => h) ?wt26 (fun K wq hS hK => ?yt26) ?rt26
    case ht26 => simp only [List.getElem?_toArray, List.getElem?_cons_succ, List.getElem?_cons_zero]; rfl
    case wt26 => rfl
    case yt26 =>
      have HS := Lib.hid hS
      try dsimp only at hS
      go_simp
      exact hK.out _ HS.out
    try simp only [Act.put, List.setIfInBounds_toArray, List.set_cons_zero, List.set_cons_succ]
    refine seq_op 27 (oi := ?ot27) (v := ?vt27) ?ht27 (by kernel_rfl) (by kernel_rfl) (by kernel_rfl) (fun _ _ _ h => h) ?wt27 (fun K wq hS hK => ?yt27) ?rt27
    case ht27 => simp only [List.getElem?_toArray, List.getElem?_cons_succ, List.getElem?_cons_zero]; rfl
    case wt27 => rfl
    case yt27 =>
      have HS := Lib.hid hS
      have B := HKB.out _ hS
      have x0 := B.cell 0
      have x1 := B.cell 1
      have x2 := B.cell 2
      have x3 := B.cell 3
      have x4 := B.cell 4
      have x5 := B.cell 5
      clear hS B
      go_simp
      have hS2 := HS.out
      exact hK.out _ hS2
    try simp only [Act.put, List.setIfInBounds_toArray, List.set_cons_zero, List.set_cons_succ]
    refine seq_op 28 (oi := ?ot28) (v := ?vt28) ?ht28 (by kernel_rfl) (by kernel_rfl) (by kernel_rfl) (fun _ _ _ h => h) ?wt28 (fun K wq hS hK => ?yt28) ?rt28
    case ht28 => simp only [List.getElem?_toArray, List.getElem?_cons_succ, List.getElem?_cons_zero]; rfl
    case wt28 => rfl
    case yt28 =>
      have HS := Lib.hid hS
      try dsimp only at hS
      go_simp
      exact hK.out _ HS.out
    try simp only [Act.put, List.setIfInBounds_toArray, List.set_cons_zero, List.set_cons_succ]
    refine seq_op 29 (oi := ?ot29) (v := ?vt29) ?ht29 (by kernel_rfl) (by kernel_rfl) (by kernel_rfl) (fun _ _ _ h => h) ?wt29 (fun K wq hS hK => ?yt29) ?rt29
    case ht29 => simp only [List.getElem?_toArray, List.getElem?_cons_succ, List.getElem?_cons_zero]; rfl
    case wt29 => rfl
    case yt29 =>
      have HS := Lib.hid hS
      try dsimp only at hS
      go_simp
      exact hK.out _ HS.out
    try simp only [Act.put, List.setIfInBounds_toArray, List.set_cons_zero, List.set_cons_succ]
    refine seq_op 30 (oi := ?ot30) (v := ?vt30) ?ht30 (by kernel_rfl) (by kernel_rfl) (by kernel_rfl) (fun _ _ _ h => h) ?wt30 (fun K wq hS hK => ?yt30) ?rt30
    case ht30 => simp only [List.getElem?_toArray, List.getElem?_cons_succ, List.getElem?_cons_zero]; rfl
    case wt30 => rfl
    case yt30 =>
      have HS := Lib.hid hS
      try dsimp only at hS
      go_simp
      exact hK.out _ HS.out
    try simp only [Act.put, List.setIfInBounds_toArray, List.set_cons_zero, List.set_cons_succ]
    refine seq_op 31 (oi := ?ot31) (v := ?vt31) ?ht31 (by kernel_rfl) (by kernel_rfl) (by kernel_rfl) (fun _ _ _ h => h) ?wt31 (fun K wq hS hK => ?yt31) ?rt31
    case ht31 => simp only [List.getElem?_toArray, List.getElem?_cons_succ, List.getElem?_cons_zero]; rfl
    case wt31 => rfl
    case yt31 =>
      have HS := Lib.hid hS
      try dsimp only at hS
      go_simp
      exact hK.out _ HS.out
    try simp only [Act.put, List.setIfInBounds_toArray, List.set_cons_zero, List.set_cons_succ]
    refine seq_op 32 (oi := ?ot32) (v := ?vt32) ?ht32 (by kernel_rfl) (by kernel_rfl) (by kernel_rfl) (fun _ _ _ h => h) ?wt32 (fun K wq hS hK => ?yt32) ?rt32
    case ht32 => simp only [List.getElem?_toArray, List.getElem?_cons_succ, List.getElem?_cons_zero]; rfl
    case wt32 => rfl
    case yt32 =>
      have HS := Lib.hid hS
      have HX := HA.out.keep hS
      clear hS
      go_simp
      refine (steps_any _ HX part t (t + 77)).mono ?_
      rintro e w8 ⟨rfl, C8⟩
      have hS2 := HS.out.trans C8
      rw [HSV.out]
      exact hK.out _ hS2
    try simp only [Act.put, List.setIfInBounds_toArray, List.set_cons_zero, List.set_cons_succ]
    refine seq_op 33 (oi := ?ot33) (v := ?vt33) ?ht33 (by kernel_rfl) (by kernel_rfl) (by kernel_rfl) (fun _ _ _ h => h) ?wt33 (fun K wq hS hK => ?yt33) ?rt33
    case ht33 => simp only [List.getElem?_toArray, List.getElem?_cons_succ, List.getElem?_cons_zero]; rfl
    case wt33 => rfl
    case yt33 =>
      have HS := Lib.hid hS
      have B := HKB.out _ hS
      have x0 := B.cell 0
      have x1 := B.cell 1
      have x2 := B.cell 2
      have x3 := B.cell 3
      have x4 := B.cell 4
      have x5 := B.cell 5
      clear hS B
      go_simp
      have hS2 := HS.out
      exact hK.out _ hS2
    try simp only [Act.put, List.setIfInBounds_toArray, List.set_cons_zero, List.set_cons_succ]
    refine seq_op 34 (oi := ?ot34) (v := ?vt34) ?ht34 (by kernel_rfl) (by kernel_rfl) (by kernel_rfl) (fun _ _ _ h => h) ?wt34 (fun K wq hS hK => ?yt34) ?rt34
    case ht34 => simp only [List.getElem?_toArray, List.getElem?_cons_succ, List.getElem?_cons_zero]; rfl
    case wt34 => rfl
    case yt34 =>
      have HS := Lib.hid hS
      try dsimp only at hS
      go_simp
      exact hK.out _ HS.out
    try simp only [Act.put, List.setIfInBounds_toArray, List.set_cons_zero, List.set_cons_succ]
    refine seq_op 35 (oi := ?ot35) (v := ?vt35) ?ht35 (by kernel_rfl) (by kernel_rfl) (by kernel_rfl) (fun _ _ _ h => h) ?wt35 (fun K wq hS hK => ?yt35) ?rt35
    case ht35 => simp only [List.getElem?_toArray, List.getElem?_cons_succ, List.getElem?_cons_zero]; rfl
    case wt35 => rfl
    case yt35 =>
      have HS := Lib.hid hS
      try dsimp only at hS
      go_simp
      exact hK.out _ HS.out
    try simp only [Act.put, List.setIfInBounds_toArray, List.set_cons_zero, List.set_cons_succ]
    refine seq_op 36 (oi := ?ot36) (v := ?vt36) ?ht36 (by kernel_rfl) (by kernel_rfl) (by kernel_rfl) (fun _ _ _ h => h) ?wt36 (fun K wq hS hK => ?yt36) ?rt36
    case ht36 => simp only [List.getElem?_toArray, List.getElem?_cons_succ, List.getElem?_cons_zero]; rfl
    case wt36 => rfl
    case yt36 =>
      have HS := Lib.hid hS
      try dsimp only at hS
      go_simp
      exact hK.out _ HS.out
    try simp only [Act.put, List.setIfInBounds_toArray, List.set_cons_zero, List.set_cons_succ]
    refine seq_op 37 (oi := ?ot37) (v := ?vt37) ?ht37 (by kernel_rfl) (by kernel_rfl) (by kernel_rfl) (fun _ _ _ h => h) ?wt37 (fun K wq hS hK => ?yt37) ?rt37
    case ht37 => simp only [List.getElem?_toArray, List.getElem?_cons_succ, List.getElem?_cons_zero]; rfl
    case wt37 => rfl
    case yt37 =>
      have HS := Lib.hid hS
      try dsimp only at hS
      go_simp
      exact hK.out _ HS.out
    try simp only [Act.put, List.setIfInBounds_toArray, List.set_cons_zero, List.set_cons_succ]
    refine seq_op 38 (oi := ?ot38) (v := ?vt38) ?ht38 (by kernel_rfl) (by kernel_rfl) (by kernel_rfl) (fun _ _ _ h => h) ?wt38 (fun K wq hS hK => ?yt38) ?rt38
    case ht38 => simp only [List.getElem?_toArray, List.getElem?_cons_succ, List.getElem?_cons_zero]; rfl
    case wt38 => rfl
    case yt38 =>
      have HS := Lib.hid hS
      have HX := HA.out.keep hS
      clear hS
      go_simp
      refine (steps_any _ HX part u (u + 77)).mono ?_
      rintro e w8 ⟨rfl, C8⟩
      have hS2 := HS.out.trans C8
      rw [HSS.out]
      exact hK.out _ hS2
    try simp only [Act.put, List.setIfInBounds_toArray, List.set_cons_zero, List.set_cons_succ]
    refine seq_op 39 (oi := ?ot39) (v := ?vt39) ?ht39 (by kernel_rfl) (by kernel_rfl) (by kernel_rfl) (fun _ _ _ h => h) ?wt39 (fun K wq hS hK => ?yt39) ?rt39
    case ht39 => simp only [List.getElem?_toArray, List.getElem?_cons_succ, List.getElem?_cons_zero]; rfl
    case wt39 => rfl
    case yt39 =>
      have HS := Lib.hid hS
      try dsimp only at hS
      go_simp
      exact hK.out _ HS.out
    try simp only [Act.put, List.setIfInBounds_toArray, List.set_cons_zero, List.set_cons_succ]
    refine seq_op 40 (oi := ?ot40) (v := ?vt40) ?ht40 (by kernel_rfl) (by kernel_rfl) (by kernel_rfl) (fun _ _ _ h => h) ?wt40 (fun K wq hS hK => ?yt40) ?rt40
    case ht40 => simp only [List.getElem?_toArray, List.getElem?_cons_succ, List.getElem?_cons_zero]; rfl
    case wt40 => rfl
    case yt40 =>
      have HS := Lib.hid hS
      try dsimp only at hS
      go_simp
      exact hK.out _ HS.out
    try simp only [Act.put, List.setIfInBounds_toArray, List.set_cons_zero, List.set_cons_succ]
    refine seq_op 41 (oi := ?ot41) (v := ?vt41) ?ht41 (by kernel_rfl) (by kernel_rfl) (by kernel_rfl) (fun _ _ _ h => h) ?wt41 (fun K wq hS hK => ?yt41) ?rt41
    case ht41 => simp only [List.getElem?_toArray, List.getElem?_cons_succ, List.getElem?_cons_zero]; rfl
    case wt41 => rfl
    case yt41 =>
      have HS := Lib.hid hS
      try dsimp only at hS
      go_simp
      exact hK.out _ HS.out
    try simp only [Act.put, List.setIfInBounds_toArray, List.set_cons_zero, List.set_cons_succ]
    refine seq_done (by kernel_rfl) (fun wz hSz => ?_) _
    refine NoPanic.normal ?_
    go_wp2_with fail
    go_ret
    exact ⟨rfl, (C0.trans hSz).below_of (Nat.le_refl _) (fun _ h => h.elim)⟩

set_option maxRecDepth 100000 in
theorem planLater_walk : LawWalk 7 Try.f7 := by
  intro H enc W base args ds p hval hA
  rw [Try.params7] at hA hval
  obtain ⟨v0, v1, v2, v3, d0, d1, d2, d3, p0, p1, p2, p3, rfl, rfl, rfl, h0, h1, h2, h3⟩ := trodAll_four hA
  obtain ⟨C, ap, ac, aw, cp, cc, cw, rfl, hC, _⟩ := open_cfg (hval 0 26 v0 rfl rfl) h0
  obtain ⟨a1, rfl, rfl, rfl, w1⟩ := open_int Try.underlying3 (hval 1 3 v1 rfl rfl) h1
  obtain ⟨a2, rfl, rfl, rfl, w2⟩ := open_int Try.underlying3 (hval 2 3 v2 rfl rfl) h2
  obtain ⟨a3, rfl, rfl, rfl, w3⟩ := open_int Try.underlying3 (hval 3 3 v3 rfl rfl) h3
  exact planLater_any a1 a2 a3 W hC

set_option maxRecDepth 100000 in
theorem planLater_lifted (os : Os) (started : os.Started) (H : Type) (enc : TypeId × Value → H) :
    ReturnsInHanded {} Try.checked os 7 .any (Rows.planLaterSpec.pre6 enc Try.prog Try.f7 Rows.planLaterRow.domain false) (Rows.planLaterSpec.post enc Try.prog Try.f7 false true false false) :=
  law_lifted (s := Rows.planLaterSpec) Try.func7 (by kernel_rfl) rfl (by kernel_rfl) (by kernel_rfl)
    (fun H ds h => by
      match ds, h with
      | [d0, d1, d2, d3], _ => rfl)
    planLater_walk os started H enc
    (ChangeSpec.witness6 (enc := enc) (C := Try.checked) false ⟨#[], #[.agg #[.int .i64 0, .int .i64 0, .int .i64 0, .slice none 0 0, .slice none 0 0, .slice none 0 0], .int .i64 0, .int .i64 0, .int .i64 0], []⟩ 8 (by kernel_rfl) (by kernel_rfl) (by kernel_rfl) (by kernel_rfl))

set_option maxRecDepth 100000 in
/-- THE STATEMENT. -/
theorem planLater_holds : Rows.PlanLaterSaid :=
  OpenClaim.holds_of_wide 7 Try.f7 rfl rfl rfl rfl rfl rfl rfl ⟨rfl, rfl, rfl, rfl, rfl⟩ rfl rfl rfl rfl rfl (by kernel_rfl) Try.func7 (by kernel_rfl)
    (of_decide_eq_true (by kernel_rfl)) (by unfold Func.isWrapper; first | (rw [if_pos (by decide +kernel)]; kernel_rfl) | (rw [if_neg (by decide +kernel)]; exact ⟨rfl, rfl⟩))
    (fun os started H enc _ => planLater_lifted os started H enc)
#print axioms planLater_holds
end Go.Proofs.Ytmbdimcjpdofoaa

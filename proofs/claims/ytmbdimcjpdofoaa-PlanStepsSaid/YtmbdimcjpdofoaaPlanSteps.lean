/- PlanSteps: how many steps a partition makes between any ticks, and which its next tick is. No condition. -/
import Derived.Test.YtmbdimcjpdofoaaPlanB2
import Derived.Test.YtmbdimcjpdofoaaPlanB3
import Derived.Test.YtmbdimcjpdofoaaPlanLaw
import Derived.Test.YtmbdimcjpdofoaaPlan4
import Derived.Test.YtmbdimcjpdofoaaBig
import Derived.Test.YtmbdimcjpdofoaaCfgArg
import Derived.Test.YtmbdimcjpdofoaaAlive15
import Derived.Test.YtmbdimcjpdofoaaSeq
import Derived.Test.YtmbdimcjpdofoaaRow
namespace Go.Proofs.Ytmbdimcjpdofoaa
open Go.ChangeShapes Go.WideShapes Go.ChangeAt Go.RowKit

theorem shareAll_steps (C : Cfg) (part : Int) : shareAll C part = stepsV C part 0 C.major := by
  unfold shareAll stepsV
  by_cases h : chk C = 0
  · have hF := chk_wins h
    have hm := hF.major
    have ht : tickB C [0, C.major] = true := by
      rw [tickB_two, h, show okT 0 = true from rfl, show okT C.major = true from decide_eq_true (by omega)]
      rfl
    have h0 : uptoV C part 0 = shareV C part 0 := by
      unfold uptoV
      rw [Int.zero_ediv, Int.zero_mul, Int.zero_emod, Int.zero_add]
    have h1 : uptoV C part C.major = shareV C part C.major + shareV C part 0 := by
      unfold uptoV
      rw [Int.ediv_self (by omega), Int.one_mul, Int.emod_self]
    rw [if_pos h, if_pos ⟨ht, by omega⟩, h0, h1]
    omega
  · rw [if_neg h, if_neg]
    rintro ⟨c, _⟩
    rw [tickB_two, beq_eq_false_iff_ne.2 h, Bool.and_false] at c
    cases c

set_option maxRecDepth 100000 in
set_option maxHeartbeats 4000000 in
theorem planSteps_any {C : Cfg} {ap ac aw : Option Addr} {cp cc cw : Nat} (part a b : Int) (w : World) (h : CfgAt w C ap ac aw cp cc cw) :
    Calls Try.prog 9 #[.agg (cfgCells C ap ac aw cp cc cw), .int .i64 part, .int .i64 a, .int .i64 b] w fun e w' => e = .returned (.bool true) ∧ Below w.heap.size w w' := by
  have HB := Box.new w 26 (cfgCells C ap ac aw cp cc cw)
  have HA := h.keep ((Chg.refl w (fun _ => False)).alloc (.cells (cfgCells C ap ac aw cp cc cw) 26))
  obtain ⟨w0, hw0⟩ : ∃ w0, w.alloc (.cells (cfgCells C ap ac aw cp cc cw) 26) = w0 := ⟨_, rfl⟩
  have C0 : Chg w w0 (fun _ => False) := by rw [← hw0]; exact (Chg.refl _ _).alloc _
  rw [hw0] at HB HA
  unfold cfgCells at *
  go_enter Try.func9, Try.ntmps9
  go_wp2_with fail
  clear hw0
  refine (alive15 _).mono ?_
  rintro e w1 ⟨rfl, C1⟩
  have HKB : ∀ w', Chg w0 w' (fun _ => False) → Box w' w.heap.size 26 #[.int .i64 C.pages, .int .i64 C.major, .int .i64 C.switch, .slice ap C.parts.length cp, .slice ac C.chans.length cc, .slice aw C.wins.length cw] := fun w' c => HB.chg c (fun h => h)
  replace HKB := Lib.hid HKB
  replace HA := Lib.hid HA
  clear HB
  have B := HKB.out _ C1
  have x0 := B.cell 0
  have x1 := B.cell 1
  have x2 := B.cell 2
  have x3 := B.cell 3
  have x4 := B.cell 4
  have x5 := B.cell 5
  clear B
  go_wp2_with fail
  refine (big_any _ (HA.out.keep C1)).mono ?_
  rintro e w2 ⟨rfl, C2'⟩
  have C2 := C1.trans C2'
  clear x0 x1 x2 x3 x4 x5 C2'
  cases hbig : bigV C
  case true =>
    clear hbig
    go_wp2_with fail
    go_ret
    exact ⟨rfl, (C0.trans C2).below_of (Nat.le_refl _) (fun _ h => h.elim)⟩
  clear hbig
  have B := HKB.out _ C2
  have x0 := B.cell 0
  have x1 := B.cell 1
  have x2 := B.cell 2
  have x3 := B.cell 3
  have x4 := B.cell 4
  have x5 := B.cell 5
  clear B
  go_wp2_with fail
  refine (next_any _ (HA.out.keep C2) part a).mono ?_
  rintro e w3 ⟨rfl, C3'⟩
  have C3 := C2.trans C3'
  clear x0 x1 x2 x3 x4 x5 C3'
  have B := HKB.out _ C3
  have x0 := B.cell 0
  have x1 := B.cell 1
  have x2 := B.cell 2
  have x3 := B.cell 3
  have x4 := B.cell 4
  have x5 := B.cell 5
  clear B
  go_wp2_with fail
  refine (rnext_any _ (HA.out.keep C3) part a).mono ?_
  rintro e w4 ⟨rfl, C4'⟩
  have C4 := C3.trans C4'
  clear x0 x1 x2 x3 x4 x5 C4'
  obtain ⟨nv, hnv⟩ : ∃ nv, nextV C part a = nv := ⟨_, rfl⟩
  obtain ⟨sv, hsv⟩ : ∃ sv, stepsV C part a b = sv := ⟨_, rfl⟩
  obtain ⟨av, hav⟩ : ∃ av, shareAll C part = av := ⟨_, rfl⟩
  have hav2 : stepsV C part 0 C.major = av := by rw [← hav, shareAll_steps]
  have HSV := Lib.hid hsv
  have HAV := Lib.hid hav
  have HAW := Lib.hid hav2
  rw [hnv]
  clear hnv hsv hav hav2
  obtain ⟨n1, n2⟩ := nv
  go_wp2_with fail
  refine wp_region_noPanic ?_
  refine seq_begin (fun w' => Chg w0 w' (fun _ => False)) (by kernel_rfl) (C4.drew) ?_
  refine seq_op 0 (oi := ?oq0) (v := ?vq0) ?hq0 (by kernel_rfl) (by kernel_rfl) (by kernel_rfl) (fun _ _ _ h => h) ?wq0 (fun K wq hS hK => ?yq0) ?rq0
  case hq0 => simp only [List.getElem?_toArray, List.getElem?_cons_succ, List.getElem?_cons_zero]; rfl
  case wq0 => rfl
  case yq0 =>
    have HS := Lib.hid hS
    have B := HKB.out _ hS
    have x0 := B.cell 0
    have x1 := B.cell 1
    have x2 := B.cell 2
    have x3 := B.cell 3
    have x4 := B.cell 4
    have x5 := B.cell 5
    clear hS B
    go_simp
    have hS2 := HS.out
    exact hK.out _ hS2
  try simp only [Act.put, List.setIfInBounds_toArray, List.set_cons_zero, List.set_cons_succ]
  refine seq_op 1 (oi := ?oq1) (v := ?vq1) ?hq1 (by kernel_rfl) (by kernel_rfl) (by kernel_rfl) (fun _ _ _ h => h) ?wq1 (fun K wq hS hK => ?yq1) ?rq1
  case hq1 => simp only [List.getElem?_toArray, List.getElem?_cons_succ, List.getElem?_cons_zero]; rfl
  case wq1 => rfl
  case yq1 =>
    have HS := Lib.hid hS
    try dsimp only at hS
    go_simp
    exact hK.out _ HS.out
  try simp only [Act.put, List.setIfInBounds_toArray, List.set_cons_zero, List.set_cons_succ]
  refine seq_op 2 (oi := ?oq2) (v := ?vq2) ?hq2 (by kernel_rfl) (by kernel_rfl) (by kernel_rfl) (fun _ _ _ h => h) ?wq2 (fun K wq hS hK => ?yq2) ?rq2
  case hq2 => simp only [List.getElem?_toArray, List.getElem?_cons_succ, List.getElem?_cons_zero]; rfl
  case wq2 => rfl
  case yq2 =>
    have HS := Lib.hid hS
    try dsimp only at hS
    go_simp
    exact hK.out _ HS.out
  try simp only [Act.put, List.setIfInBounds_toArray, List.set_cons_zero, List.set_cons_succ]
  refine seq_op 3 (oi := ?oq3) (v := ?vq3) ?hq3 (by kernel_rfl) (by kernel_rfl) (by kernel_rfl) (fun _ _ _ h => h) ?wq3 (fun K wq hS hK => ?yq3) ?rq3
  case hq3 => simp only [List.getElem?_toArray, List.getElem?_cons_succ, List.getElem?_cons_zero]; rfl
  case wq3 => rfl
  case yq3 =>
    have HS := Lib.hid hS
    try dsimp only at hS
    go_simp
    exact hK.out _ HS.out
  try simp only [Act.put, List.setIfInBounds_toArray, List.set_cons_zero, List.set_cons_succ]
  refine seq_op 4 (oi := ?oq4) (v := ?vq4) ?hq4 (by kernel_rfl) (by kernel_rfl) (by kernel_rfl) (fun _ _ _ h => h) ?wq4 (fun K wq hS hK => ?yq4) ?rq4
  case hq4 => simp only [List.getElem?_toArray, List.getElem?_cons_succ, List.getElem?_cons_zero]; rfl
  case wq4 => rfl
  case yq4 =>
    have HS := Lib.hid hS
    have HX := HA.out.keep hS
    clear hS
    go_simp
    refine (steps_any _ HX part a b).mono ?_
    rintro e w8 ⟨rfl, C8⟩
    have hS2 := HS.out.trans C8
    rw [HSV.out]
    exact hK.out _ hS2
  try simp only [Act.put, List.setIfInBounds_toArray, List.set_cons_zero, List.set_cons_succ]
  refine seq_op 5 (oi := ?oq5) (v := ?vq5) ?hq5 (by kernel_rfl) (by kernel_rfl) (by kernel_rfl) (fun _ _ _ h => h) ?wq5 (fun K wq hS hK => ?yq5) ?rq5
  case hq5 => simp only [List.getElem?_toArray, List.getElem?_cons_succ, List.getElem?_cons_zero]; rfl
  case wq5 => rfl
  case yq5 =>
    have HS := Lib.hid hS
    have B := HKB.out _ hS
    have x0 := B.cell 0
    have x1 := B.cell 1
    have x2 := B.cell 2
    have x3 := B.cell 3
    have x4 := B.cell 4
    have x5 := B.cell 5
    clear hS B
    go_simp
    have hS2 := HS.out
    exact hK.out _ hS2
  try simp only [Act.put, List.setIfInBounds_toArray, List.set_cons_zero, List.set_cons_succ]
  refine seq_op 6 (oi := ?oq6) (v := ?vq6) ?hq6 (by kernel_rfl) (by kernel_rfl) (by kernel_rfl) (fun _ _ _ h => h) ?wq6 (fun K wq hS hK => ?yq6) ?rq6
  case hq6 => simp only [List.getElem?_toArray, List.getElem?_cons_succ, List.getElem?_cons_zero]; rfl
  case wq6 => rfl
  case yq6 =>
    have HS := Lib.hid hS
    try dsimp only at hS
    go_simp
    exact hK.out _ HS.out
  try simp only [Act.put, List.setIfInBounds_toArray, List.set_cons_zero, List.set_cons_succ]
  refine seq_op 7 (oi := ?oq7) (v := ?vq7) ?hq7 (by kernel_rfl) (by kernel_rfl) (by kernel_rfl) (fun _ _ _ h => h) ?wq7 (fun K wq hS hK => ?yq7) ?rq7
  case hq7 => simp only [List.getElem?_toArray, List.getElem?_cons_succ, List.getElem?_cons_zero]; rfl
  case wq7 => rfl
  case yq7 =>
    have HS := Lib.hid hS
    try dsimp only at hS
    go_simp
    exact hK.out _ HS.out
  try simp only [Act.put, List.setIfInBounds_toArray, List.set_cons_zero, List.set_cons_succ]
  refine seq_op 8 (oi := ?oq8) (v := ?vq8) ?hq8 (by kernel_rfl) (by kernel_rfl) (by kernel_rfl) (fun _ _ _ h => h) ?wq8 (fun K wq hS hK => ?yq8) ?rq8
  case hq8 => simp only [List.getElem?_toArray, List.getElem?_cons_succ, List.getElem?_cons_zero]; rfl
  case wq8 => rfl
  case yq8 =>
    have HS := Lib.hid hS
    try dsimp only at hS
    go_simp
    exact hK.out _ HS.out
  try simp only [Act.put, List.setIfInBounds_toArray, List.set_cons_zero, List.set_cons_succ]
  refine seq_op 9 (oi := ?oq9) (v := ?vq9) ?hq9 (by kernel_rfl) (by kernel_rfl) (by kernel_rfl) (fun _ _ _ h => h) ?wq9 (fun K wq hS hK => ?yq9) ?rq9
  case hq9 => simp only [List.getElem?_toArray, List.getElem?_cons_succ, List.getElem?_cons_zero]; rfl
  case wq9 => rfl
  case yq9 =>
    have HS := Lib.hid hS
    have HX := HA.out.keep hS
    clear hS
    go_simp
    refine (rsteps_any _ HX part a b).mono ?_
    rintro e w8 ⟨rfl, C8⟩
    have hS2 := HS.out.trans C8
    rw [HSV.out]
    exact hK.out _ hS2
  try simp only [Act.put, List.setIfInBounds_toArray, List.set_cons_zero, List.set_cons_succ]
  refine seq_op 10 (oi := ?oq10) (v := ?vq10) ?hq10 (by kernel_rfl) (by kernel_rfl) (by kernel_rfl) (fun _ _ _ h => h) ?wq10 (fun K wq hS hK => ?yq10) ?rq10
  case hq10 => simp only [List.getElem?_toArray, List.getElem?_cons_succ, List.getElem?_cons_zero]; rfl
  case wq10 => rfl
  case yq10 =>
    have HS := Lib.hid hS
    try dsimp only at hS
    go_simp
    exact hK.out _ HS.out
  try simp only [Act.put, List.setIfInBounds_toArray, List.set_cons_zero, List.set_cons_succ]
  refine seq_op 11 (oi := ?oq11) (v := ?vq11) ?hq11 (by kernel_rfl) (by kernel_rfl) (by kernel_rfl) (fun _ _ _ h => h) ?wq11 (fun K wq hS hK => ?yq11) ?rq11
  case hq11 => simp only [List.getElem?_toArray, List.getElem?_cons_succ, List.getElem?_cons_zero]; rfl
  case wq11 => rfl
  case yq11 =>
    have HS := Lib.hid hS
    try dsimp only at hS
    go_simp
    exact hK.out _ HS.out
  try simp only [Act.put, List.setIfInBounds_toArray, List.set_cons_zero, List.set_cons_succ]
  refine seq_op 12 (oi := ?oq12) (v := ?vq12) ?hq12 (by kernel_rfl) (by kernel_rfl) (by kernel_rfl) (fun _ _ _ h => h) ?wq12 (fun K wq hS hK => ?yq12) ?rq12
  case hq12 => simp only [List.getElem?_toArray, List.getElem?_cons_succ, List.getElem?_cons_zero]; rfl
  case wq12 => rfl
  case yq12 =>
    have HS := Lib.hid hS
    try dsimp only at hS
    go_simp
    exact hK.out _ HS.out
  try simp only [Act.put, List.setIfInBounds_toArray, List.set_cons_zero, List.set_cons_succ]
  refine seq_op 13 (oi := ?oq13) (v := ?vq13) ?hq13 (by kernel_rfl) (by kernel_rfl) (by kernel_rfl) (fun _ _ _ h => h) ?wq13 (fun K wq hS hK => ?yq13) ?rq13
  case hq13 => simp only [List.getElem?_toArray, List.getElem?_cons_succ, List.getElem?_cons_zero]; rfl
  case wq13 => rfl
  case yq13 =>
    have HS := Lib.hid hS
    try dsimp only at hS
    go_simp
    exact hK.out _ HS.out
  try simp only [Act.put, List.setIfInBounds_toArray, List.set_cons_zero, List.set_cons_succ]
  refine seq_op 14 (oi := ?oq14) (v := ?vq14) ?hq14 (by kernel_rfl) (by kernel_rfl) (by kernel_rfl) (fun _ _ _ h => h) ?wq14 (fun K wq hS hK => ?yq14) ?rq14
  case hq14 => simp only [List.getElem?_toArray, List.getElem?_cons_succ, List.getElem?_cons_zero]; rfl
  case wq14 => rfl
  case yq14 =>
    have HS := Lib.hid hS
    try dsimp only at hS
    go_simp
    exact hK.out _ HS.out
  try simp only [Act.put, List.setIfInBounds_toArray, List.set_cons_zero, List.set_cons_succ]
  refine seq_op 15 (oi := ?oq15) (v := ?vq15) ?hq15 (by kernel_rfl) (by kernel_rfl) (by kernel_rfl) (fun _ _ _ h => h) ?wq15 (fun K wq hS hK => ?yq15) ?rq15
  case hq15 => simp only [List.getElem?_toArray, List.getElem?_cons_succ, List.getElem?_cons_zero]; rfl
  case wq15 => rfl
  case yq15 =>
    have HS := Lib.hid hS
    try dsimp only at hS
    go_simp
    exact hK.out _ HS.out
  try simp only [Act.put, List.setIfInBounds_toArray, List.set_cons_zero, List.set_cons_succ]
  refine seq_op 16 (oi := ?oq16) (v := ?vq16) ?hq16 (by kernel_rfl) (by kernel_rfl) (by kernel_rfl) (fun _ _ _ h => h) ?wq16 (fun K wq hS hK => ?yq16) ?rq16
  case hq16 => simp only [List.getElem?_toArray, List.getElem?_cons_succ, List.getElem?_cons_zero]; rfl
  case wq16 => rfl
  case yq16 =>
    have HS := Lib.hid hS
    try dsimp only at hS
    go_simp
    exact hK.out _ HS.out
  try simp only [Act.put, List.setIfInBounds_toArray, List.set_cons_zero, List.set_cons_succ]
  refine seq_op 17 (oi := ?oq17) (v := ?vq17) ?hq17 (by kernel_rfl) (by kernel_rfl) (by kernel_rfl) (fun _ _ _ h => h) ?wq17 (fun K wq hS hK => ?yq17) ?rq17
  case hq17 => simp only [List.getElem?_toArray, List.getElem?_cons_succ, List.getElem?_cons_zero]; rfl
  case wq17 => rfl
  case yq17 =>
    have HS := Lib.hid hS
    try dsimp only at hS
    go_simp
    exact hK.out _ HS.out
  try simp only [Act.put, List.setIfInBounds_toArray, List.set_cons_zero, List.set_cons_succ]
  refine seq_op 18 (oi := ?oq18) (v := ?vq18) ?hq18 (by kernel_rfl) (by kernel_rfl) (by kernel_rfl) (fun _ _ _ h => h) ?wq18 (fun K wq hS hK => ?yq18) ?rq18
  case hq18 => simp only [List.getElem?_toArray, List.getElem?_cons_succ, List.getElem?_cons_zero]; rfl
  case wq18 => rfl
  case yq18 =>
    have HS := Lib.hid hS
    try dsimp only at hS
    go_simp
    exact hK.out _ HS.out
  try simp only [Act.put, List.setIfInBounds_toArray, List.set_cons_zero, List.set_cons_succ]
  refine seq_op 19 (oi := ?oq19) (v := ?vq19) ?hq19 (by kernel_rfl) (by kernel_rfl) (by kernel_rfl) (fun _ _ _ h => h) ?wq19 (fun K wq hS hK => ?yq19) ?rq19
  case hq19 => simp only [List.getElem?_toArray, List.getElem?_cons_succ, List.getElem?_cons_zero]; rfl
  case wq19 => rfl
  case yq19 =>
    have HS := Lib.hid hS
    try dsimp only at hS
    go_simp
    exact hK.out _ HS.out
  try simp only [Act.put, List.setIfInBounds_toArray, List.set_cons_zero, List.set_cons_succ]
  refine seq_op 20 (oi := ?oq20) (v := ?vq20) ?hq20 (by kernel_rfl) (by kernel_rfl) (by kernel_rfl) (fun _ _ _ h => h) ?wq20 (fun K wq hS hK => ?yq20) ?rq20
  case hq20 => simp only [List.getElem?_toArray, List.getElem?_cons_succ, List.getElem?_cons_zero]; rfl
  case wq20 => rfl
  case yq20 =>
    have HS := Lib.hid hS
    try dsimp only at hS
    go_simp
    exact hK.out _ HS.out
  try simp only [Act.put, List.setIfInBounds_toArray, List.set_cons_zero, List.set_cons_succ]
  refine seq_op 21 (oi := ?oq21) (v := ?vq21) ?hq21 (by kernel_rfl) (by kernel_rfl) (by kernel_rfl) (fun _ _ _ h => h) ?wq21 (fun K wq hS hK => ?yq21) ?rq21
  case hq21 => simp only [List.getElem?_toArray, List.getElem?_cons_succ, List.getElem?_cons_zero]; rfl
  case wq21 => rfl
  case yq21 =>
    have HS := Lib.hid hS
    try dsimp only at hS
    go_simp
    exact hK.out _ HS.out
  try simp only [Act.put, List.setIfInBounds_toArray, List.set_cons_zero, List.set_cons_succ]
  refine seq_op 22 (oi := ?oq22) (v := ?vq22) ?hq22 (by kernel_rfl) (by kernel_rfl) (by kernel_rfl) (fun _ _ _ h => h) ?wq22 (fun K wq hS hK => ?yq22) ?rq22
  case hq22 => simp only [List.getElem?_toArray, List.getElem?_cons_succ, List.getElem?_cons_zero]; rfl
  case wq22 => rfl
  case yq22 =>
    have HS := Lib.hid hS
    have B := HKB.out _ hS
    have x0 := B.cell 0
    have x1 := B.cell 1
    have x2 := B.cell 2
    have x3 := B.cell 3
    have x4 := B.cell 4
    have x5 := B.cell 5
    clear hS B
    go_simp
    have hS2 := HS.out
    exact hK.out _ hS2
  try simp only [Act.put, List.setIfInBounds_toArray, List.set_cons_zero, List.set_cons_succ]
  refine seq_op 23 (oi := ?oq23) (v := ?vq23) ?hq23 (by kernel_rfl) (by kernel_rfl) (by kernel_rfl) (fun _ _ _ h => h) ?wq23 (fun K wq hS hK => ?yq23) ?rq23
  case hq23 => simp only [List.getElem?_toArray, List.getElem?_cons_succ, List.getElem?_cons_zero]; rfl
  case wq23 => rfl
  case yq23 =>
    have HS := Lib.hid hS
    try dsimp only at hS
    go_simp
    exact hK.out _ HS.out
  try simp only [Act.put, List.setIfInBounds_toArray, List.set_cons_zero, List.set_cons_succ]
  refine seq_op 24 (oi := ?oq24) (v := ?vq24) ?hq24 (by kernel_rfl) (by kernel_rfl) (by kernel_rfl) (fun _ _ _ h => h) ?wq24 (fun K wq hS hK => ?yq24) ?rq24
  case hq24 => simp only [List.getElem?_toArray, List.getElem?_cons_succ, List.getElem?_cons_zero]; rfl
  case wq24 => rfl
  case yq24 =>
    have HS := Lib.hid hS
    have HX := HA.out.keep hS
    clear hS
    go_simp
    refine (shareall_any _ HX part).mono ?_
    rintro e w8 ⟨rfl, C8⟩
    have hS2 := HS.out.trans C8
    rw [HAV.out]
    exact hK.out _ hS2
  try simp only [Act.put, List.setIfInBounds_toArray, List.set_cons_zero, List.set_cons_succ]
  refine seq_op 25 (oi := ?oq25) (v := ?vq25) ?hq25 (by kernel_rfl) (by kernel_rfl) (by kernel_rfl) (fun _ _ _ h => h) ?wq25 (fun K wq hS hK => ?yq25) ?rq25
  case hq25 => simp only [List.getElem?_toArray, List.getElem?_cons_succ, List.getElem?_cons_zero]; rfl
  case wq25 => rfl
  case yq25 =>
    have HS := Lib.hid hS
    have B := HKB.out _ hS
    have x0 := B.cell 0
    have x1 := B.cell 1
    have x2 := B.cell 2
    have x3 := B.cell 3
    have x4 := B.cell 4
    have x5 := B.cell 5
    clear hS B
    go_simp
    have hS2 := HS.out
    exact hK.out _ hS2
  try simp only [Act.put, List.setIfInBounds_toArray, List.set_cons_zero, List.set_cons_succ]
  refine seq_op 26 (oi := ?oq26) (v := ?vq26) ?hq26 (by kernel_rfl) (by kernel_rfl) (by kernel_rfl) (fun _ _ _ h => h) ?wq26 (fun K wq hS hK => ?yq26) ?rq26
  case hq26 => simp only [List.getElem?_toArray, List.getElem?_cons_succ, List.getElem?_cons_zero]; rfl
  case wq26 => rfl
  case yq26 =>
    have HS := Lib.hid hS
    try dsimp only at hS
    go_simp
    exact hK.out _ HS.out
  try simp only [Act.put, List.setIfInBounds_toArray, List.set_cons_zero, List.set_cons_succ]
  refine seq_op 27 (oi := ?oq27) (v := ?vq27) ?hq27 (by kernel_rfl) (by kernel_rfl) (by kernel_rfl) (fun _ _ _ h => h) ?wq27 (fun K wq hS hK => ?yq27) ?rq27
  case hq27 => simp only [List.getElem?_toArray, List.getElem?_cons_succ, List.getElem?_cons_zero]; rfl
  case wq27 => rfl
  case yq27 =>
    have HS := Lib.hid hS
    try dsimp only at hS
    go_simp
    exact hK.out _ HS.out
  try simp only [Act.put, List.setIfInBounds_toArray, List.set_cons_zero, List.set_cons_succ]
  refine seq_op 28 (oi := ?oq28) (v := ?vq28) ?hq28 (by kernel_rfl) (by kernel_rfl) (by kernel_rfl) (fun _ _ _ h => h) ?wq28 (fun K wq hS hK => ?yq28) ?rq28
  case hq28 => simp only [List.getElem?_toArray, List.getElem?_cons_succ, List.getElem?_cons_zero]; rfl
  case wq28 => rfl
  case yq28 =>
    have HS := Lib.hid hS
    have B := HKB.out _ hS
    have x0 := B.cell 0
    have x1 := B.cell 1
    have x2 := B.cell 2
    have x3 := B.cell 3
    have x4 := B.cell 4
    have x5 := B.cell 5
    clear hS B
    go_simp
    have hS2 := HS.out
    exact hK.out _ hS2
  try simp only [Act.put, List.setIfInBounds_toArray, List.set_cons_zero, List.set_cons_succ]
  refine seq_op 29 (oi := ?oq29) (v := ?vq29) ?hq29 (by kernel_rfl) (by kernel_rfl) (by kernel_rfl) (fun _ _ _ h => h) ?wq29 (fun K wq hS hK => ?yq29) ?rq29
  case hq29 => simp only [List.getElem?_toArray, List.getElem?_cons_succ, List.getElem?_cons_zero]; rfl
  case wq29 => rfl
  case yq29 =>
    have HS := Lib.hid hS
    have HX := HA.out.keep hS
    clear hS
    go_simp
    refine (rsteps_any _ HX part 0 C.major).mono ?_
    rintro e w8 ⟨rfl, C8⟩
    have hS2 := HS.out.trans C8
    rw [HAW.out]
    exact hK.out _ hS2
  try simp only [Act.put, List.setIfInBounds_toArray, List.set_cons_zero, List.set_cons_succ]
  refine seq_op 30 (oi := ?oq30) (v := ?vq30) ?hq30 (by kernel_rfl) (by kernel_rfl) (by kernel_rfl) (fun _ _ _ h => h) ?wq30 (fun K wq hS hK => ?yq30) ?rq30
  case hq30 => simp only [List.getElem?_toArray, List.getElem?_cons_succ, List.getElem?_cons_zero]; rfl
  case wq30 => rfl
  case yq30 =>
    have HS := Lib.hid hS
    try dsimp only at hS
    go_simp
    exact hK.out _ HS.out
  try simp only [Act.put, List.setIfInBounds_toArray, List.set_cons_zero, List.set_cons_succ]
  refine seq_op 31 (oi := ?oq31) (v := ?vq31) ?hq31 (by kernel_rfl) (by kernel_rfl) (by kernel_rfl) (fun _ _ _ h => h) ?wq31 (fun K wq hS hK => ?yq31) ?rq31
  case hq31 => simp only [List.getElem?_toArray, List.getElem?_cons_succ, List.getElem?_cons_zero]; rfl
  case wq31 => rfl
  case yq31 =>
    have HS := Lib.hid hS
    try dsimp only at hS
    go_simp
    exact hK.out _ HS.out
  try simp only [Act.put, List.setIfInBounds_toArray, List.set_cons_zero, List.set_cons_succ]
  refine seq_op 32 (oi := ?oq32) (v := ?vq32) ?hq32 (by kernel_rfl) (by kernel_rfl) (by kernel_rfl) (fun _ _ _ h => h) ?wq32 (fun K wq hS hK => ?yq32) ?rq32
  case hq32 => simp only [List.getElem?_toArray, List.getElem?_cons_succ, List.getElem?_cons_zero]; rfl
  case wq32 => rfl
  case yq32 =>
    have HS := Lib.hid hS
    try dsimp only at hS
    go_simp
    exact hK.out _ HS.out
  try simp only [Act.put, List.setIfInBounds_toArray, List.set_cons_zero, List.set_cons_succ]
  refine seq_done (by kernel_rfl) (fun wz hSz => ?_) _
  refine NoPanic.normal ?_
  go_wp2_with fail
  go_ret
  exact ⟨rfl, (C0.trans hSz).below_of (Nat.le_refl _) (fun _ h => h.elim)⟩

set_option maxRecDepth 100000 in
theorem planSteps_walk : LawWalk 9 Try.f9 := by
  intro H enc W base args ds p hval hA
  rw [Try.params9] at hA hval
  obtain ⟨v0, v1, v2, v3, d0, d1, d2, d3, p0, p1, p2, p3, rfl, rfl, rfl, h0, h1, h2, h3⟩ := trodAll_four hA
  obtain ⟨C, ap, ac, aw, cp, cc, cw, rfl, hC, _⟩ := open_cfg (hval 0 26 v0 rfl rfl) h0
  obtain ⟨a1, rfl, rfl, rfl, w1⟩ := open_int Try.underlying3 (hval 1 3 v1 rfl rfl) h1
  obtain ⟨a2, rfl, rfl, rfl, w2⟩ := open_int Try.underlying3 (hval 2 3 v2 rfl rfl) h2
  obtain ⟨a3, rfl, rfl, rfl, w3⟩ := open_int Try.underlying3 (hval 3 3 v3 rfl rfl) h3
  exact planSteps_any a1 a2 a3 W hC

set_option maxRecDepth 100000 in
theorem planSteps_lifted (os : Os) (started : os.Started) (H : Type) (enc : TypeId × Value → H) :
    ReturnsInHanded {} Try.checked os 9 .any (Rows.planStepsSpec.pre6 enc Try.prog Try.f9 Rows.planStepsRow.domain false) (Rows.planStepsSpec.post enc Try.prog Try.f9 false true false false) :=
  law_lifted (s := Rows.planStepsSpec) Try.func9 (by kernel_rfl) rfl (by kernel_rfl) (by kernel_rfl)
    (fun H ds h => by
      match ds, h with
      | [d0, d1, d2, d3], _ => rfl)
    planSteps_walk os started H enc
    (ChangeSpec.witness6 (enc := enc) (C := Try.checked) false ⟨#[], #[.agg #[.int .i64 0, .int .i64 0, .int .i64 0, .slice none 0 0, .slice none 0 0, .slice none 0 0], .int .i64 0, .int .i64 0, .int .i64 0], []⟩ 8 (by kernel_rfl) (by kernel_rfl) (by kernel_rfl) (by kernel_rfl))

set_option maxRecDepth 100000 in
/-- THE STATEMENT. -/
theorem planSteps_holds : Rows.PlanStepsSaid :=
  OpenClaim.holds_of_wide 9 Try.f9 rfl rfl rfl rfl rfl rfl rfl ⟨rfl, rfl, rfl, rfl, rfl⟩ rfl rfl rfl rfl rfl (by kernel_rfl) Try.func9 (by kernel_rfl)
    (of_decide_eq_true (by kernel_rfl)) (by unfold Func.isWrapper; first | (rw [if_pos (by decide +kernel)]; kernel_rfl) | (rw [if_neg (by decide +kernel)]; exact ⟨rfl, rfl⟩))
    (fun os started H enc _ => planSteps_lifted os started H enc)
#print axioms planSteps_holds
end Go.Proofs.Ytmbdimcjpdofoaa

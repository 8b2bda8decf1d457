/- plan: Steps, Share, Next. -/
import Derived.Test.YtmbdimcjpdofoaaPlan2
namespace Go.Proofs.Ytmbdimcjpdofoaa
open Go.RowKit

set_option maxHeartbeats 2000000 in
theorem steps_any {C : Cfg} {ap ac aw : Option Addr} {cp cc cw : Nat} (w : World) (h : CfgAt w C ap ac aw cp cc cw) (part a b : Int) :
    Calls Try.prog 13 #[.agg (cfgCells C ap ac aw cp cc cw), .int .i64 part, .int .i64 a, .int .i64 b] w fun e w' => e = .returned (.int .i64 (stepsV C part a b)) ∧ Chg w w' (fun _ => False) := by
  have HB := Box.new w 26 (cfgCells C ap ac aw cp cc cw)
  have HA := h.keep ((Chg.refl w (fun _ => False)).alloc (.cells (cfgCells C ap ac aw cp cc cw) 26))
  have HBT := Box.new (w.alloc (.cells (cfgCells C ap ac aw cp cc cw) 26)) 3 #[.int .i64 a, .int .i64 b]
  have HA2 := HA.keep ((Chg.refl _ (fun _ => False)).alloc (.cells #[.int .i64 a, .int .i64 b] 3))
  rw [show (w.alloc (.cells (cfgCells C ap ac aw cp cc cw) 26)).heap.size = w.heap.size + 1 by simp] at HBT
  obtain ⟨tb, htb⟩ : ∃ tb, tickB C [a, b] = tb := ⟨_, rfl⟩
  have HT := ticks_box (n := 2) [a, b] HA2 HBT rfl (by decide) htb
  have HV : Hid (stepsV C part a b = if tb = true ∧ a ≤ b then uptoV C part b - uptoV C part a else 0) := by show _ = _; rw [← htb]; rfl
  have C2 : Chg w ((w.alloc (.cells (cfgCells C ap ac aw cp cc cw) 26)).alloc (.cells #[.int .i64 a, .int .i64 b] 3)) (fun _ => False) := ((Chg.refl _ _).alloc _).alloc _
  have HB2 := (HB.alloc (.cells #[.int .i64 a, .int .i64 b] 3))
  cases tb
  · have HR : Hid (stepsV C part a b = 0) := by show _ = _; rw [HV.out, if_neg (by simp)]
    clear htb
    unfold cfgCells at *
    go_enter Try.func13, Try.ntmps13
    go_wp2_with fail
    refine HT.mono ?_
    rintro e w1 ⟨rfl, C1⟩
    go_wp2_with fail
    go_ret
    exact ⟨ret_int HR.out.symm, C2.trans C1⟩
  obtain ⟨hF, _, hr⟩ := tick_wf htb
  have hra := hr a (by simp)
  have hrb := hr b (by simp)
  by_cases hab : b < a
  · have q1 : decide (b < a) = true := decide_eq_true hab
    have HR : Hid (stepsV C part a b = 0) := by show _ = _; rw [HV.out, if_neg (by omega)]
    clear htb hab
    unfold cfgCells at *
    go_enter Try.func13, Try.ntmps13
    go_wp2_with fail
    refine HT.mono ?_
    rintro e w1 ⟨rfl, C1⟩
    go_wp2_with fail
    go_ret
    exact ⟨ret_int HR.out.symm, C2.trans C1⟩
  have q1 : decide (b < a) = false := decide_eq_false hab
  have HR : Hid (stepsV C part a b = uptoV C part b - uptoV C part a) := by show _ = _; rw [HV.out, if_pos ⟨rfl, by omega⟩]
  have HUA := Lib.hid (fun w1 (c : Chg _ w1 (fun _ => False)) => upto_any w1 (HA2.keep c) hF part a hra.1 hra.2)
  have HUB := Lib.hid (fun w1 (c : Chg _ w1 (fun _ => False)) => upto_any w1 (HA2.keep c) hF part b hrb.1 hrb.2)
  have l1 := uptoV_le hF part hra.1 hra.2
  have l2 := uptoV_le hF part hrb.1 hrb.2
  obtain ⟨ua, hua⟩ : ∃ ua, uptoV C part a = ua := ⟨_, rfl⟩
  obtain ⟨ub, hub⟩ : ∃ ub, uptoV C part b = ub := ⟨_, rfl⟩
  rw [hua] at HUA HR l1
  rw [hub] at HUB HR l2
  have y1 : IntKind.i64.wrap (ub - ua) = ub - ua := IntWalk.i64_in _ (by omega)
  clear htb hab hF hr hra hrb hua hub l1 l2
  replace HB2 := Lib.hid HB2
  unfold cfgCells at *
  have B0 := HB2.out
  go_enter Try.func13, Try.ntmps13
  go_wp2_with fail
  refine HT.mono ?_
  rintro e w1 ⟨rfl, C1⟩
  go_wp2_with fail
  refine wp_region_noPanic ?_
  refine seq_begin (fun w' => Chg ((w.alloc (.cells #[.int .i64 C.pages, .int .i64 C.major, .int .i64 C.switch, .slice ap C.parts.length cp, .slice ac C.chans.length cc, .slice aw C.wins.length cw] 26)).alloc (.cells #[.int .i64 a, .int .i64 b] 3)) w' (fun _ => False)) (by kernel_rfl) (C1.drew) ?_
  refine seq_op 0 (oi := ?oq0) (v := ?vq0) ?hq0 (by kernel_rfl) (by kernel_rfl) (by kernel_rfl) (fun _ _ _ h => h) ?wq0 (fun K wq hS hK => ?yq0) ?rq0
  case hq0 => simp only [List.getElem?_toArray, List.getElem?_cons_succ, List.getElem?_cons_zero]; rfl
  case wq0 => rfl
  case yq0 =>
    have HS := Lib.hid hS
    have B := HB2.out.chg hS (fun h => h)
    have x0 := B.cell 0
    have x1 := B.cell 1
    have x2 := B.cell 2
    have x3 := B.cell 3
    have x4 := B.cell 4
    have x5 := B.cell 5
    clear hS B
    go_simp
    have hS2 := HS.out
    exact hK.out _ hS2
  try simp only [Act.put, List.setIfInBounds_toArray, List.set_cons_zero, List.set_cons_succ]
  refine seq_op 1 (oi := ?oq1) (v := ?vq1) ?hq1 (by kernel_rfl) (by kernel_rfl) (by kernel_rfl) (fun _ _ _ h => h) ?wq1 (fun K wq hS hK => ?yq1) ?rq1
  case hq1 => simp only [List.getElem?_toArray, List.getElem?_cons_succ, List.getElem?_cons_zero]; rfl
  case wq1 => rfl
  case yq1 =>
    have HS := Lib.hid hS
    try dsimp only at hS
    go_simp
    exact hK.out _ HS.out
  try simp only [Act.put, List.setIfInBounds_toArray, List.set_cons_zero, List.set_cons_succ]
  refine seq_op 2 (oi := ?oq2) (v := ?vq2) ?hq2 (by kernel_rfl) (by kernel_rfl) (by kernel_rfl) (fun _ _ _ h => h) ?wq2 (fun K wq hS hK => ?yq2) ?rq2
  case hq2 => simp only [List.getElem?_toArray, List.getElem?_cons_succ, List.getElem?_cons_zero]; rfl
  case wq2 => rfl
  case yq2 =>
    have HS := Lib.hid hS
    try dsimp only at hS
    go_simp
    exact hK.out _ HS.out
  try simp only [Act.put, List.setIfInBounds_toArray, List.set_cons_zero, List.set_cons_succ]
  refine seq_op 3 (oi := ?oq3) (v := ?vq3) ?hq3 (by kernel_rfl) (by kernel_rfl) (by kernel_rfl) (fun _ _ _ h => h) ?wq3 (fun K wq hS hK => ?yq3) ?rq3
  case hq3 => simp only [List.getElem?_toArray, List.getElem?_cons_succ, List.getElem?_cons_zero]; rfl
  case wq3 => rfl
  case yq3 =>
    have HS := Lib.hid hS
    clear hS
    go_simp
    refine (HUB.out _ HS.out).mono ?_
    rintro e w8 ⟨rfl, C8⟩
    have hS2 := HS.out.trans C8
    exact hK.out _ hS2
  try simp only [Act.put, List.setIfInBounds_toArray, List.set_cons_zero, List.set_cons_succ]
  refine seq_op 4 (oi := ?oq4) (v := ?vq4) ?hq4 (by kernel_rfl) (by kernel_rfl) (by kernel_rfl) (fun _ _ _ h => h) ?wq4 (fun K wq hS hK => ?yq4) ?rq4
  case hq4 => simp only [List.getElem?_toArray, List.getElem?_cons_succ, List.getElem?_cons_zero]; rfl
  case wq4 => rfl
  case yq4 =>
    have HS := Lib.hid hS
    have B := HB2.out.chg hS (fun h => h)
    have x0 := B.cell 0
    have x1 := B.cell 1
    have x2 := B.cell 2
    have x3 := B.cell 3
    have x4 := B.cell 4
    have x5 := B.cell 5
    clear hS B
    go_simp
    have hS2 := HS.out
    exact hK.out _ hS2
  try simp only [Act.put, List.setIfInBounds_toArray, List.set_cons_zero, List.set_cons_succ]
  refine seq_op 5 (oi := ?oq5) (v := ?vq5) ?hq5 (by kernel_rfl) (by kernel_rfl) (by kernel_rfl) (fun _ _ _ h => h) ?wq5 (fun K wq hS hK => ?yq5) ?rq5
  case hq5 => simp only [List.getElem?_toArray, List.getElem?_cons_succ, List.getElem?_cons_zero]; rfl
  case wq5 => rfl
  case yq5 =>
    have HS := Lib.hid hS
    try dsimp only at hS
    go_simp
    exact hK.out _ HS.out
  try simp only [Act.put, List.setIfInBounds_toArray, List.set_cons_zero, List.set_cons_succ]
  refine seq_op 6 (oi := ?oq6) (v := ?vq6) ?hq6 (by kernel_rfl) (by kernel_rfl) (by kernel_rfl) (fun _ _ _ h => h) ?wq6 (fun K wq hS hK => ?yq6) ?rq6
  case hq6 => simp only [List.getElem?_toArray, List.getElem?_cons_succ, List.getElem?_cons_zero]; rfl
  case wq6 => rfl
  case yq6 =>
    have HS := Lib.hid hS
    try dsimp only at hS
    go_simp
    exact hK.out _ HS.out
  try simp only [Act.put, List.setIfInBounds_toArray, List.set_cons_zero, List.set_cons_succ]
  refine seq_op 7 (oi := ?oq7) (v := ?vq7) ?hq7 (by kernel_rfl) (by kernel_rfl) (by kernel_rfl) (fun _ _ _ h => h) ?wq7 (fun K wq hS hK => ?yq7) ?rq7
  case hq7 => simp only [List.getElem?_toArray, List.getElem?_cons_succ, List.getElem?_cons_zero]; rfl
  case wq7 => rfl
  case yq7 =>
    have HS := Lib.hid hS
    clear hS
    go_simp
    refine (HUA.out _ HS.out).mono ?_
    rintro e w8 ⟨rfl, C8⟩
    have hS2 := HS.out.trans C8
    exact hK.out _ hS2
  try simp only [Act.put, List.setIfInBounds_toArray, List.set_cons_zero, List.set_cons_succ]
  refine seq_op 8 (oi := ?oq8) (v := ?vq8) ?hq8 (by kernel_rfl) (by kernel_rfl) (by kernel_rfl) (fun _ _ _ h => h) ?wq8 (fun K wq hS hK => ?yq8) ?rq8
  case hq8 => simp only [List.getElem?_toArray, List.getElem?_cons_succ, List.getElem?_cons_zero]; rfl
  case wq8 => rfl
  case yq8 =>
    have HS := Lib.hid hS
    try dsimp only at hS
    go_simp
    exact hK.out _ HS.out
  try simp only [Act.put, List.setIfInBounds_toArray, List.set_cons_zero, List.set_cons_succ]
  refine seq_op 9 (oi := ?oq9) (v := ?vq9) ?hq9 (by kernel_rfl) (by kernel_rfl) (by kernel_rfl) (fun _ _ _ h => h) ?wq9 (fun K wq hS hK => ?yq9) ?rq9
  case hq9 => simp only [List.getElem?_toArray, List.getElem?_cons_succ, List.getElem?_cons_zero]; rfl
  case wq9 => rfl
  case yq9 =>
    have HS := Lib.hid hS
    try dsimp only at hS
    go_simp
    exact hK.out _ HS.out
  try simp only [Act.put, List.setIfInBounds_toArray, List.set_cons_zero, List.set_cons_succ]
  refine seq_done (by kernel_rfl) (fun wz hSz => ?_) _
  refine NoPanic.normal ?_
  go_wp2_with fail
  go_ret
  exact ⟨ret_int HR.out.symm, C2.trans hSz⟩

set_option maxHeartbeats 1000000 in
theorem shareall_any {C : Cfg} {ap ac aw : Option Addr} {cp cc cw : Nat} (w : World) (h : CfgAt w C ap ac aw cp cc cw) (part : Int) :
    Calls Try.prog 18 #[.agg (cfgCells C ap ac aw cp cc cw), .int .i64 part] w fun e w' => e = .returned (.int .i64 (shareAll C part)) ∧ Chg w w' (fun _ => False) := by
  have HB := Box.new w 26 (cfgCells C ap ac aw cp cc cw)
  have HA := h.keep ((Chg.refl w (fun _ => False)).alloc (.cells (cfgCells C ap ac aw cp cc cw) 26))
  have HT := ticks_none HA
  by_cases h0 : chk C = 0
  · have hF : WFine C := (tick_wf (C := C) (l := []) (by unfold tickB; rw [h0]; rfl)).1
    have hm := hF.major
    have HSM := Lib.hid (fun w1 (c : Chg _ w1 (fun _ => False)) => share_any w1 (HA.keep c) hF part C.major (by omega) (by omega))
    have HR : Hid (shareAll C part = shareV C part C.major) := by show _ = _; unfold shareAll; rw [if_pos h0]
    have q0 : (chk C == 0) = true := beq_iff_eq.2 h0
    rw [q0] at HT
    clear h0 q0 hF hm
    unfold cfgCells at *
    go_enter Try.func18, Try.ntmps18
    go_wp2_with fail
    refine HT.mono ?_
    rintro e w1 ⟨rfl, C1⟩
    have B1 := HB.chg C1 (fun h => h)
    have x0 := B1.cell 0
    have x1 := B1.cell 1
    have x2 := B1.cell 2
    have x3 := B1.cell 3
    have x4 := B1.cell 4
    have x5 := B1.cell 5
    go_wp2_with fail
    refine (HSM.out _ C1).mono ?_
    rintro e w2 ⟨rfl, C3⟩
    clear x0 x1 x2 x3 x4 x5
    go_wp2_with fail
    go_ret
    exact ⟨ret_int HR.out.symm, (((Chg.refl _ _).alloc _).trans C1).trans C3⟩
  · have HR : Hid (shareAll C part = 0) := by show _ = _; unfold shareAll; rw [if_neg h0]
    have q0 : (chk C == 0) = false := beq_eq_false_iff_ne.2 h0
    rw [q0] at HT
    clear h0 q0
    unfold cfgCells at *
    go_enter Try.func18, Try.ntmps18
    go_wp2_with fail
    refine HT.mono ?_
    rintro e w1 ⟨rfl, C1⟩
    go_wp2_with fail
    go_ret
    exact ⟨ret_int HR.out.symm, ((Chg.refl _ _).alloc _).trans C1⟩
end Go.Proofs.Ytmbdimcjpdofoaa

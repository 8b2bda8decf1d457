/- plan: Runs, share, upto, Steps, Share. -/
import Derived.Test.YtmbdimcjpdofoaaPlan
namespace Go.Proofs.Ytmbdimcjpdofoaa
open Go.RowKit

set_option maxHeartbeats 1000000 in
theorem runs_any {C : Cfg} {ap ac aw : Option Addr} {cp cc cw : Nat} (w : World) (h : CfgAt w C ap ac aw cp cc cw) (t : Int) :
    Calls Try.prog 16 #[.agg (cfgCells C ap ac aw cp cc cw), .int .i64 t] w fun e w' => e = .returned (.tuple #[.int .i64 (runsV C t).1, .bool (runsV C t).2]) ∧ Chg w w' (fun _ => False) := by
  have HB := Box.new w 26 (cfgCells C ap ac aw cp cc cw)
  have HA := h.keep ((Chg.refl w (fun _ => False)).alloc (.cells (cfgCells C ap ac aw cp cc cw) 26))
  have HC := at_any _ HA t
  have HV : Hid (runsV C t = ((atV C t).1, decide (0 ≤ (atV C t).1) && decide (C.switch ≤ (atV C t).2))) := rfl
  obtain ⟨r, hr⟩ : ∃ r, atV C t = r := ⟨_, rfl⟩
  rw [hr] at HC HV
  obtain ⟨r1, r2⟩ := r
  clear hr
  unfold cfgCells at *
  by_cases h1 : 0 ≤ r1
  · have q1 : decide (0 ≤ r1) = true := decide_eq_true h1
    by_cases h2 : C.switch ≤ r2
    · have q2 : decide (C.switch ≤ r2) = true := decide_eq_true h2
      have HR : Hid (runsV C t = (r1, true)) := by show _ = _; rw [HV.out, q1, q2]; rfl
      clear h1 h2
      go_enter Try.func16, Try.ntmps16
      go_wp2_with fail
      refine HC.mono ?_
      rintro e w1 ⟨rfl, C1⟩
      have x2 := (HB.chg C1 (fun h => h)).cell 2
      go_wp2_with fail
      go_quiet (fail)
      go_wp2_with fail
      go_ret2
      exact ⟨ret2_ib (by rw [HR.out]) (by rw [HR.out]), (((Chg.refl _ _).alloc _).trans C1).drewN _⟩
    · have q2 : decide (C.switch ≤ r2) = false := decide_eq_false h2
      have HR : Hid (runsV C t = (r1, false)) := by show _ = _; rw [HV.out, q2]; simp
      clear h1 h2
      go_enter Try.func16, Try.ntmps16
      go_wp2_with fail
      refine HC.mono ?_
      rintro e w1 ⟨rfl, C1⟩
      have x2 := (HB.chg C1 (fun h => h)).cell 2
      go_wp2_with fail
      go_quiet (fail)
      go_wp2_with fail
      go_ret2
      exact ⟨ret2_ib (by rw [HR.out]) (by rw [HR.out]), (((Chg.refl _ _).alloc _).trans C1).drewN _⟩
  · have q1 : decide (0 ≤ r1) = false := decide_eq_false h1
    have HR : Hid (runsV C t = (r1, false)) := by show _ = _; rw [HV.out, q1]; rfl
    clear h1
    go_enter Try.func16, Try.ntmps16
    go_wp2_with fail
    refine HC.mono ?_
    rintro e w1 ⟨rfl, C1⟩
    have x2 := (HB.chg C1 (fun h => h)).cell 2
    go_wp2_with fail
    go_quiet (fail)
    go_wp2_with fail
    go_ret2
    exact ⟨ret2_ib (by rw [HR.out]) (by rw [HR.out]), (((Chg.refl _ _).alloc _).trans C1).drewN _⟩

set_option maxHeartbeats 2000000 in
theorem share_any {C : Cfg} {ap ac aw : Option Addr} {cp cc cw : Nat} (w : World) (h : CfgAt w C ap ac aw cp cc cw) (hF : WFine C) (part below : Int) (hb0 : 0 ≤ below) (hb1 : below ≤ 100000) :
    Calls Try.prog 27 #[.agg (cfgCells C ap ac aw cp cc cw), .int .i64 part, .int .i64 below] w fun e w' => e = .returned (.int .i64 (shareV C part below)) ∧ Chg w w' (fun _ => False) := by
  have hm := hF.major
  obtain ⟨hm1, hm2⟩ := hm
  have hsw := hF.switch
  obtain ⟨hsw1, hsw2⟩ := hsw
  have hwl := hF.len
  have HE := Lib.hid hF.each
  have HSL := Lib.hid (fun k hk => shrK_le hF part below k hk)
  have HB := Box.new w 26 (cfgCells C ap ac aw cp cc cw)
  have HA := h.keep ((Chg.refl w (fun _ => False)).alloc (.cells (cfgCells C ap ac aw cp cc cw) 26))
  clear hF
  unfold cfgCells at *
  have x5 := HB.cell 5
  go_enter Try.func27, Try.ntmps27
  go_wp2_with fail
  go_loopg [7, 13] C.wins.length (fun g n i wr => ∃ k : Nat, g + k = C.wins.length ∧ i = .int .i64 k ∧ n = .int .i64 (shrK C.switch part below C.wins k) ∧ Chg (w.alloc (.cells #[.int .i64 C.pages, .int .i64 C.major, .int .i64 C.switch, .slice ap C.parts.length cp, .slice ac C.chans.length cc, .slice aw C.wins.length cw] 26)) wr (fun _ => False))
  case atStart => exact ⟨0, rfl, rfl, rfl, Chg.refl _ _⟩
  case round =>
    obtain ⟨k, hk, rfl, rfl, Ck⟩ := hrel
    have HKK := Lib.hid hk
    have hkl : k ≤ C.wins.length := by omega
    have hs := HSL.out k hkl
    obtain ⟨hs1, hs2⟩ := hs
    have hs3 : shrK C.switch part below C.wins k ≤ 3200000 := by omega
    have Bk := HB.chg Ck (fun h => h)
    have x2 := Bk.cell 2
    have hzz := Bk.lt
    clear hk hs2
    by_cases hlt : k < C.wins.length
    · obtain ⟨b, o, rfl⟩ := h.ws.pos (by omega)
      have hkk := HA.ws.chg Ck (fun _ _ h => h)
      have c0 := Lst.cell0 (n := 3) (fun _ => rfl) hkk k (by decide) hlt rfl
      have c1 := Lst.cell (n := 3) (fun _ => rfl) hkk k 1 (by decide) hlt rfl
      have c2 := Lst.cell (n := 3) (fun _ => rfl) hkk k 2 (by decide) hlt rfl
      have hx := HE.out _ (List.getElem_mem hlt)
      have HS := Lib.hid (shrK_succ C.switch part below C.wins k hlt)
      obtain ⟨x, hxe⟩ : ∃ x, C.wins[k] = x := ⟨_, rfl⟩
      rw [hxe] at c0 c1 c2 hx HS
      obtain ⟨z1, z2, z3, z4, z5⟩ := hx
      obtain ⟨sk, hsk⟩ : ∃ sk, shrK C.switch part below C.wins k = sk := ⟨_, rfl⟩
      rw [hsk] at hs1 hs3 HS ⊢
      clear hkk hxe hsk
      have C2 := Ck.alloc (.cells #[.int .i64 x.start, .int .i64 x.len, .int .i64 x.part] 38)
      have hsx : x.start ≤ 100000 := by omega
      have hlx : x.len ≤ 100000 := by omega
      by_cases hp : x.part = part
      · have q1 : (x.part == part) = true := beq_iff_eq.2 hp
        have HP : Hid (shr1 C.switch part below x = max 0 (min below (x.start + x.len) - x.start - C.switch)) := by show _ = _; unfold shr1; rw [if_pos hp]
        clear hp
        go_wp2_with fail
        all_goals
          go_roundg (gk - 1)
          case measure => have := HKK.out; omega
          case rel => exact ⟨k + 1, by have := HKK.out; omega, by go_num, by rw [HS.out, HP.out]; exact int_eq (by omega), C2⟩
      · have q1 : (x.part == part) = false := beq_eq_false_iff_ne.2 hp
        have HR : Hid (shrK C.switch part below C.wins (k + 1) = sk) := by show _ = _; rw [HS.out]; unfold shr1; rw [if_neg hp]; omega
        clear hp
        go_wp2_with fail
        go_roundg (gk - 1)
        case measure => have := HKK.out; omega
        case rel => exact ⟨k + 1, by have := HKK.out; omega, by go_num, by rw [HR.out], C2⟩
    · have h5 : k = C.wins.length := by omega
      subst h5
      go_wp2_with fail
      go_ret
      exact ⟨rfl, ((Chg.refl _ _).alloc _).trans Ck⟩

set_option maxHeartbeats 2000000 in
theorem upto_any {C : Cfg} {ap ac aw : Option Addr} {cp cc cw : Nat} (w : World) (h : CfgAt w C ap ac aw cp cc cw) (hF : WFine C) (part t : Int) (h0 : 0 ≤ t) (h1 : t ≤ 1099511627776) :
    Calls Try.prog 25 #[.agg (cfgCells C ap ac aw cp cc cw), .int .i64 part, .int .i64 t] w fun e w' => e = .returned (.int .i64 (uptoV C part t)) ∧ Chg w w' (fun _ => False) := by
  have hm := hF.major
  obtain ⟨hm1, hm2⟩ := hm
  have HB := Box.new w 26 (cfgCells C ap ac aw cp cc cw)
  have HA := h.keep ((Chg.refl w (fun _ => False)).alloc (.cells (cfgCells C ap ac aw cp cc cw) 26))
  have hq := quo_le h0 h1 hm1
  have hu0 : 0 ≤ t % C.major := Int.emod_nonneg _ (by omega)
  have hu1 : t % C.major < C.major := Int.emod_lt_of_pos _ (by omega)
  have hs1 := shareV_le hF part C.major
  have hs2 := shareV_le hF part (t % C.major)
  have hp := mul_le hq.1 hq.2 hs1.1 hs1.2
  have e1 : t.tmod C.major = t % C.major := by rw [Int.tmod_eq_emod_of_nonneg h0]
  have e2 : t.tdiv C.major = t / C.major := by rw [Int.tdiv_eq_ediv_of_nonneg h0]
  have hne : (C.major == 0) = false := beq_eq_false_iff_ne.2 (by omega)
  have HSM := Lib.hid (fun w1 (c : Chg _ w1 (fun _ => False)) => share_any w1 (HA.keep c) hF part C.major (by omega) (by omega))
  have HSU := Lib.hid (fun w1 (c : Chg _ w1 (fun _ => False)) => share_any w1 (HA.keep c) hF part (t % C.major) (by omega) (by omega))
  have HV : Hid (uptoV C part t = t / C.major * shareV C part C.major + shareV C part (t % C.major)) := rfl
  obtain ⟨s1, hse1⟩ : ∃ s1, shareV C part C.major = s1 := ⟨_, rfl⟩
  obtain ⟨s2, hse2⟩ : ∃ s2, shareV C part (t % C.major) = s2 := ⟨_, rfl⟩
  rw [hse1] at HSM HV hs1 hp
  rw [hse2] at HSU HV hs2
  obtain ⟨u, hu⟩ : ∃ u, t % C.major = u := ⟨_, rfl⟩
  obtain ⟨q, hqe⟩ : ∃ q, t / C.major = q := ⟨_, rfl⟩
  rw [hu] at HSU e1 hu0 hu1
  rw [hqe] at HV e2 hq hp
  obtain ⟨hp1, hp2⟩ := hp
  obtain ⟨hs11, hs12⟩ := hs1
  obtain ⟨hs21, hs22⟩ := hs2
  obtain ⟨hq1, hq2⟩ := hq
  have hne2 : ¬ C.major = 0 := by omega
  have yq : IntKind.i64.wrap q = q := IntWalk.i64_in _ (by omega)
  have yu : IntKind.i64.wrap u = u := IntWalk.i64_in _ (by omega)
  have y2 : IntKind.i64.wrap (q * s1 + s2) = q * s1 + s2 := IntWalk.i64_in _ (by omega)
  have y1 : IntKind.i64.wrap (q * s1) = q * s1 := IntWalk.i64_in _ (by omega)
  obtain ⟨pr, hpr⟩ : ∃ pr, q * s1 = pr := ⟨_, rfl⟩
  rw [hpr] at y1 y2 hp1 hp2 HV
  clear hse1 hse2 hu hqe hF
  replace HB := Lib.hid HB
  replace HA := Lib.hid HA
  unfold cfgCells at *
  go_enter Try.func25, Try.ntmps25
  go_wp2_with fail
  refine wp_region_noPanic ?_
  refine seq_begin (fun w' => Chg (w.alloc (.cells #[.int .i64 C.pages, .int .i64 C.major, .int .i64 C.switch, .slice ap C.parts.length cp, .slice ac C.chans.length cc, .slice aw C.wins.length cw] 26)) w' (fun _ => False)) (by kernel_rfl) ((Chg.refl _ _).drew) ?_
  refine seq_op 0 (oi := ?oq0) (v := ?vq0) ?hq0 (by kernel_rfl) (by kernel_rfl) (by kernel_rfl) (fun _ _ _ h => h) ?wq0 (fun K wq hS hK => ?yq0) ?rq0
  case hq0 => simp only [List.getElem?_toArray, List.getElem?_cons_succ, List.getElem?_cons_zero]; rfl
  case wq0 => rfl
  case yq0 =>
    have HS := Lib.hid hS
    try dsimp only at hS
    go_simp
    exact hK.out _ HS.out
  try simp only [Act.put, List.setIfInBounds_toArray, List.set_cons_zero, List.set_cons_succ]
  refine seq_op 1 (oi := ?oq1) (v := ?vq1) ?hq1 (by kernel_rfl) (by kernel_rfl) (by kernel_rfl) (fun _ _ _ h => h) ?wq1 (fun K wq hS hK => ?yq1) ?rq1
  case hq1 => simp only [List.getElem?_toArray, List.getElem?_cons_succ, List.getElem?_cons_zero]; rfl
  case wq1 => rfl
  case yq1 =>
    have HS := Lib.hid hS
    try dsimp only at hS
    go_simp
    exact hK.out _ HS.out
  try simp only [Act.put, List.setIfInBounds_toArray, List.set_cons_zero, List.set_cons_succ]
  refine seq_op 2 (oi := ?oq2) (v := ?vq2) ?hq2 (by kernel_rfl) (by kernel_rfl) (by kernel_rfl) (fun _ _ _ h => h) ?wq2 (fun K wq hS hK => ?yq2) ?rq2
  case hq2 => simp only [List.getElem?_toArray, List.getElem?_cons_succ, List.getElem?_cons_zero]; rfl
  case wq2 => rfl
  case yq2 =>
    have HS := Lib.hid hS
    have B := HB.out.chg hS (fun h => h)
    have x1 := B.cell 1
    clear hS B
    go_simp
    have hS2 := HS.out
    exact hK.out _ hS2
  try simp only [Act.put, List.setIfInBounds_toArray, List.set_cons_zero, List.set_cons_succ]
  refine seq_op 3 (oi := ?oq3) (v := ?vq3) ?hq3 (by kernel_rfl) (by kernel_rfl) (by kernel_rfl) (fun _ _ _ h => h) ?wq3 (fun K wq hS hK => ?yq3) ?rq3
  case hq3 => simp only [List.getElem?_toArray, List.getElem?_cons_succ, List.getElem?_cons_zero]; rfl
  case wq3 => rfl
  case yq3 =>
    have HS := Lib.hid hS
    try dsimp only at hS
    go_simp
    exact hK.out _ HS.out
  try simp only [Act.put, List.setIfInBounds_toArray, List.set_cons_zero, List.set_cons_succ]
  refine seq_op 4 (oi := ?oq4) (v := ?vq4) ?hq4 (by kernel_rfl) (by kernel_rfl) (by kernel_rfl) (fun _ _ _ h => h) ?wq4 (fun K wq hS hK => ?yq4) ?rq4
  case hq4 => simp only [List.getElem?_toArray, List.getElem?_cons_succ, List.getElem?_cons_zero]; rfl
  case wq4 => rfl
  case yq4 =>
    have HS := Lib.hid hS
    have B := HB.out.chg hS (fun h => h)
    have x0 := B.cell 0
    have x1 := B.cell 1
    have x2 := B.cell 2
    have x3 := B.cell 3
    have x4 := B.cell 4
    have x5 := B.cell 5
    clear hS B
    go_simp
    have hS2 := HS.out
    exact hK.out _ hS2
  try simp only [Act.put, List.setIfInBounds_toArray, List.set_cons_zero, List.set_cons_succ]
  refine seq_op 5 (oi := ?oq5) (v := ?vq5) ?hq5 (by kernel_rfl) (by kernel_rfl) (by kernel_rfl) (fun _ _ _ h => h) ?wq5 (fun K wq hS hK => ?yq5) ?rq5
  case hq5 => simp only [List.getElem?_toArray, List.getElem?_cons_succ, List.getElem?_cons_zero]; rfl
  case wq5 => rfl
  case yq5 =>
    have HS := Lib.hid hS
    try dsimp only at hS
    go_simp
    exact hK.out _ HS.out
  try simp only [Act.put, List.setIfInBounds_toArray, List.set_cons_zero, List.set_cons_succ]
  refine seq_op 6 (oi := ?oq6) (v := ?vq6) ?hq6 (by kernel_rfl) (by kernel_rfl) (by kernel_rfl) (fun _ _ _ h => h) ?wq6 (fun K wq hS hK => ?yq6) ?rq6
  case hq6 => simp only [List.getElem?_toArray, List.getElem?_cons_succ, List.getElem?_cons_zero]; rfl
  case wq6 => rfl
  case yq6 =>
    have HS := Lib.hid hS
    try dsimp only at hS
    go_simp
    exact hK.out _ HS.out
  try simp only [Act.put, List.setIfInBounds_toArray, List.set_cons_zero, List.set_cons_succ]
  refine seq_op 7 (oi := ?oq7) (v := ?vq7) ?hq7 (by kernel_rfl) (by kernel_rfl) (by kernel_rfl) (fun _ _ _ h => h) ?wq7 (fun K wq hS hK => ?yq7) ?rq7
  case hq7 => simp only [List.getElem?_toArray, List.getElem?_cons_succ, List.getElem?_cons_zero]; rfl
  case wq7 => rfl
  case yq7 =>
    have HS := Lib.hid hS
    have B := HB.out.chg hS (fun h => h)
    have x1 := B.cell 1
    clear hS B
    go_simp
    have hS2 := HS.out
    exact hK.out _ hS2
  try simp only [Act.put, List.setIfInBounds_toArray, List.set_cons_zero, List.set_cons_succ]
  refine seq_op 8 (oi := ?oq8) (v := ?vq8) ?hq8 (by kernel_rfl) (by kernel_rfl) (by kernel_rfl) (fun _ _ _ h => h) ?wq8 (fun K wq hS hK => ?yq8) ?rq8
  case hq8 => simp only [List.getElem?_toArray, List.getElem?_cons_succ, List.getElem?_cons_zero]; rfl
  case wq8 => rfl
  case yq8 =>
    have HS := Lib.hid hS
    clear hS
    go_simp
    refine (HSM.out _ HS.out).mono ?_
    rintro e w8 ⟨rfl, C8⟩
    have hS2 := HS.out.trans C8
    exact hK.out _ hS2
  try simp only [Act.put, List.setIfInBounds_toArray, List.set_cons_zero, List.set_cons_succ]
  refine seq_op 9 (oi := ?oq9) (v := ?vq9) ?hq9 (by kernel_rfl) (by kernel_rfl) (by kernel_rfl) (fun _ _ _ h => h) ?wq9 (fun K wq hS hK => ?yq9) ?rq9
  case hq9 => simp only [List.getElem?_toArray, List.getElem?_cons_succ, List.getElem?_cons_zero]; rfl
  case wq9 => rfl
  case yq9 =>
    have HS := Lib.hid hS
    try dsimp only at hS
    go_simp
    exact hK.out _ HS.out
  try simp only [Act.put, List.setIfInBounds_toArray, List.set_cons_zero, List.set_cons_succ]
  refine seq_op 10 (oi := ?oq10) (v := ?vq10) ?hq10 (by kernel_rfl) (by kernel_rfl) (by kernel_rfl) (fun _ _ _ h => h) ?wq10 (fun K wq hS hK => ?yq10) ?rq10
  case hq10 => simp only [List.getElem?_toArray, List.getElem?_cons_succ, List.getElem?_cons_zero]; rfl
  case wq10 => rfl
  case yq10 =>
    have HS := Lib.hid hS
    have B := HB.out.chg hS (fun h => h)
    have x0 := B.cell 0
    have x1 := B.cell 1
    have x2 := B.cell 2
    have x3 := B.cell 3
    have x4 := B.cell 4
    have x5 := B.cell 5
    clear hS B
    go_simp
    have hS2 := HS.out
    exact hK.out _ hS2
  try simp only [Act.put, List.setIfInBounds_toArray, List.set_cons_zero, List.set_cons_succ]
  refine seq_op 11 (oi := ?oq11) (v := ?vq11) ?hq11 (by kernel_rfl) (by kernel_rfl) (by kernel_rfl) (fun _ _ _ h => h) ?wq11 (fun K wq hS hK => ?yq11) ?rq11
  case hq11 => simp only [List.getElem?_toArray, List.getElem?_cons_succ, List.getElem?_cons_zero]; rfl
  case wq11 => rfl
  case yq11 =>
    have HS := Lib.hid hS
    try dsimp only at hS
    go_simp
    exact hK.out _ HS.out
  try simp only [Act.put, List.setIfInBounds_toArray, List.set_cons_zero, List.set_cons_succ]
  refine seq_op 12 (oi := ?oq12) (v := ?vq12) ?hq12 (by kernel_rfl) (by kernel_rfl) (by kernel_rfl) (fun _ _ _ h => h) ?wq12 (fun K wq hS hK => ?yq12) ?rq12
  case hq12 => simp only [List.getElem?_toArray, List.getElem?_cons_succ, List.getElem?_cons_zero]; rfl
  case wq12 => rfl
  case yq12 =>
    have HS := Lib.hid hS
    try dsimp only at hS
    go_simp
    exact hK.out _ HS.out
  try simp only [Act.put, List.setIfInBounds_toArray, List.set_cons_zero, List.set_cons_succ]
  refine seq_op 13 (oi := ?oq13) (v := ?vq13) ?hq13 (by kernel_rfl) (by kernel_rfl) (by kernel_rfl) (fun _ _ _ h => h) ?wq13 (fun K wq hS hK => ?yq13) ?rq13
  case hq13 => simp only [List.getElem?_toArray, List.getElem?_cons_succ, List.getElem?_cons_zero]; rfl
  case wq13 => rfl
  case yq13 =>
    have HS := Lib.hid hS
    try dsimp only at hS
    go_simp
    exact hK.out _ HS.out
  try simp only [Act.put, List.setIfInBounds_toArray, List.set_cons_zero, List.set_cons_succ]
  refine seq_op 14 (oi := ?oq14) (v := ?vq14) ?hq14 (by kernel_rfl) (by kernel_rfl) (by kernel_rfl) (fun _ _ _ h => h) ?wq14 (fun K wq hS hK => ?yq14) ?rq14
  case hq14 => simp only [List.getElem?_toArray, List.getElem?_cons_succ, List.getElem?_cons_zero]; rfl
  case wq14 => rfl
  case yq14 =>
    have HS := Lib.hid hS
    have B := HB.out.chg hS (fun h => h)
    have x1 := B.cell 1
    clear hS B
    go_simp
    have hS2 := HS.out
    exact hK.out _ hS2
  try simp only [Act.put, List.setIfInBounds_toArray, List.set_cons_zero, List.set_cons_succ]
  refine seq_op 15 (oi := ?oq15) (v := ?vq15) ?hq15 (by kernel_rfl) (by kernel_rfl) (by kernel_rfl) (fun _ _ _ h => h) ?wq15 (fun K wq hS hK => ?yq15) ?rq15
  case hq15 => simp only [List.getElem?_toArray, List.getElem?_cons_succ, List.getElem?_cons_zero]; rfl
  case wq15 => rfl
  case yq15 =>
    have HS := Lib.hid hS
    try dsimp only at hS
    go_simp
    exact hK.out _ HS.out
  try simp only [Act.put, List.setIfInBounds_toArray, List.set_cons_zero, List.set_cons_succ]
  refine seq_op 16 (oi := ?oq16) (v := ?vq16) ?hq16 (by kernel_rfl) (by kernel_rfl) (by kernel_rfl) (fun _ _ _ h => h) ?wq16 (fun K wq hS hK => ?yq16) ?rq16
  case hq16 => simp only [List.getElem?_toArray, List.getElem?_cons_succ, List.getElem?_cons_zero]; rfl
  case wq16 => rfl
  case yq16 =>
    have HS := Lib.hid hS
    clear hS
    go_simp
    refine (HSU.out _ HS.out).mono ?_
    rintro e w8 ⟨rfl, C8⟩
    have hS2 := HS.out.trans C8
    exact hK.out _ hS2
  try simp only [Act.put, List.setIfInBounds_toArray, List.set_cons_zero, List.set_cons_succ]
  refine seq_op 17 (oi := ?oq17) (v := ?vq17) ?hq17 (by kernel_rfl) (by kernel_rfl) (by kernel_rfl) (fun _ _ _ h => h) ?wq17 (fun K wq hS hK => ?yq17) ?rq17
  case hq17 => simp only [List.getElem?_toArray, List.getElem?_cons_succ, List.getElem?_cons_zero]; rfl
  case wq17 => rfl
  case yq17 =>
    have HS := Lib.hid hS
    try dsimp only at hS
    go_simp
    exact hK.out _ HS.out
  try simp only [Act.put, List.setIfInBounds_toArray, List.set_cons_zero, List.set_cons_succ]
  refine seq_op 18 (oi := ?oq18) (v := ?vq18) ?hq18 (by kernel_rfl) (by kernel_rfl) (by kernel_rfl) (fun _ _ _ h => h) ?wq18 (fun K wq hS hK => ?yq18) ?rq18
  case hq18 => simp only [List.getElem?_toArray, List.getElem?_cons_succ, List.getElem?_cons_zero]; rfl
  case wq18 => rfl
  case yq18 =>
    have HS := Lib.hid hS
    try dsimp only at hS
    go_simp
    exact hK.out _ HS.out
  try simp only [Act.put, List.setIfInBounds_toArray, List.set_cons_zero, List.set_cons_succ]
  refine seq_done (by kernel_rfl) (fun wz hSz => ?_) _
  refine NoPanic.normal ?_
  go_wp2_with fail
  go_ret
  exact ⟨ret_int HV.out.symm, ((Chg.refl _ _).alloc _).trans hSz⟩
end Go.Proofs.Ytmbdimcjpdofoaa

/- The reference's Next. -/
import Derived.Test.YtmbdimcjpdofoaaPlanN
import Derived.Test.YtmbdimcjpdofoaaPlanR
namespace Go.Proofs.Ytmbdimcjpdofoaa
open Go.RowKit

set_option maxHeartbeats 4000000 in
theorem rnext_any {C : Cfg} {ap ac aw : Option Addr} {cp cc cw : Nat} (w : World) (h : CfgAt w C ap ac aw cp cc cw) (part t : Int) :
    Calls Try.prog 21 #[.agg (cfgCells C ap ac aw cp cc cw), .int .i64 part, .int .i64 t] w fun e w' => e = .returned (.tuple #[.int .i64 (nextV C part t).1, .bool (nextV C part t).2]) ∧ Chg w w' (fun _ => False) := by
  have HB := Box.new w 26 (cfgCells C ap ac aw cp cc cw)
  have HA := h.keep ((Chg.refl w (fun _ => False)).alloc (.cells (cfgCells C ap ac aw cp cc cw) 26))
  have HC := rcheck_any _ HA
  have HOUT : tickB C [t] = false → nextV C part t = (0, false) := by
    intro hh
    unfold nextV
    rw [hh]
    rfl
  by_cases h3 : chk C = 0
  case neg =>
    have HR : Hid (nextV C part t = (0, false)) := by
      show _ = _
      refine HOUT ?_
      unfold tickB
      rw [beq_eq_false_iff_ne.2 h3, Bool.and_false]
    have q3 : (chk C != 0) = true := bne_iff_ne.2 h3
    clear h3 HOUT
    unfold cfgCells at *
    go_enter Try.func21, Try.ntmps21
    go_wp2_with fail
    refine HC.mono ?_
    rintro e w1 ⟨rfl, C1⟩
    go_wp2_with fail
    go_ret2
    exact ⟨ret2_ib (by rw [HR.out]) (by rw [HR.out]), ((Chg.refl _ _).alloc _).trans C1⟩
  rw [h3] at HC
  by_cases h1 : t < 0
  · have HR : Hid (nextV C part t = (0, false)) := by
      show _ = _
      refine HOUT ?_
      unfold tickB
      rw [all_one, show okT t = false from decide_eq_false (by omega)]
      rfl
    have q1 : decide (t < 0) = true := decide_eq_true h1
    clear h3 h1 HOUT
    unfold cfgCells at *
    go_enter Try.func21, Try.ntmps21
    go_wp2_with fail
    refine HC.mono ?_
    rintro e w1 ⟨rfl, C1⟩
    go_wp2_with fail
    go_ret2
    exact ⟨ret2_ib (by rw [HR.out]) (by rw [HR.out]), ((Chg.refl _ _).alloc _).trans C1⟩
  have q1 : decide (t < 0) = false := decide_eq_false h1
  by_cases h2 : 1099511627776 < t
  · have HR : Hid (nextV C part t = (0, false)) := by
      show _ = _
      refine HOUT ?_
      unfold tickB
      rw [all_one, show okT t = false from decide_eq_false (by omega)]
      rfl
    have q2 : decide (1099511627776 < t) = true := decide_eq_true h2
    clear h3 h1 h2 HOUT
    unfold cfgCells at *
    go_enter Try.func21, Try.ntmps21
    go_wp2_with fail
    refine HC.mono ?_
    rintro e w1 ⟨rfl, C1⟩
    go_wp2_with fail
    go_ret2
    exact ⟨ret2_ib (by rw [HR.out]) (by rw [HR.out]), ((Chg.refl _ _).alloc _).trans C1⟩
  have q2 : decide (1099511627776 < t) = false := decide_eq_false h2
  have htb : tickB C [t] = true := by
    unfold tickB
    rw [all_one, h3, show okT t = true from decide_eq_true (by omega)]
    rfl
  have hF := (tick_wf htb).1
  have h0 : 0 ≤ t := by omega
  have h9 : t ≤ 1099511627776 := by omega
  have hm := hF.major
  obtain ⟨hm1, hm2⟩ := hm
  have hsw := hF.switch
  obtain ⟨hsw1, hsw2⟩ := hsw
  have hwl := hF.len
  have HE := Lib.hid hF.each
  have hu0 : 0 ≤ t % C.major := Int.emod_nonneg _ (by omega)
  have hu1 : t % C.major < C.major := Int.emod_lt_of_pos _ (by omega)
  have hq := quo_le h0 h9 hm1
  obtain ⟨hq1, hq2⟩ := hq
  have hqm : t / C.major * C.major = t - t % C.major := by rw [Int.emod_def, Int.mul_comm]; omega
  have hu2 : t % C.major ≤ t := by
    have hq := Int.mul_nonneg hq1 (show 0 ≤ C.major by omega)
    omega
  have HV : Hid (nextV C part t = match rnV C part (t % C.major) C.wins with
    | none => (0, false)
    | some b => (t - t % C.major + b, true)) := by
    show _ = _
    unfold nextV
    rw [if_pos htb, bestK_rn hF part _ hu1] <;> rfl
  have e2 : t.tdiv C.major = t / C.major := by rw [Int.tdiv_eq_ediv_of_nonneg h0]
  obtain ⟨u, hue⟩ : ∃ u, t % C.major = u := ⟨_, rfl⟩
  obtain ⟨q, hqe⟩ : ∃ q, t / C.major = q := ⟨_, rfl⟩
  rw [hue] at hu0 hu1 hu2 hqm HV
  rw [hqe] at hq1 hq2 hqm e2
  have hne2 : ¬ C.major = 0 := by omega
  have hne : (C.major == 0) = false := beq_eq_false_iff_ne.2 hne2
  have yq : IntKind.i64.wrap q = q := IntWalk.i64_in _ (by omega)
  have yb : IntKind.i64.wrap (t - u) = t - u := IntWalk.i64_in _ (by omega)
  clear hue hqe hF h3 h1 h2 htb HOUT
  unfold cfgCells at *
  go_enter Try.func21, Try.ntmps21
  go_wp2_with fail
  refine HC.mono ?_
  rintro e w1 ⟨rfl, C1⟩
  have x1 := (HB.chg C1 (fun h => h)).cell 1
  go_wp2_with fail
  go_quiet (fail)
  go_wp2_with fail
  clear HC
  go_loopw [8, 9] (fun b k wr => ∃ (kk : Nat) (bb : Int), kk ≤ 2 ∧ k = .int .i64 kk ∧ b = .int .i64 bb ∧ ((kk = 0 ∧ bb = t - u) ∨ (kk = 1 ∧ bb = t - u + C.major ∧ r0V C part u C.wins = none) ∨ (kk = 2 ∧ 0 ≤ bb ∧ bb ≤ 2000000000000 ∧ rnV C part u C.wins = none)) ∧ Chg (w.alloc (.cells #[.int .i64 C.pages, .int .i64 C.major, .int .i64 C.switch, .slice ap C.parts.length cp, .slice ac C.chans.length cc, .slice aw C.wins.length cw] 26)) wr (fun _ => False)) (fun _ k _ => 2 - (intOf k).toNat)
  case atStart => exact ⟨0, _, by omega, rfl, rfl, .inl ⟨rfl, rfl⟩, C1.drewN _⟩
  case round =>
    obtain ⟨kk, bb, hk, rfl, rfl, hkk, Ck⟩ := hrel
    rcases hkk with ⟨rfl, rfl⟩ | ⟨rfl, rfl, hn0⟩ | ⟨rfl, hb1, hb2, hn0⟩
    · have h02 : decide (((0 : Nat) : Int) < 2) = true := by decide
      clear x1 C1
      go_wp2_with fail
      go_loopw [10] (fun i wr => ∃ j : Nat, j ≤ C.wins.length ∧ i = .int .i64 j ∧ Hid (r0V C part u C.wins = r0V C part u (C.wins.drop j)) ∧ Chg (w.alloc (.cells #[.int .i64 C.pages, .int .i64 C.major, .int .i64 C.switch, .slice ap C.parts.length cp, .slice ac C.chans.length cc, .slice aw C.wins.length cw] 26)) wr (fun _ => False)) (fun i _ => C.wins.length - (intOf i).toNat)
      case atStart => exact ⟨0, by omega, rfl, (by show _ = _; rw [List.drop_zero]), Ck⟩
      case round =>
        obtain ⟨j, hj, rfl, HJ, Cj⟩ := hrel
        have Bk := HB.chg Cj (fun h => h)
        have x1 := Bk.cell 1
        have x2 := Bk.cell 2
        have x5 := Bk.cell 5
        have hzz := Bk.lt
        by_cases hlt : j < C.wins.length
        · obtain ⟨b, o, rfl⟩ := h.ws.pos (by omega)
          have hkk := HA.ws.chg Cj (fun _ _ h => h)
          have c0 := Lst.cell0 (n := 3) (fun _ => rfl) hkk j (by decide) hlt rfl
          have c1 := Lst.cell (n := 3) (fun _ => rfl) hkk j 1 (by decide) hlt rfl
          have c2 := Lst.cell (n := 3) (fun _ => rfl) hkk j 2 (by decide) hlt rfl
          have hx := HE.out _ (List.getElem_mem hlt)
          have HD := Lib.hid (drop_cons C.wins j hlt)
          obtain ⟨x, hxe⟩ : ∃ x, C.wins[j] = x := ⟨_, rfl⟩
          rw [hxe] at c0 c1 c2 hx HD
          obtain ⟨z1, z2, z3, z4, z5⟩ := hx
          have hsx : x.start ≤ 100000 := by omega
          have hlx : x.len ≤ 100000 := by omega
          clear hkk hxe
          have C3 := Cj.alloc (.cells #[.int .i64 x.start, .int .i64 x.len, .int .i64 x.part] 38)
          have HG : Hid (r0V C part u C.wins = if x.part = part ∧ max u (x.start + C.switch) < x.start + x.len then some (max u (x.start + C.switch)) else r0V C part u (C.wins.drop (j + 1))) := by show _ = _; rw [HJ.out, HD.out]; rfl
          by_cases hp : x.part = part
          · have q1 : (x.part != part) = false := by rw [bne_eq_false_iff_eq]; exact hp
            by_cases hm : max u (x.start + C.switch) < x.start + x.len
            · have HR : Hid (nextV C part t = (t - u + max u (x.start + C.switch), true)) := by
                show _ = _
                rw [HV.out]
                unfold rnV
                rw [HG.out, if_pos ⟨hp, hm⟩]
              clear hp
              by_cases hlo : u ≤ x.start + C.switch
              · have HM := Lib.hid (show max u (x.start + C.switch) = x.start + C.switch by omega)
                have q2 : decide (t - u + x.start + C.switch < t) = false := decide_eq_false (by omega)
                have q3 : decide (t - u + x.start + C.switch ≤ t - u + x.start + x.len - 1) = true := decide_eq_true (by omega)
                clear hm
                go_wp2_with fail
                go_ret2
                exact ⟨ret2_ib (by rw [HR.out, HM.out]; dsimp only; omega) (by rw [HR.out]), ((Chg.refl _ _).alloc _).trans C3⟩
              · have HM := Lib.hid (show max u (x.start + C.switch) = u by omega)
                have q2 : decide (t - u + x.start + C.switch < t) = true := decide_eq_true (by omega)
                have q3 : decide (t ≤ t - u + x.start + x.len - 1) = true := decide_eq_true (by omega)
                clear hm
                go_wp2_with fail
                go_ret2
                exact ⟨ret2_ib (by rw [HR.out, HM.out]; dsimp only; omega) (by rw [HR.out]), ((Chg.refl _ _).alloc _).trans C3⟩
            · have HR : Hid (r0V C part u C.wins = r0V C part u (C.wins.drop (j + 1))) := by show _ = _; rw [HG.out, if_neg (fun c => hm c.2)]
              have q2 : decide (t - u + x.start + C.switch < t) = true := decide_eq_true (by omega)
              have q3 : decide (t ≤ t - u + x.start + x.len - 1) = false := decide_eq_false (by omega)
              clear hp hm
              go_wp2_with fail
              go_roundw
              case rel => exact ⟨j + 1, by omega, by go_num, HR, C3⟩
              case measure => simp [intOf]; omega
          · have q1 : (x.part != part) = true := bne_iff_ne.2 hp
            have HR : Hid (r0V C part u C.wins = r0V C part u (C.wins.drop (j + 1))) := by show _ = _; rw [HG.out, if_neg (fun c => hp c.1)]
            clear hp
            go_wp2_with fail
            go_roundw
            case rel => exact ⟨j + 1, by omega, by go_num, HR, C3⟩
            case measure => simp [intOf]; omega
        · have h5 : j = C.wins.length := by omega
          subst h5
          have HR : Hid (r0V C part u C.wins = none) := by show _ = _; rw [HJ.out, List.drop_length]; rfl
          go_wp2_with fail
          go_roundw
          case rel => exact ⟨1, _, by omega, by go_num, rfl, .inr (.inl ⟨rfl, rfl, HR.out⟩), Cj⟩
          case measure => simp [intOf]
    · have h02 : decide (((1 : Nat) : Int) < 2) = true := by decide
      have HN0 := Lib.hid hn0
      clear x1 C1 hn0
      go_wp2_with fail
      go_loopw [10] (fun i wr => ∃ j : Nat, j ≤ C.wins.length ∧ i = .int .i64 j ∧ Hid (r1V C part C.wins = r1V C part (C.wins.drop j)) ∧ Chg (w.alloc (.cells #[.int .i64 C.pages, .int .i64 C.major, .int .i64 C.switch, .slice ap C.parts.length cp, .slice ac C.chans.length cc, .slice aw C.wins.length cw] 26)) wr (fun _ => False)) (fun i _ => C.wins.length - (intOf i).toNat)
      case atStart => exact ⟨0, by omega, rfl, (by show _ = _; rw [List.drop_zero]), Ck⟩
      case round =>
        obtain ⟨j, hj, rfl, HJ, Cj⟩ := hrel
        have Bk := HB.chg Cj (fun h => h)
        have x1 := Bk.cell 1
        have x2 := Bk.cell 2
        have x5 := Bk.cell 5
        have hzz := Bk.lt
        by_cases hlt : j < C.wins.length
        · obtain ⟨b, o, rfl⟩ := h.ws.pos (by omega)
          have hkk := HA.ws.chg Cj (fun _ _ h => h)
          have c0 := Lst.cell0 (n := 3) (fun _ => rfl) hkk j (by decide) hlt rfl
          have c1 := Lst.cell (n := 3) (fun _ => rfl) hkk j 1 (by decide) hlt rfl
          have c2 := Lst.cell (n := 3) (fun _ => rfl) hkk j 2 (by decide) hlt rfl
          have hx := HE.out _ (List.getElem_mem hlt)
          have HD := Lib.hid (drop_cons C.wins j hlt)
          obtain ⟨x, hxe⟩ : ∃ x, C.wins[j] = x := ⟨_, rfl⟩
          rw [hxe] at c0 c1 c2 hx HD
          obtain ⟨z1, z2, z3, z4, z5⟩ := hx
          have hsx : x.start ≤ 100000 := by omega
          have hlx : x.len ≤ 100000 := by omega
          clear hkk hxe
          have C3 := Cj.alloc (.cells #[.int .i64 x.start, .int .i64 x.len, .int .i64 x.part] 38)
          have HG : Hid (r1V C part C.wins = if x.part = part then some (x.start + C.switch + C.major) else r1V C part (C.wins.drop (j + 1))) := by show _ = _; rw [HJ.out, HD.out]; rfl
          by_cases hp : x.part = part
          · have q1 : (x.part != part) = false := by rw [bne_eq_false_iff_eq]; exact hp
            have HR : Hid (nextV C part t = (t - u + (x.start + C.switch + C.major), true)) := by
              show _ = _
              rw [HV.out]
              unfold rnV
              rw [HN0.out, HG.out, if_pos hp]
            clear hp
            have q2 : decide (t - u + C.major + x.start + C.switch < t) = false := decide_eq_false (by omega)
            have q3 : decide (t - u + C.major + x.start + C.switch ≤ t - u + C.major + x.start + x.len - 1) = true := decide_eq_true (by omega)
            go_wp2_with fail
            go_ret2
            exact ⟨ret2_ib (by rw [HR.out]; dsimp only; omega) (by rw [HR.out]), ((Chg.refl _ _).alloc _).trans C3⟩
          · have q1 : (x.part != part) = true := bne_iff_ne.2 hp
            have HR : Hid (r1V C part C.wins = r1V C part (C.wins.drop (j + 1))) := by show _ = _; rw [HG.out, if_neg hp]
            clear hp
            go_wp2_with fail
            go_roundw
            case rel => exact ⟨j + 1, by omega, by go_num, HR, C3⟩
            case measure => simp [intOf]; omega
        · have h5 : j = C.wins.length := by omega
          subst h5
          have HR : Hid (r1V C part C.wins = none) := by show _ = _; rw [HJ.out, List.drop_length]; rfl
          go_wp2_with fail
          go_roundw
          case rel => exact ⟨2, _, by omega, by go_num, rfl, .inr (.inr ⟨rfl, by omega, by omega, by unfold rnV; rw [HN0.out, HR.out]⟩), Cj⟩
          case measure => simp [intOf]
    · have h02 : decide (((2 : Nat) : Int) < 2) = false := by decide
      have HR : Hid (nextV C part t = (0, false)) := by show _ = _; rw [HV.out, hn0]
      clear x1 C1 hn0
      go_wp2_with fail
      go_ret2
      exact ⟨ret2_ib (by rw [HR.out]) (by rw [HR.out]), ((Chg.refl _ _).alloc _).trans Ck⟩
end Go.Proofs.Ytmbdimcjpdofoaa

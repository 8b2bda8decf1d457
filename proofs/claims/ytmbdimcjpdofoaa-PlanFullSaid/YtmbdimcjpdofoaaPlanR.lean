/- The reference's At and Runs. -/
import Derived.Test.YtmbdimcjpdofoaaPlan2
import Derived.Test.YtmbdimcjpdofoaaChkAt
namespace Go.Proofs.Ytmbdimcjpdofoaa
open Go.RowKit

theorem all_one (f : Int → Bool) (t : Int) : [t].all f = f t := by simp

set_option maxHeartbeats 1000000 in
theorem rat_any {C : Cfg} {ap ac aw : Option Addr} {cp cc cw : Nat} (w : World) (h : CfgAt w C ap ac aw cp cc cw) (t : Int) :
    Calls Try.prog 15 #[.agg (cfgCells C ap ac aw cp cc cw), .int .i64 t] w fun e w' => e = .returned (.tuple #[.int .i64 (atV C t).1, .int .i64 (atV C t).2]) ∧ Chg w w' (fun _ => False) := by
  have HB := Box.new w 26 (cfgCells C ap ac aw cp cc cw)
  have HA := h.keep ((Chg.refl w (fun _ => False)).alloc (.cells (cfgCells C ap ac aw cp cc cw) 26))
  have HC := rcheck_any _ HA
  by_cases h3 : chk C = 0
  case neg =>
    have HR : Hid (atV C t = (-1, 0)) := by
      show _ = _
      unfold atV tickB
      rw [beq_eq_false_iff_ne.2 h3, Bool.and_false]
      rfl
    have q3 : (chk C != 0) = true := bne_iff_ne.2 h3
    clear h3
    unfold cfgCells at *
    go_enter Try.func15, Try.ntmps15
    go_wp2_with fail
    refine HC.mono ?_
    rintro e w1 ⟨rfl, C1⟩
    go_wp2_with fail
    go_ret2
    exact ⟨ret2_ii (by rw [HR.out]) (by rw [HR.out]), ((Chg.refl _ _).alloc _).trans C1⟩
  rw [h3] at HC
  by_cases h1 : t < 0
  · have HR : Hid (atV C t = (-1, 0)) := by
      show _ = _
      unfold atV tickB
      rw [all_one, show okT t = false from decide_eq_false (by omega)]
      rfl
    have q1 : decide (t < 0) = true := decide_eq_true h1
    clear h3 h1
    unfold cfgCells at *
    go_enter Try.func15, Try.ntmps15
    go_wp2_with fail
    refine HC.mono ?_
    rintro e w1 ⟨rfl, C1⟩
    go_wp2_with fail
    go_ret2
    exact ⟨ret2_ii (by rw [HR.out]) (by rw [HR.out]), ((Chg.refl _ _).alloc _).trans C1⟩
  have q1 : decide (t < 0) = false := decide_eq_false h1
  by_cases h2 : 1099511627776 < t
  · have HR : Hid (atV C t = (-1, 0)) := by
      show _ = _
      unfold atV tickB
      rw [all_one, show okT t = false from decide_eq_false (by omega)]
      rfl
    have q2 : decide (1099511627776 < t) = true := decide_eq_true h2
    clear h3 h1 h2
    unfold cfgCells at *
    go_enter Try.func15, Try.ntmps15
    go_wp2_with fail
    refine HC.mono ?_
    rintro e w1 ⟨rfl, C1⟩
    go_wp2_with fail
    go_ret2
    exact ⟨ret2_ii (by rw [HR.out]) (by rw [HR.out]), ((Chg.refl _ _).alloc _).trans C1⟩
  have q2 : decide (1099511627776 < t) = false := decide_eq_false h2
  have htb : tickB C [t] = true := by
    unfold tickB
    rw [all_one, h3, show okT t = true from decide_eq_true (by omega)]
    rfl
  have hF := (tick_wf htb).1
  have HV : Hid (atV C t = findV C.wins (t % C.major)) := by show _ = _; unfold atV; rw [if_pos htb]
  have h0 : 0 ≤ t := by omega
  have h9 : t ≤ 1099511627776 := by omega
  clear h3 h1 h2 htb
  have hm := hF.major
  obtain ⟨hm1, hm2⟩ := hm
  have hwl := hF.len
  have HE := Lib.hid hF.each
  have hsw := hF.switch
  obtain ⟨hsw1, hsw2⟩ := hsw
  have hu : t.tmod C.major = t % C.major := by rw [Int.tmod_eq_emod_of_nonneg h0]
  have hu0 : 0 ≤ t % C.major := Int.emod_nonneg _ (by omega)
  have hu1 : t % C.major < C.major := Int.emod_lt_of_pos _ (by omega)
  have hne : (C.major == 0) = false := beq_eq_false_iff_ne.2 (by omega)
  obtain ⟨u, hue⟩ : ∃ u, t % C.major = u := ⟨_, rfl⟩
  rw [hue] at hu0 hu1 hu
  replace HV : Hid (atV C t = findV C.wins u) := by show _ = _; rw [← hue]; exact HV.out
  clear hue hF
  unfold cfgCells at *
  go_enter Try.func15, Try.ntmps15
  go_wp2_with fail
  refine HC.mono ?_
  rintro e w1 ⟨rfl, C1⟩
  have x1 := (HB.chg C1 (fun h => h)).cell 1
  go_wp2_with fail
  clear HC q1 q2 x1
  go_loopg [7] C.wins.length (fun g i wr => ∃ k : Nat, g + k = C.wins.length ∧ i = .int .i64 k ∧ Hid (findV C.wins u = findV (C.wins.drop k) u) ∧ Chg (w.alloc (.cells #[.int .i64 C.pages, .int .i64 C.major, .int .i64 C.switch, .slice ap C.parts.length cp, .slice ac C.chans.length cc, .slice aw C.wins.length cw] 26)) wr (fun _ => False))
  case atStart => exact ⟨0, rfl, rfl, rfl, C1⟩
  case round =>
    obtain ⟨k, hk, rfl, HK, Ck⟩ := hrel
    have HKK := Lib.hid hk
    have hkl : k ≤ C.wins.length := by omega
    clear hk
    have x5 := (HB.chg Ck (fun h => h)).cell 5
    by_cases hlt : k < C.wins.length
    · obtain ⟨b, o, rfl⟩ := h.ws.pos (by omega)
      have hkk := HA.ws.chg Ck (fun _ _ h => h)
      have c0 := Lst.cell0 (n := 3) (fun _ => rfl) hkk k (by decide) hlt rfl
      have c1 := Lst.cell (n := 3) (fun _ => rfl) hkk k 1 (by decide) hlt rfl
      have c2 := Lst.cell (n := 3) (fun _ => rfl) hkk k 2 (by decide) hlt rfl
      have hx := HE.out _ (List.getElem_mem hlt)
      have hd := drop_cons C.wins k hlt
      obtain ⟨x, hxe⟩ : ∃ x, C.wins[k] = x := ⟨_, rfl⟩
      rw [hxe] at c0 c1 c2 hx hd
      obtain ⟨z1, z2, z3, z4, z5⟩ := hx
      have HK2 : Hid (findV C.wins u = if inW x u = true then (x.part, u - x.start) else findV (C.wins.drop (k + 1)) u) := by show _ = _; rw [HK.out, hd]; rfl
      clear hkk hxe hd HK
      have C2 := Ck.alloc (.cells #[.int .i64 x.start, .int .i64 x.len, .int .i64 x.part] 38)
      by_cases y1 : x.start ≤ u
      · have q1 : decide (x.start ≤ u) = true := decide_eq_true y1
        by_cases y2 : u < x.start + x.len
        · have q2 : decide (u < x.start + x.len) = true := decide_eq_true y2
          have HR : Hid (atV C t = (x.part, u - x.start)) := by show _ = _; rw [HV.out, HK2.out, if_pos (by unfold inW; rw [q1, q2]; rfl)]
          clear y1 y2
          go_wp2_with fail
          go_quiet (fail)
          go_wp2_with fail
          go_ret2
          exact ⟨ret2_ii (by rw [HR.out]) (by rw [HR.out]), (((Chg.refl _ _).alloc _).trans C2).drewN _⟩
        · have q2 : decide (u < x.start + x.len) = false := decide_eq_false y2
          have HR : Hid (findV C.wins u = findV (C.wins.drop (k + 1)) u) := by show _ = _; rw [HK2.out, if_neg (by unfold inW; rw [q2]; simp)]
          clear y1 y2
          go_wp2_with fail
          go_roundg (gk - 1)
          case measure => have := HKK.out; omega
          case rel => exact ⟨k + 1, by have := HKK.out; omega, by go_num, HR.out, C2⟩
      · have q1 : decide (x.start ≤ u) = false := decide_eq_false y1
        have HR : Hid (findV C.wins u = findV (C.wins.drop (k + 1)) u) := by show _ = _; rw [HK2.out, if_neg (by unfold inW; rw [q1]; simp)]
        clear y1
        go_wp2_with fail
        go_roundg (gk - 1)
        case measure => have := HKK.out; omega
        case rel => exact ⟨k + 1, by have := HKK.out; omega, by go_num, HR.out, C2⟩
    · have h5 : k = C.wins.length := by omega
      subst h5
      have HR : Hid (atV C t = (-1, 0)) := by show _ = _; rw [HV.out, HK.out, List.drop_length]; rfl
      go_wp2_with fail
      go_ret2
      exact ⟨ret2_ii (by rw [HR.out]) (by rw [HR.out]), ((Chg.refl _ _).alloc _).trans Ck⟩
set_option maxHeartbeats 1000000 in
theorem rruns_any {C : Cfg} {ap ac aw : Option Addr} {cp cc cw : Nat} (w : World) (h : CfgAt w C ap ac aw cp cc cw) (t : Int) :
    Calls Try.prog 17 #[.agg (cfgCells C ap ac aw cp cc cw), .int .i64 t] w fun e w' => e = .returned (.tuple #[.int .i64 (runsV C t).1, .bool (runsV C t).2]) ∧ Chg w w' (fun _ => False) := by
  have HB := Box.new w 26 (cfgCells C ap ac aw cp cc cw)
  have HA := h.keep ((Chg.refl w (fun _ => False)).alloc (.cells (cfgCells C ap ac aw cp cc cw) 26))
  have HC := rat_any _ HA t
  have HV : Hid (runsV C t = ((atV C t).1, decide (0 ≤ (atV C t).1) && decide (C.switch ≤ (atV C t).2))) := rfl
  obtain ⟨r, hr⟩ : ∃ r, atV C t = r := ⟨_, rfl⟩
  rw [hr] at HC HV
  obtain ⟨r1, r2⟩ := r
  clear hr
  unfold cfgCells at *
  by_cases h1 : 0 ≤ r1
  · have q1 : decide (0 ≤ r1) = true := decide_eq_true h1
    by_cases h2 : C.switch ≤ r2
    · have q2 : decide (C.switch ≤ r2) = true := decide_eq_true h2
      have HR : Hid (runsV C t = (r1, true)) := by show _ = _; rw [HV.out, q1, q2]; rfl
      clear h1 h2
      go_enter Try.func17, Try.ntmps17
      go_wp2_with fail
      refine HC.mono ?_
      rintro e w1 ⟨rfl, C1⟩
      have x2 := (HB.chg C1 (fun h => h)).cell 2
      go_wp2_with fail
      go_quiet (fail)
      go_wp2_with fail
      go_ret2
      exact ⟨ret2_ib (by rw [HR.out]) (by rw [HR.out]), (((Chg.refl _ _).alloc _).trans C1).drewN _⟩
    · have q2 : decide (C.switch ≤ r2) = false := decide_eq_false h2
      have HR : Hid (runsV C t = (r1, false)) := by show _ = _; rw [HV.out, q2]; simp
      clear h1 h2
      go_enter Try.func17, Try.ntmps17
      go_wp2_with fail
      refine HC.mono ?_
      rintro e w1 ⟨rfl, C1⟩
      have x2 := (HB.chg C1 (fun h => h)).cell 2
      go_wp2_with fail
      go_quiet (fail)
      go_wp2_with fail
      go_ret2
      exact ⟨ret2_ib (by rw [HR.out]) (by rw [HR.out]), (((Chg.refl _ _).alloc _).trans C1).drewN _⟩
  · have q1 : decide (0 ≤ r1) = false := decide_eq_false h1
    have HR : Hid (runsV C t = (r1, false)) := by show _ = _; rw [HV.out, q1]; rfl
    clear h1
    go_enter Try.func17, Try.ntmps17
    go_wp2_with fail
    refine HC.mono ?_
    rintro e w1 ⟨rfl, C1⟩
    have x2 := (HB.chg C1 (fun h => h)).cell 2
    go_wp2_with fail
    go_quiet (fail)
    go_wp2_with fail
    go_ret2
    exact ⟨ret2_ib (by rw [HR.out]) (by rw [HR.out]), (((Chg.refl _ _).alloc _).trans C1).drewN _⟩

end Go.Proofs.Ytmbdimcjpdofoaa

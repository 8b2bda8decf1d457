/- The reference's First, Host, Guest; trunnionlaw14.Big. -/
import Derived.Test.YtdhkbephofnfdaaFrames
import Derived.Test.YtdhkbephofnfdaaChkAt
namespace Go.Proofs.Ytdhkbephofnfdaa
open Go.RowKit

set_option maxHeartbeats 1000000 in
theorem rfirst_any {C : Cfg} {ap ac aw : Option Addr} {cp cc cw : Nat} (w : World) (h : CfgAt w C ap ac aw cp cc cw) (p : Int) :
    Calls Try.prog 26 #[.agg (cfgCells C ap ac aw cp cc cw), .int .i64 p] w fun e w' => e = .returned (.int .i64 (firstV C p)) ∧ Chg w w' (fun _ => False) := by
  have hm1 := h.ps.mx
  have hm2 := h.ps.le
  unfold maxLen at hm1
  have HB := Box.new w 27 (cfgCells C ap ac aw cp cc cw)
  have HA := h.keep ((Chg.refl w (fun _ => False)).alloc (.cells (cfgCells C ap ac aw cp cc cw) 27))
  have HC := rcheck_any _ HA
  by_cases h3 : chk C = 0
  case neg =>
    have HR : Hid (firstV C p = -1) := by show _ = _; unfold firstV; rw [if_pos (.inr (.inr h3))]
    have q3 : (chk C != 0) = true := bne_iff_ne.2 h3
    unfold cfgCells at *
    go_enter Try.func26, Try.ntmps26
    go_wp2_with fail
    refine HC.mono ?_
    rintro e w1 ⟨rfl, C1⟩
    go_wp2_with fail
    go_ret
    exact ⟨ret_int HR.out.symm, ((Chg.refl _ _).alloc _).trans C1⟩
  have hF := fine_of h3
  rw [h3] at HC
  by_cases h1 : p < 0
  · have HR : Hid (firstV C p = -1) := by show _ = _; unfold firstV; rw [if_pos (.inl h1)]
    have q1 : decide (p < 0) = true := decide_eq_true h1
    clear h3
    unfold cfgCells at *
    go_enter Try.func26, Try.ntmps26
    go_wp2_with fail
    refine HC.mono ?_
    rintro e w1 ⟨rfl, C1⟩
    go_wp2_with fail
    go_ret
    exact ⟨ret_int HR.out.symm, ((Chg.refl _ _).alloc _).trans C1⟩
  have q1 : decide (p < 0) = false := decide_eq_false h1
  by_cases h2 : (C.parts.length : Int) ≤ p
  · have HR : Hid (firstV C p = -1) := by show _ = _; unfold firstV; rw [if_pos (.inr (.inl h2))]
    have q2 : decide ((C.parts.length : Int) ≤ p) = true := decide_eq_true h2
    clear h3
    unfold cfgCells at *
    go_enter Try.func26, Try.ntmps26
    go_wp2_with fail
    refine HC.mono ?_
    rintro e w1 ⟨rfl, C1⟩
    have x3 := (HB.chg C1 (fun h => h)).cell 3
    go_wp2_with fail
    go_ret
    exact ⟨ret_int HR.out.symm, ((Chg.refl _ _).alloc _).trans C1⟩
  have q2 : decide ((C.parts.length : Int) ≤ p) = false := decide_eq_false h2
  obtain ⟨m, rfl⟩ := Int.eq_ofNat_of_zero_le (show 0 ≤ p by omega)
  have HR : Hid (firstV C m = 4 + psum C.parts m) := by show _ = _; unfold firstV; rw [if_neg (by rintro (h | h | h) <;> first | exact absurd h (by omega) | exact h h3)]; rfl
  have HP := Lib.hid hF.sumR
  have HE := Lib.hid hF.each
  clear h3 hF
  unfold cfgCells at *
  go_enter Try.func26, Try.ntmps26
  go_wp2_with fail
  refine HC.mono ?_
  rintro e w1 ⟨rfl, C1⟩
  have x3 := (HB.chg C1 (fun h => h)).cell 3
  go_wp2_with fail
  clear HC q1 q2
  go_loopw [5, 6] (fun n i wr => ∃ j : Nat, j ≤ m ∧ i = .int .i64 j ∧ n = .int .i64 (4 + psum C.parts j) ∧ Chg (w.alloc (.cells #[.int .i64 C.pages, .int .i64 C.major, .int .i64 C.switch, .slice ap C.parts.length cp, .slice ac C.chans.length cc, .slice aw C.wins.length cw] 27)) wr (fun _ => False)) (fun _ i _ => m - (intOf i).toNat)
  case atStart => exact ⟨0, by omega, rfl, rfl, C1⟩
  case round =>
    obtain ⟨j, hj, rfl, rfl, Cj⟩ := hrel
    obtain ⟨hp1, hp2⟩ := HP.out j
    have Bj := HB.chg Cj (fun h => h)
    have x3 := Bj.cell 3
    by_cases hlt : j < m
    · obtain ⟨b, o, rfl⟩ := h.ps.pos (by omega)
      have hkk := HA.ps.chg Cj (fun _ _ h => h)
      have c1 := Lst.cell (n := 3) (fun _ => rfl) hkk j 1 (by decide) (by omega) rfl
      have hx := HE.out _ (List.getElem_mem (show j < C.parts.length by omega))
      have HS := Lib.hid (psum_succ C.parts j (by omega))
      obtain ⟨x, hxe⟩ : ∃ x, C.parts[j]'(by omega) = x := ⟨_, rfl⟩
      rw [hxe] at c1 HS hx
      obtain ⟨hx1, hx2⟩ := hx
      clear hkk hxe
      go_wp2_with fail
      go_roundw
      case rel => exact ⟨j + 1, by omega, by go_num, by rw [HS.out]; exact int_eq (by omega), Cj⟩
      case measure => simp [intOf]; omega
    · have h1 : j = m := by omega
      subst h1
      go_wp2_with fail
      go_ret
      exact ⟨ret_int HR.out.symm, ((Chg.refl _ _).alloc _).trans Cj⟩

set_option maxHeartbeats 1000000 in
theorem rhost_any {C : Cfg} {ap ac aw : Option Addr} {cp cc cw : Nat} (w : World) (h : CfgAt w C ap ac aw cp cc cw) (p fr : Int) :
    Calls Try.prog 22 #[.agg (cfgCells C ap ac aw cp cc cw), .int .i64 p, .int .i64 fr] w fun e w' => e = .returned (.tuple #[.int .i64 (hostV C p fr).1, .bool (hostV C p fr).2]) ∧ Chg w w' (fun _ => False) := by
  have hm1 := h.ps.mx
  have hm2 := h.ps.le
  unfold maxLen at hm1
  have HB := Box.new w 27 (cfgCells C ap ac aw cp cc cw)
  have HA := h.keep ((Chg.refl w (fun _ => False)).alloc (.cells (cfgCells C ap ac aw cp cc cw) 27))
  have HC := rfirst_any _ HA p
  have hz : w.heap.size < (w.alloc (.cells (cfgCells C ap ac aw cp cc cw) 27)).heap.size := by simp
  by_cases h1 : firstV C p < 0
  · have HR : Hid (hostV C p fr = (0, false)) := by show _ = _; unfold hostV; rw [if_pos (.inl h1)]
    have q1 : decide (firstV C p < 0) = true := decide_eq_true h1
    unfold cfgCells at *
    go_enter Try.func22, Try.ntmps22
    go_wp2_with fail
    refine HC.mono ?_
    rintro e w1 ⟨rfl, C1⟩
    go_wp2_with fail
    go_ret2
    exact ⟨ret2_ib (by rw [HR.out]) (by rw [HR.out]), ((Chg.refl _ _).alloc _).trans C1⟩
  obtain ⟨k, rfl, hk, h0, hf⟩ := firstV_yes h1
  have hF := fine_of h0
  have hs := hF.sumR k
  have hp := hF.each _ (List.getElem_mem hk)
  have q1 : decide (firstV C k < 0) = false := decide_eq_false h1
  have hfr : 0 ≤ firstV C k ∧ firstV C k ≤ 1000 := by omega
  have HV : Hid (hostV C k fr = if fr < 0 then (0, false) else if C.parts[k].pages ≤ fr then (0, false) else (firstV C k + fr, true)) := by
    show _ = _
    unfold hostV
    rw [show ((k : Int)).toNat = k from rfl, List.getElem?_eq_getElem hk]
    by_cases h2 : fr < 0
    · rw [if_pos (.inr h2), if_pos h2]
    · rw [if_neg (by omega), if_neg h2]
  obtain ⟨fv, hfv⟩ : ∃ fv, firstV C k = fv := ⟨_, rfl⟩
  rw [hfv] at HC q1 hfr HV
  obtain ⟨hf1, hf2⟩ := hfr
  clear h1 hf h0 hF hs hfv
  by_cases h2 : fr < 0
  · have HR : Hid (hostV C k fr = (0, false)) := by show _ = _; rw [HV.out, if_pos h2]
    have q2 : decide (fr < 0) = true := decide_eq_true h2
    unfold cfgCells at *
    go_enter Try.func22, Try.ntmps22
    go_wp2_with fail
    refine HC.mono ?_
    rintro e w1 ⟨rfl, C1⟩
    go_wp2_with fail
    go_ret2
    exact ⟨ret2_ib (by rw [HR.out]) (by rw [HR.out]), ((Chg.refl _ _).alloc _).trans C1⟩
  have q2 : decide (fr < 0) = false := decide_eq_false h2
  obtain ⟨b, o, rfl⟩ := h.ps.pos (by omega)
  have HCL := Lib.hid (fun w1 (c : Chg _ w1 (fun _ => False)) => Lst.cell (n := 3) (fun _ => rfl) (HA.ps.chg c (fun _ _ h => h)) k 1 (by decide) hk rfl)
  obtain ⟨x, hx⟩ : ∃ x, C.parts[k].pages = x := ⟨_, rfl⟩
  rw [hx] at HCL HV hp
  obtain ⟨hp1, hp2⟩ := hp
  clear hx
  have hk0 : (0 : Int) ≤ (k : Int) := by omega
  by_cases h3 : x ≤ fr
  · have HR : Hid (hostV C k fr = (0, false)) := by show _ = _; rw [HV.out, if_neg h2, if_pos h3]
    have q3 : decide (x ≤ fr) = true := decide_eq_true h3
    unfold cfgCells at *
    go_enter Try.func22, Try.ntmps22
    go_wp2_with fail
    refine HC.mono ?_
    rintro e w1 ⟨rfl, C1⟩
    have c1 := HCL.out w1 C1
    have x3 := (HB.chg C1 (fun h => h)).cell 3
    go_wp2_with fail
    go_ret2
    exact ⟨ret2_ib (by rw [HR.out]) (by rw [HR.out]), ((Chg.refl _ _).alloc _).trans C1⟩
  · have HR : Hid (hostV C k fr = (fv + fr, true)) := by show _ = _; rw [HV.out, if_neg h2, if_neg h3]
    have q3 : decide (x ≤ fr) = false := decide_eq_false h3
    unfold cfgCells at *
    go_enter Try.func22, Try.ntmps22
    go_wp2_with fail
    refine HC.mono ?_
    rintro e w1 ⟨rfl, C1⟩
    have c1 := HCL.out w1 C1
    have x3 := (HB.chg C1 (fun h => h)).cell 3
    go_wp2_with fail
    go_ret2
    exact ⟨ret2_ib (by rw [HR.out]) (by rw [HR.out]), ((Chg.refl _ _).alloc _).trans C1⟩

set_option maxHeartbeats 2000000 in
theorem rguest_any {C : Cfg} {ap ac aw : Option Addr} {cp cc cw : Nat} (w : World) (h : CfgAt w C ap ac aw cp cc cw) (fr : Int) :
    Calls Try.prog 24 #[.agg (cfgCells C ap ac aw cp cc cw), .int .i64 fr] w fun e w' => e = .returned (.tuple #[.int .i64 (guestV C fr).1, .int .i64 (guestV C fr).2]) ∧ Chg w w' (fun _ => False) := by
  have hm1 := h.ps.mx
  have hm2 := h.ps.le
  unfold maxLen at hm1
  have HB := Box.new w 27 (cfgCells C ap ac aw cp cc cw)
  have HA := h.keep ((Chg.refl w (fun _ => False)).alloc (.cells (cfgCells C ap ac aw cp cc cw) 27))
  have HC := rcheck_any _ HA
  by_cases h1 : chk C = 0
  case neg =>
    have HR : Hid (guestV C fr = (-3, -1)) := by show _ = _; unfold guestV; rw [if_pos (.inl h1)]
    have q1 : (chk C != 0) = true := bne_iff_ne.2 h1
    unfold cfgCells at *
    go_enter Try.func24, Try.ntmps24
    go_wp2_with fail
    refine HC.mono ?_
    rintro e w1 ⟨rfl, C1⟩
    go_wp2_with fail
    go_ret2
    exact ⟨ret2_ii (by rw [HR.out]) (by rw [HR.out]), ((Chg.refl _ _).alloc _).trans C1⟩
  have hF := fine_of h1
  have HV : Hid (guestV C fr = if fr < 0 ∨ C.pages ≤ fr then (-3, -1) else if fr < 4 then (-1, -1) else guestGo C.parts 0 (fr - 4)) := by
    show _ = _
    unfold guestV
    by_cases h2 : fr < 0 ∨ C.pages ≤ fr
    · rw [if_pos (.inr h2), if_pos h2]
    · rw [if_neg (by rintro (h | h); exact h h1; exact h2 h), if_neg h2]
  rw [h1] at HC
  have hpg := hF.pages
  obtain ⟨hpg1, hpg2⟩ := hpg
  by_cases h2 : fr < 0
  · have HR : Hid (guestV C fr = (-3, -1)) := by show _ = _; rw [HV.out, if_pos (.inl h2)]
    have q2 : decide (fr < 0) = true := decide_eq_true h2
    clear h1
    unfold cfgCells at *
    go_enter Try.func24, Try.ntmps24
    go_wp2_with fail
    refine HC.mono ?_
    rintro e w1 ⟨rfl, C1⟩
    go_wp2_with fail
    go_ret2
    exact ⟨ret2_ii (by rw [HR.out]) (by rw [HR.out]), ((Chg.refl _ _).alloc _).trans C1⟩
  have q2 : decide (fr < 0) = false := decide_eq_false h2
  by_cases h3 : C.pages ≤ fr
  · have HR : Hid (guestV C fr = (-3, -1)) := by show _ = _; rw [HV.out, if_pos (.inr h3)]
    have q3 : decide (C.pages ≤ fr) = true := decide_eq_true h3
    clear h1
    unfold cfgCells at *
    go_enter Try.func24, Try.ntmps24
    go_wp2_with fail
    refine HC.mono ?_
    rintro e w1 ⟨rfl, C1⟩
    have x0 := (HB.chg C1 (fun h => h)).cell 0
    go_wp2_with fail
    go_ret2
    exact ⟨ret2_ii (by rw [HR.out]) (by rw [HR.out]), ((Chg.refl _ _).alloc _).trans C1⟩
  have q3 : decide (C.pages ≤ fr) = false := decide_eq_false h3
  by_cases h4 : fr < 4
  · have HR : Hid (guestV C fr = (-1, -1)) := by show _ = _; rw [HV.out, if_neg (by omega), if_pos h4]
    have q4 : decide (fr < 4) = true := decide_eq_true h4
    clear h1
    unfold cfgCells at *
    go_enter Try.func24, Try.ntmps24
    go_wp2_with fail
    refine HC.mono ?_
    rintro e w1 ⟨rfl, C1⟩
    have x0 := (HB.chg C1 (fun h => h)).cell 0
    go_wp2_with fail
    go_ret2
    exact ⟨ret2_ii (by rw [HR.out]) (by rw [HR.out]), ((Chg.refl _ _).alloc _).trans C1⟩
  have q4 : decide (fr < 4) = false := decide_eq_false h4
  have HR : Hid (guestV C fr = guestGo C.parts 0 (fr - 4)) := by show _ = _; rw [HV.out, if_neg (by omega), if_neg h4]
  have HBG := Lib.hid (fun w' k hk (c : Chg _ w' (fun _ => False)) => begin_any w' (HA.keep (w' := w') c) hF k hk)
  have HFF := Lib.hid hF
  clear h1 HV hF
  unfold cfgCells at *
  go_enter Try.func24, Try.ntmps24
  go_wp2_with fail
  refine HC.mono ?_
  rintro e w1 ⟨rfl, C1⟩
  have B1 := HB.chg C1 (fun h => h)
  have x0 := B1.cell 0
  have x3 := B1.cell 3
  go_wp2_with fail
  clear HC q2 q3 q4
  go_loopw [6, 7] (fun n i wr => ∃ k : Nat, k ≤ C.parts.length ∧ i = .int .i64 k ∧ n = .int .i64 (fr - 4 - psum C.parts k) ∧ 4 + psum C.parts k ≤ fr ∧ Hid (guestV C fr = guestGo (C.parts.drop k) k (fr - 4 - psum C.parts k)) ∧ Chg (w.alloc (.cells #[.int .i64 C.pages, .int .i64 C.major, .int .i64 C.switch, .slice ap C.parts.length cp, .slice ac C.chans.length cc, .slice aw C.wins.length cw] 27)) wr (fun _ => False)) (fun _ i _ => C.parts.length - (intOf i).toNat)
  case atStart => exact ⟨0, by omega, rfl, int_eq (by simp [psum]), by simp [psum]; omega, by show _ = _; rw [HR.out]; simp [psum], C1⟩
  case round =>
    obtain ⟨k, hk, rfl, rfl, hle, HG, Ck⟩ := hrel
    have Bk := HB.chg Ck (fun h => h)
    have x3 := Bk.cell 3
    have hs := HFF.out.sumR k
    obtain ⟨hs1, hs2⟩ := hs
    by_cases hlt : k < C.parts.length
    · obtain ⟨b, o, rfl⟩ := h.ps.pos (by omega)
      have hkk := HA.ps.chg Ck (fun _ _ h => h)
      have c1 := Lst.cell (n := 3) (fun _ => rfl) hkk k 1 (by decide) hlt rfl
      have hp := HFF.out.each _ (List.getElem_mem hlt)
      have HS := Lib.hid (psum_succ C.parts k hlt)
      have HD := Lib.hid (drop_cons C.parts k hlt)
      obtain ⟨x, hx⟩ : ∃ x, C.parts[k] = x := ⟨_, rfl⟩
      rw [hx] at c1 HS hp HD
      obtain ⟨hp1, hp2⟩ := hp
      have HG2 : Hid (guestV C fr = if fr - 4 - psum C.parts k < x.pages then ((k : Int), fr - 4 - psum C.parts k) else guestGo (C.parts.drop (k + 1)) (k + 1) (fr - 4 - psum C.parts k - x.pages)) := by
        show _ = _
        rw [HG.out, HD.out]
        rfl
      obtain ⟨nn, hnn⟩ : ∃ nn, fr - 4 - psum C.parts k = nn := ⟨_, rfl⟩
      have hn0 : 0 ≤ nn := by omega
      have hn1 : nn ≤ 1000 := by omega
      rw [hnn] at HG2 ⊢
      have HN := Lib.hid hnn
      clear hkk hx HG hnn hle hs1 hs2
      by_cases h5 : nn < x.pages
      · have q5 : decide (nn < x.pages) = true := decide_eq_true h5
        have HR2 : Hid (guestV C fr = ((k : Int), nn)) := by show _ = _; rw [HG2.out, if_pos h5]
        clear h5
        go_wp2_with fail
        go_ret2
        exact ⟨ret2_ii (by rw [HR2.out]) (by rw [HR2.out]), ((Chg.refl _ _).alloc _).trans Ck⟩
      · have q5 : decide (nn < x.pages) = false := decide_eq_false h5
        have HM : Hid (fr - 4 - psum C.parts (k + 1) = nn - x.pages) := by show _ = _; rw [HS.out]; have := HN.out; omega
        have HR2 : Hid (guestV C fr = guestGo (C.parts.drop (k + 1)) (k + 1) (fr - 4 - psum C.parts (k + 1))) := by show _ = _; rw [HG2.out, if_neg h5, HM.out]
        have H5 := Lib.hid h5
        clear h5
        go_wp2_with fail
        go_roundw
        case rel => exact ⟨k + 1, by omega, by go_num, by rw [HM.out], by have := H5.out; have := HM.out; omega, HR2.out, Ck⟩
        case measure => simp [intOf]; omega
    · have h5 : k = C.parts.length := by omega
      subst h5
      have HR2 : Hid (guestV C fr = (-2, -1)) := by show _ = _; rw [HG.out, List.drop_length]; rfl
      clear hs1 hs2 hle
      go_wp2_with fail
      go_ret2
      exact ⟨ret2_ii (by rw [HR2.out]) (by rw [HR2.out]), ((Chg.refl _ _).alloc _).trans Ck⟩

end Go.Proofs.Ytdhkbephofnfdaa

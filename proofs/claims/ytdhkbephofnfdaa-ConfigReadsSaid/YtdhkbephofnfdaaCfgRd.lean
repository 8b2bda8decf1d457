/- ConfigReads: the walk. -/
import Derived.Test.YtdhkbephofnfdaaCRUnp
import Derived.Test.YtdhkbephofnfdaaCSame
import Derived.Test.YtdhkbephofnfdaaCUnp2
import Derived.Test.YtdhkbephofnfdaaLaw14
import Derived.Test.YtdhkbephofnfdaaRead
namespace Go.Proofs.Ytdhkbephofnfdaa
open Go.RowKit

theorem same_at {C : Cfg} {ap ac aw bp bc bw : Option Addr} {cp cc cw dp dc dw : Nat} {w : World} (h : CfgAt w C ap ac aw cp cc cw) (g : CfgAt w C bp bc bw dp dc dw) {pg mj sw : Int} {np nc nw : Nat} (h1 : C.pages = pg) (h2 : C.major = mj) (h3 : C.switch = sw) (ha : C.parts.length = np) (hb : C.chans.length = nc) (hc : C.wins.length = nw) :
    Calls Try.prog 40 #[.agg #[.int .i64 pg, .int .i64 mj, .int .i64 sw, .slice ap np cp, .slice ac nc cc, .slice aw nw cw], .agg #[.int .i64 pg, .int .i64 mj, .int .i64 sw, .slice bp np dp, .slice bc nc dc, .slice bw nw dw]] w fun e w' => e = .returned (.bool true) ∧ Chg w w' (fun _ => False) := by
  subst h1 h2 h3 ha hb hc
  exact same_cfg w h g

set_option maxHeartbeats 1600000 in
theorem configReads_out {ao : Option Addr} {m c : Nat} (w : World) (h : 5000 < m) :
    Calls Try.prog 13 #[.slice ao m c] w fun e w' => e = .returned (.bool true) ∧ Below w.heap.size w w' := by
  have d1 : decide ((5000 : Int) < (m : Int)) = true := decide_eq_true (by omega)
  clear h
  go_enter Try.func13, Try.ntmps13
  go_wp2_with fail
  refine (alive_any _).mono ?_
  rintro e w1 ⟨rfl, C1⟩
  go_wp2_with fail
  go_ret
  exact ⟨rfl, C1.below (Nat.le_refl _) (fun _ _ h => h)⟩

set_option maxRecDepth 100000 in
set_option maxHeartbeats 3200000 in
theorem configReads_in {ao : Option Addr} {m c : Nat} {xs : List Int} (w : World) (hm : xs.length = m) (hL : Lst w ao m c (u8s xs) 1) (hx : bytesOk xs) (h : m ≤ 5000) (ho : ∀ ad, ao = some ad → 0 < m → ad.block < w.heap.size) :
    Calls Try.prog 13 #[.slice ao m c] w fun e w' => e = .returned (.bool true) ∧ Below w.heap.size w w' := by
  have d1 : decide ((5000 : Int) < (m : Int)) = false := decide_eq_false (by omega)
  obtain ⟨i0, hi0, hz0, hz1, hz2⟩ := info_parts info_u8i
  have HL := Lib.hid hL
  have HM := Lib.hid hm
  have HO := Lib.hid ho
  clear hL hm ho
  go_enter Try.func13, Try.ntmps13
  go_wp2_with fail
  refine (alive_any _).mono ?_
  rintro e w1 ⟨rfl, C1⟩
  have S1 := HL.out.src.chg C1 (fun _ _ h => h)
  go_wp2_with (at_builtin; go_loud (refine wpList_append_src _ rfl (.const (.slice none 0 0)) (.tmp 18) _ rfl w1.heap.size 5 i0 _ 1 1 Try.underlying59 hi0 hz0 hz1 hz2 rfl (by omega) _ 0 [] rfl ⟨rfl, .inl ⟨rfl, rfl⟩⟩ _ m c _ rfl S1 (u8s_one _) (by unfold maxLen; omega) (by omega) (Nat.le_refl _) ?_); go_loud (intro v2 w2 O2 hgr2); go_loud (rw [Nat.zero_add, List.nil_append] at O2); go_loud (obtain ⟨a2, c2, rfl, -, -, -, f2⟩ := own_form O2))
  have C2 : Chg w w2 (fun _ => False) := C1.grown hgr2 (fun k hk _ => by cases hk)
  have HU := unpack_any (ao := a2) (c := c2) (xs := xs) w2 (by rw [HM.out]; exact own_lst O2) hx (fun ad e => by obtain ⟨g, rfl, _, hg⟩ := f2 ad e; exact ⟨g, 0, rfl, hg⟩)
  rw [HM.out] at HU
  refine HU.mono ?_
  rintro e w3 ⟨C, x, ap, ac, aw, cp, cc, cw, hu3, rfl, CF3, C3⟩
  have C13 := C2.trans C3
  unfold cfgCells
  obtain ⟨pg, hpg⟩ : ∃ x, C.pages = x := ⟨_, rfl⟩
  obtain ⟨mj, hmj⟩ : ∃ x, C.major = x := ⟨_, rfl⟩
  obtain ⟨sw, hsw⟩ : ∃ x, C.switch = x := ⟨_, rfl⟩
  obtain ⟨np, hnp⟩ : ∃ x, C.parts.length = x := ⟨_, rfl⟩
  obtain ⟨nc, hnc⟩ : ∃ x, C.chans.length = x := ⟨_, rfl⟩
  obtain ⟨nw, hnw⟩ : ∃ x, C.wins.length = x := ⟨_, rfl⟩
  rw [hpg, hmj, hsw, hnp, hnc, hnw]
  obtain ⟨w4, hw4⟩ : ∃ w4, w3.alloc (.cells #[.int .i64 pg, .int .i64 mj, .int .i64 sw, .slice ap np cp, .slice ac nc cc, .slice aw nw cw] 27) = w4 := ⟨_, rfl⟩
  have B4 : Box w4 w3.heap.size 27 #[.int .i64 pg, .int .i64 mj, .int .i64 sw, .slice ap np cp, .slice ac nc cc, .slice aw nw cw] := by rw [← hw4]; exact Box.new _ _ _
  have C34 : Chg w3 w4 (fun _ => False) := by rw [← hw4]; exact (Chg.refl w3 _).alloc _
  have C4 := C13.trans C34
  have HV := runpack_any (ao := ao) (c := c) (xs := xs) w4 (by rw [HM.out]; exact HL.out.chg C4 (fun _ _ h => h)) hx (fun ad e h => Nat.lt_of_lt_of_le (HO.out ad e (by rw [← HM.out]; exact h)) C4.size) (by rw [HM.out]; exact h)
  rw [HM.out] at HV
  have HH := Lib.hid (And.intro hpg (And.intro hmj (And.intro hsw (And.intro hnp (And.intro hnc hnw)))))
  clear HU hpg hmj hsw hnp hnc hnw O2 f2 S1
  go_wp2_with fail
  refine HV.mono ?_
  rintro e w5 ⟨C', x', bp, bc, bw, dp, dc, dw, hu5, rfl, CF5, C5⟩
  obtain ⟨rfl, rfl⟩ : C = C' ∧ x = x' := by
    have := hu3.symm.trans hu5
    injection this with h1 h2
    exact ⟨h1, h2⟩
  obtain ⟨hpg, hmj, hsw, hnp, hnc, hnw⟩ := HH.out
  unfold cfgCells
  rw [hpg, hmj, hsw, hnp, hnc, hnw]
  obtain ⟨w6, hw6⟩ : ∃ w6, w5.alloc (.cells #[.int .i64 pg, .int .i64 mj, .int .i64 sw, .slice bp np dp, .slice bc nc dc, .slice bw nw dw] 27) = w6 := ⟨_, rfl⟩
  have B6 : Box w6 w5.heap.size 27 #[.int .i64 pg, .int .i64 mj, .int .i64 sw, .slice bp np dp, .slice bc nc dc, .slice bw nw dw] := by rw [← hw6]; exact Box.new _ _ _
  have C56 : Chg w5 w6 (fun _ => False) := by rw [← hw6]; exact (Chg.refl w5 _).alloc _
  have B46 := B4.chg (C5.trans C56) (fun h => h)
  have HSM := same_at (CF3.keep (C34.trans (C5.trans C56))) (CF5.keep C56) hpg hmj hsw hnp hnc hnw
  have C6 := Lib.hid (C4.trans (C5.trans C56))
  have y0 := B46.cell 0
  have y1 := B46.cell 1
  have y2 := B46.cell 2
  have y3 := B46.cell 3
  have y4 := B46.cell 4
  have y5 := B46.cell 5
  have z0 := B6.cell 0
  have z1 := B6.cell 1
  have z2 := B6.cell 2
  have z3 := B6.cell 3
  have z4 := B6.cell 4
  have z5 := B6.cell 5
  clear hpg hmj hsw hnp hnc hnw HH HV hu3 hu5 CF3 CF5 B4 B6 B46 C3 C13 C34 C4 C5 C56 C2 C1
  go_wp2_with (go_at_call 16; refine (num_any _ _).mono ?_; rintro e w' ⟨rfl, rfl⟩)
  refine HSM.mono ?_
  rintro e w7 ⟨rfl, C7⟩
  go_wp2_with fail
  go_ret
  exact ⟨rfl, (C6.out.trans C7).below (Nat.le_refl _) (fun _ _ h => h)⟩
end Go.Proofs.Ytdhkbephofnfdaa

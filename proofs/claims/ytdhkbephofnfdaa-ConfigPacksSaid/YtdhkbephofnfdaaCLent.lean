/- ConfigPacks: Lent (printed by gen_clent.py). -/
import Derived.Test.YtdhkbephofnfdaaOwn
import Derived.Test.YtdhkbephofnfdaaApp
import Derived.Test.YtdhkbephofnfdaaTail
import Derived.Deep.DeepCutAuto
import Derived.Deep.CutBlock
namespace Go.Proofs.Ytdhkbephofnfdaa
open Go.RowKit

/-- What Lent leaves: each list in memory of its own, one more behind it. -/
def LentR (w w' : World) (C : Cfg) (pg mj sw : Int) (np nc nw : Nat) (e : Ending) : Prop :=
  ∃ g0 d0 g1 d1 g2 d2, e = .returned (.agg #[.int .i64 pg, .int .i64 mj, .int .i64 sw, .slice (some ⟨g0, 0, none⟩) np d0, .slice (some ⟨g1, 0, none⟩) nc d1, .slice (some ⟨g2, 0, none⟩) nw d2]) ∧ Chg w w' (fun _ => False) ∧ w'.ownsRow w.heap.size 30 3 (.slice (some ⟨g0, 0, none⟩) (np + 1) d0) (np + 1) ((C.parts.flatMap partCells) ++ [.string ⟨#[]⟩, .int .i64 (-71), .int .i64 0]) ∧ w'.ownsRow w.heap.size 32 5 (.slice (some ⟨g1, 0, none⟩) (nc + 1) d1) (nc + 1) ((C.chans.flatMap chanCells) ++ [.int .i64 (-71), .int .i64 0, .int .i64 0, .int .i64 0, .int .i64 0]) ∧ w'.ownsRow w.heap.size 34 3 (.slice (some ⟨g2, 0, none⟩) (nw + 1) d2) (nw + 1) ((C.wins.flatMap winCells) ++ [.int .i64 (-71), .int .i64 0, .int .i64 0])
set_option maxRecDepth 100000 in
set_option maxHeartbeats 8000000 in
theorem lent_any {C : Cfg} {ap ac aw : Option Addr} {cp cc cw : Nat} (w : World) (h : CfgAt w C ap ac aw cp cc cw) {pg mj sw : Int} {np nc nw : Nat} (ha : C.parts.length = np) (hb : C.chans.length = nc) (hc : C.wins.length = nw) (h1 : np ≤ 20) (h2 : nc ≤ 40) (h3 : nw ≤ 60) :
    Calls Try.prog 35 #[.agg #[.int .i64 pg, .int .i64 mj, .int .i64 sw, .slice ap np cp, .slice ac nc cc, .slice aw nw cw]] w fun e w' => LentR w w' C pg mj sw np nc nw e := by
  obtain ⟨iP, hP, hP0, hP1, hP2⟩ := info_parts info_part
  obtain ⟨iC, hC, hC0, hC1, hC2⟩ := info_parts info_chan
  obtain ⟨iW, hW, hW0, hW1, hW2⟩ := info_parts info_win
  have HS0 : Hid (Src w ap np cp (C.parts.flatMap partCells) 3) := by show Src _ _ _ _ _ _; rw [← ha]; exact h.ps.src
  have HS1 : Hid (Src w ac nc cc (C.chans.flatMap chanCells) 5) := by show Src _ _ _ _ _ _; rw [← hb]; exact h.cs.src
  have HS2 : Hid (Src w aw nw cw (C.wins.flatMap winCells) 3) := by show Src _ _ _ _ _ _; rw [← hc]; exact h.ws.src
  clear h ha hb hc
  go_enter Try.func35, Try.ntmps35
  go_upto_region 1 with fail
  have B0 : Box ((w.alloc (.cells #[.int .i64 pg, .int .i64 mj, .int .i64 sw, .slice ap np cp, .slice ac nc cc, .slice aw nw cw] 27)).alloc (.cells #[.int .i64 0, .int .i64 0, .int .i64 0, .slice none 0 0, .slice none 0 0, .slice none 0 0] 27)) w.heap.size 27 #[.int .i64 pg, .int .i64 mj, .int .i64 sw, .slice ap np cp, .slice ac nc cc, .slice aw nw cw] := (Box.new _ _ _).alloc _
  have Z0 := Box.new (w.alloc (.cells #[.int .i64 pg, .int .i64 mj, .int .i64 sw, .slice ap np cp, .slice ac nc cc, .slice aw nw cw] 27)) 27 #[.int .i64 0, .int .i64 0, .int .i64 0, .slice none 0 0, .slice none 0 0, .slice none 0 0]
  rw [show (w.alloc (.cells #[.int .i64 pg, .int .i64 mj, .int .i64 sw, .slice ap np cp, .slice ac nc cc, .slice aw nw cw] 27)).heap.size = w.heap.size + 1 from by simp] at Z0
  have C0 : Chg w ((w.alloc (.cells #[.int .i64 pg, .int .i64 mj, .int .i64 sw, .slice ap np cp, .slice ac nc cc, .slice aw nw cw] 27)).alloc (.cells #[.int .i64 0, .int .i64 0, .int .i64 0, .slice none 0 0, .slice none 0 0, .slice none 0 0] 27)) (fun _ => False) := ((Chg.refl w _).alloc _).alloc _
  generalize (w.alloc (.cells #[.int .i64 pg, .int .i64 mj, .int .i64 sw, .slice ap np cp, .slice ac nc cc, .slice aw nw cw] 27)).alloc (.cells #[.int .i64 0, .int .i64 0, .int .i64 0, .slice none 0 0, .slice none 0 0, .slice none 0 0] 27) = wc at *
  go_cut [] (fun wx => ∃ g0 d0, Box wx w.heap.size 27 #[.int .i64 pg, .int .i64 mj, .int .i64 sw, .slice (some ⟨g0, 0, none⟩) np d0, .slice ac nc cc, .slice aw nw cw] ∧ Box wx (w.heap.size + 1) 27 #[.int .i64 0, .int .i64 0, .int .i64 0, .slice none 0 0, .slice none 0 0, .slice none 0 0] ∧ Chg w wx (fun _ => False) ∧ wx.ownsRow w.heap.size 30 3 (.slice (some ⟨g0, 0, none⟩) (np + 1) d0) (np + 1) ((C.parts.flatMap partCells) ++ [.string ⟨#[]⟩, .int .i64 (-71), .int .i64 0]))
  case first =>
    have HB := Lib.hid B0
    have HZ := Lib.hid Z0
    have HC := Lib.hid C0
    have b3 := B0.cell 3
    have hq := B0.lt
    clear B0 Z0 C0
    refine wp_region_noPanic ?_
    refine wp_region_L 9 (fun w' => w'.cell? ⟨w.heap.size, 3, none⟩ = some (.slice ap np cp)) (by kernel_rfl) (b3) (fun hHeld => ?_)
    refine wpAnyL_take (i := 0) (oi := ?oia0) (v := ?va0) ?hia0 (by kernel_rfl) (by kernel_rfl) (by kernel_rfl) (by kernel_rfl) (fun _ _ _ h => h) (Or.inl ⟨?hwa0, ?hya0⟩) (by assumption) ?hra0
    case hia0 => simp only [List.getElem?_toArray, List.getElem?_cons_succ, List.getElem?_cons_zero]; rfl
    case hwa0 => rfl
    case hya0 => intro wq hSq; (try dsimp only at hSq); go_simp; (try with_reducible rfl)
    try simp only [Act.put, List.setIfInBounds_toArray, List.set_cons_zero, List.set_cons_succ]
    refine wpAnyL_take (i := 1) (oi := ?oia1) (v := ?va1) ?hia1 (by kernel_rfl) (by kernel_rfl) (by kernel_rfl) (by kernel_rfl) (fun _ _ _ h => h) (Or.inl ⟨?hwa1, ?hya1⟩) (by assumption) ?hra1
    case hia1 => simp only [List.getElem?_toArray, List.getElem?_cons_succ, List.getElem?_cons_zero]; rfl
    case hwa1 => rfl
    case hya1 => intro wq hSq; (try dsimp only at hSq); go_simp; (try with_reducible rfl)
    try simp only [Act.put, List.setIfInBounds_toArray, List.set_cons_zero, List.set_cons_succ]
    refine wpAnyL_take (i := 3) (oi := ?oia3) (v := ?va3) ?hia3 (by kernel_rfl) (by kernel_rfl) (by kernel_rfl) (by kernel_rfl) (fun _ _ _ h => h) (Or.inl ⟨?hwa3, ?hya3⟩) (by assumption) ?hra3
    case hia3 => simp only [List.getElem?_toArray, List.getElem?_cons_succ, List.getElem?_cons_zero]; rfl
    case hwa3 => rfl
    case hya3 => intro wq hSq; (try dsimp only at hSq); go_simp; (try with_reducible rfl)
    try simp only [Act.put, List.setIfInBounds_toArray, List.set_cons_zero, List.set_cons_succ]
    refine wpAnyL_take (i := 6) (oi := ?oia6) (v := ?va6) ?hia6 (by kernel_rfl) (by kernel_rfl) (by kernel_rfl) (by kernel_rfl) (fun _ _ _ h => h) (Or.inl ⟨?hwa6, ?hya6⟩) (by assumption) ?hra6
    case hia6 => simp only [List.getElem?_toArray, List.getElem?_cons_succ, List.getElem?_cons_zero]; rfl
    case hwa6 => rfl
    case hya6 => intro wq hSq; (try dsimp only at hSq); go_simp; (try with_reducible rfl)
    try simp only [Act.put, List.setIfInBounds_toArray, List.set_cons_zero, List.set_cons_succ]
    refine wpAnyL_take (i := 7) (oi := ?oia7) (v := ?va7) ?hia7 (by kernel_rfl) (by kernel_rfl) (by kernel_rfl) (by kernel_rfl) (fun _ _ _ h => h) (Or.inl ⟨?hwa7, ?hya7⟩) (by assumption) ?hra7
    case hia7 => simp only [List.getElem?_toArray, List.getElem?_cons_succ, List.getElem?_cons_zero]; rfl
    case hwa7 => rfl
    case hya7 => intro wq hSq; (try dsimp only at hSq); go_simp; (try with_reducible rfl)
    try simp only [Act.put, List.setIfInBounds_toArray, List.set_cons_zero, List.set_cons_succ]
    refine wpAnyL_take (i := 8) (oi := ?oia8) (v := ?va8) ?hia8 (by kernel_rfl) (by kernel_rfl) (by kernel_rfl) (by kernel_rfl) (fun _ _ _ h => h) (Or.inl ⟨?hwa8, ?hya8⟩) (by assumption) ?hra8
    case hia8 => simp only [List.getElem?_toArray, List.getElem?_cons_succ, List.getElem?_cons_zero]; rfl
    case hwa8 => rfl
    case hya8 => intro wq hSq; (try dsimp only at hSq); go_simp; (try with_reducible rfl)
    try simp only [Act.put, List.setIfInBounds_toArray, List.set_cons_zero, List.set_cons_succ]
    refine wpAnyL_ready (rs := [2, 4]) (by kernel_rfl) (by simp) ?_
    refine AllReadyL.cons rfl (fun K hK => ?_) (AllReadyL.cons rfl (fun K hK => ?_) AllReadyL.nil)
    · refine op_append_src (.const (.slice none 0 0)) (.tmp 4) _ rfl wc.heap.size 30 iP _ 3 32 Try.underlying23 hP hP0 hP1 hP2 rfl (by omega) (.slice none 0 0) 0 [] rfl (World.ownsRow_nil _ _ _ _) ap np cp (C.parts.flatMap partCells) rfl (HS0.out.chg (HC.out.drew) (fun _ _ h => h)) (parts_one _) (by unfold maxLen; omega) (by omega) (Nat.le_refl _) ?_
      intro v1 w1 O1x g1x
      rw [Nat.zero_add, List.nil_append] at O1x
      have C1x : Chg wc w1 (fun _ => False) := ((Chg.refl wc _).drew).grown g1x (fun j hj _ => by cases hj)
      obtain ⟨a1, c1, rfl, -⟩ := own_form O1x
      change K (Act.put _ (some 5) _) _
      simp only [Act.put, List.setIfInBounds_toArray, List.set_cons_zero, List.set_cons_succ]
      refine hK.out _ _ (.inl (C1x.cell b3 (fun h => h))) (fun hHeld => ?_)
      replace hHeld := SOr.stands hHeld (by kernel_rfl)
      clear hK K
      try simp only [Act.put, List.setIfInBounds_toArray, List.set_cons_zero, List.set_cons_succ]
      refine wpAnyL_ready (rs := [4]) (by kernel_rfl) (by simp) ?_
      refine AllReadyL.cons rfl (fun K hK => ?_) AllReadyL.nil
      go_simp
      have C2x : Chg w1 (w1.alloc (.cells #[.string ⟨#[]⟩, .int .i64 (-71), .int .i64 0] 30)) (fun _ => False) := (Chg.refl w1 _).alloc _
      have SB := (Box.new w1 30 #[.string ⟨#[]⟩, .int .i64 (-71), .int .i64 0]).src 1 1 3 [.string ⟨#[]⟩, .int .i64 (-71), .int .i64 0] rfl rfl
      have OX := own_alloc O1x (.cells #[.string ⟨#[]⟩, .int .i64 (-71), .int .i64 0] 30)
      refine hK.out _ _ (.inl ((C1x.trans C2x).cell b3 (fun h => h))) (fun hHeld => ?_)
      replace hHeld := SOr.stands hHeld (by kernel_rfl)
      clear hK K
      try simp only [Act.put, List.setIfInBounds_toArray, List.set_cons_zero, List.set_cons_succ]
      refine wpAnyL_ready (rs := [5]) (by kernel_rfl) (by simp) ?_
      refine AllReadyL.cons rfl (fun K hK => ?_) AllReadyL.nil
      refine op_append_src (.tmp 5) (.tmp 7) _ rfl wc.heap.size 30 iP _ 3 32 Try.underlying23 hP hP0 hP1 hP2 rfl (by omega) _ np (C.parts.flatMap partCells) rfl OX (some ⟨w1.heap.size, 0, none⟩) 1 1 [.string ⟨#[]⟩, .int .i64 (-71), .int .i64 0] rfl SB (by intro u hu; simp only [List.mem_cons, List.not_mem_nil, or_false] at hu; rcases hu with rfl | rfl | rfl <;> rfl) (by unfold maxLen; omega) (by omega) (by have := C1x.size; have := C2x.size; omega) ?_
      intro v2 wz O2 g2x
      have CX : Chg wc wz (fun _ => False) := (C1x.trans C2x).grown g2x (fun j hj h => by have := (OX.lt j hj).1; omega)
      obtain ⟨g0, d0, rfl, hg0, hg1, hgc, hgm⟩ := own_block O2 (by omega)
      change K (Act.put _ (some 8) _) _
      simp only [Act.put, List.setIfInBounds_toArray, List.set_cons_zero, List.set_cons_succ]
      refine hK.out _ _ (.inl (CX.cell b3 (fun h => h))) (fun hHeld => ?_)
      replace hHeld := SOr.stands hHeld (by kernel_rfl)
      clear hK K
      try simp only [Act.put, List.setIfInBounds_toArray, List.set_cons_zero, List.set_cons_succ]
      refine wpAnyL_tail (l := [10, 11]) (by kernel_rfl) (by kernel_rfl) ?_
      simp only [tailOps, List.filterMap_cons, List.filterMap_nil, List.getElem?_toArray, List.getElem?_cons_succ, List.getElem?_cons_zero]
      clear hHeld b3
      have D3 := HC.out.trans CX
      have B3 := HB.out.chg CX (fun h => h)
      have Z3 := HZ.out.chg CX (fun h => h)
      have hgn : (np : Int) ≤ (d0 : Int) := by omega
      have hgn2 : np ≤ d0 := by omega
      have f3 := B3.frozen 3
      have x3 := B3.cell 3
      have hb3 := B3.lt
      have HB3 := Lib.hid B3
      have HO := Lib.hid (own_base O2 HC.out.size)
      have HD := Lib.hid D3
      have HZ3 := Lib.hid Z3
      have HCX := Lib.hid CX
      have hgq := own_ne O2 B3 (by decide) g0 rfl
      have HGQ := Lib.hid hgq
      clear B3 Z3 D3 O2 CX hgq
      go_wp2_with fail
      refine NoPanic.normal ?_
      go_wp2_with fail
      go_meet
      have CS : Chg wz (wz.setCell ⟨w.heap.size, 3, none⟩ (.slice (some ⟨g0, 0, none⟩) np d0)) (fun j => j = w.heap.size) := (Chg.refl wz (fun j => j = w.heap.size)).setCell (p := ⟨w.heap.size, 3, none⟩) (fun _ => rfl) _
      refine ⟨g0, d0, HB3.out.set 3 _, HZ3.out.chg CS (fun h => by omega), HD.out.trans' CS (fun j hj h => by omega), own_chg HO.out CS (fun j hj h => HGQ.out (by injection hj with hj; exact hj.trans h))⟩
    · go_simp
      have C1x : Chg wc (wc.alloc (.cells #[.string ⟨#[]⟩, .int .i64 (-71), .int .i64 0] 30)).drew (fun _ => False) := ((Chg.refl wc _).alloc _).drew
      have SB := ((Box.new wc 30 #[.string ⟨#[]⟩, .int .i64 (-71), .int .i64 0]).src 1 1 3 [.string ⟨#[]⟩, .int .i64 (-71), .int .i64 0] rfl rfl).drew
      refine hK.out _ _ (.inl (C1x.cell b3 (fun h => h))) (fun hHeld => ?_)
      replace hHeld := SOr.stands hHeld (by kernel_rfl)
      clear hK K
      try simp only [Act.put, List.setIfInBounds_toArray, List.set_cons_zero, List.set_cons_succ]
      refine wpAnyL_ready (rs := [2]) (by kernel_rfl) (by simp) ?_
      refine AllReadyL.cons rfl (fun K hK => ?_) AllReadyL.nil
      refine op_append_src (.const (.slice none 0 0)) (.tmp 4) _ rfl wc.heap.size 30 iP _ 3 32 Try.underlying23 hP hP0 hP1 hP2 rfl (by omega) (.slice none 0 0) 0 [] rfl (World.ownsRow_nil _ _ _ _) ap np cp (C.parts.flatMap partCells) rfl (HS0.out.chg (HC.out.trans C1x) (fun _ _ h => h)) (parts_one _) (by unfold maxLen; omega) (by omega) (C1x.size) ?_
      intro v1 w1 O1x g1x
      rw [Nat.zero_add, List.nil_append] at O1x
      have C2x : Chg (wc.alloc (.cells #[.string ⟨#[]⟩, .int .i64 (-71), .int .i64 0] 30)).drew w1 (fun _ => False) := (Chg.refl _ _).grown g1x (fun j hj _ => by cases hj)
      obtain ⟨a1, c1, rfl, -⟩ := own_form O1x
      change K (Act.put _ (some 5) _) _
      simp only [Act.put, List.setIfInBounds_toArray, List.set_cons_zero, List.set_cons_succ]
      refine hK.out _ _ (.inl (C2x.cell (C1x.cell b3 (fun h => h)) (fun h => h))) (fun hHeld => ?_)
      replace hHeld := SOr.stands hHeld (by kernel_rfl)
      clear hK K
      try simp only [Act.put, List.setIfInBounds_toArray, List.set_cons_zero, List.set_cons_succ]
      refine wpAnyL_ready (rs := [5]) (by kernel_rfl) (by simp) ?_
      refine AllReadyL.cons rfl (fun K hK => ?_) AllReadyL.nil
      refine op_append_src (.tmp 5) (.tmp 7) _ rfl wc.heap.size 30 iP _ 3 32 Try.underlying23 hP hP0 hP1 hP2 rfl (by omega) _ np (C.parts.flatMap partCells) rfl O1x (some ⟨wc.heap.size, 0, none⟩) 1 1 [.string ⟨#[]⟩, .int .i64 (-71), .int .i64 0] rfl (SB.chg C2x (fun _ _ h => h)) (by intro u hu; simp only [List.mem_cons, List.not_mem_nil, or_false] at hu; rcases hu with rfl | rfl | rfl <;> rfl) (by unfold maxLen; omega) (by omega) (by have := C1x.size; have := C2x.size; omega) ?_
      intro v2 wz O2 g2x
      have CX : Chg wc wz (fun _ => False) := (C1x.trans C2x).grown g2x (fun j hj h => by have := (O1x.lt j hj).1; omega)
      obtain ⟨g0, d0, rfl, hg0, hg1, hgc, hgm⟩ := own_block O2 (by omega)
      change K (Act.put _ (some 8) _) _
      simp only [Act.put, List.setIfInBounds_toArray, List.set_cons_zero, List.set_cons_succ]
      refine hK.out _ _ (.inl (CX.cell b3 (fun h => h))) (fun hHeld => ?_)
      replace hHeld := SOr.stands hHeld (by kernel_rfl)
      clear hK K
      try simp only [Act.put, List.setIfInBounds_toArray, List.set_cons_zero, List.set_cons_succ]
      refine wpAnyL_tail (l := [10, 11]) (by kernel_rfl) (by kernel_rfl) ?_
      simp only [tailOps, List.filterMap_cons, List.filterMap_nil, List.getElem?_toArray, List.getElem?_cons_succ, List.getElem?_cons_zero]
      clear hHeld b3
      have D3 := HC.out.trans CX
      have B3 := HB.out.chg CX (fun h => h)
      have Z3 := HZ.out.chg CX (fun h => h)
      have hgn : (np : Int) ≤ (d0 : Int) := by omega
      have hgn2 : np ≤ d0 := by omega
      have f3 := B3.frozen 3
      have x3 := B3.cell 3
      have hb3 := B3.lt
      have HB3 := Lib.hid B3
      have HO := Lib.hid (own_base O2 HC.out.size)
      have HD := Lib.hid D3
      have HZ3 := Lib.hid Z3
      have HCX := Lib.hid CX
      have hgq := own_ne O2 B3 (by decide) g0 rfl
      have HGQ := Lib.hid hgq
      clear B3 Z3 D3 O2 CX hgq
      go_wp2_with fail
      refine NoPanic.normal ?_
      go_wp2_with fail
      go_meet
      have CS : Chg wz (wz.setCell ⟨w.heap.size, 3, none⟩ (.slice (some ⟨g0, 0, none⟩) np d0)) (fun j => j = w.heap.size) := (Chg.refl wz (fun j => j = w.heap.size)).setCell (p := ⟨w.heap.size, 3, none⟩) (fun _ => rfl) _
      refine ⟨g0, d0, HB3.out.set 3 _, HZ3.out.chg CS (fun h => by omega), HD.out.trans' CS (fun j hj h => by omega), own_chg HO.out CS (fun j hj h => HGQ.out (by injection hj with hj; exact hj.trans h))⟩
  case rest =>
    obtain ⟨g0, d0, B0, Z0, C0, O0⟩ := hcut
    go_upto_region 2 with fail
    go_cut [] (fun wx => ∃ g0 d0, ∃ g1 d1, Box wx w.heap.size 27 #[.int .i64 pg, .int .i64 mj, .int .i64 sw, .slice (some ⟨g0, 0, none⟩) np d0, .slice (some ⟨g1, 0, none⟩) nc d1, .slice aw nw cw] ∧ Box wx (w.heap.size + 1) 27 #[.int .i64 0, .int .i64 0, .int .i64 0, .slice none 0 0, .slice none 0 0, .slice none 0 0] ∧ Chg w wx (fun _ => False) ∧ wx.ownsRow w.heap.size 30 3 (.slice (some ⟨g0, 0, none⟩) (np + 1) d0) (np + 1) ((C.parts.flatMap partCells) ++ [.string ⟨#[]⟩, .int .i64 (-71), .int .i64 0]) ∧ wx.ownsRow w.heap.size 32 5 (.slice (some ⟨g1, 0, none⟩) (nc + 1) d1) (nc + 1) ((C.chans.flatMap chanCells) ++ [.int .i64 (-71), .int .i64 0, .int .i64 0, .int .i64 0, .int .i64 0]))
    case first =>
      have HB := Lib.hid B0
      have HZ := Lib.hid Z0
      have HC := Lib.hid C0
      have HO0 := Lib.hid O0
      have b3 := B0.cell 4
      have hq := B0.lt
      clear B0 Z0 C0 O0
      refine wp_region_noPanic ?_
      refine wp_region_L 9 (fun w' => w'.cell? ⟨w.heap.size, 4, none⟩ = some (.slice ac nc cc)) (by kernel_rfl) (b3) (fun hHeld => ?_)
      refine wpAnyL_take (i := 0) (oi := ?oib0) (v := ?vb0) ?hib0 (by kernel_rfl) (by kernel_rfl) (by kernel_rfl) (by kernel_rfl) (fun _ _ _ h => h) (Or.inl ⟨?hwb0, ?hyb0⟩) (by assumption) ?hrb0
      case hib0 => simp only [List.getElem?_toArray, List.getElem?_cons_succ, List.getElem?_cons_zero]; rfl
      case hwb0 => rfl
      case hyb0 => intro wq hSq; (try dsimp only at hSq); go_simp; (try with_reducible rfl)
      try simp only [Act.put, List.setIfInBounds_toArray, List.set_cons_zero, List.set_cons_succ]
      refine wpAnyL_take (i := 1) (oi := ?oib1) (v := ?vb1) ?hib1 (by kernel_rfl) (by kernel_rfl) (by kernel_rfl) (by kernel_rfl) (fun _ _ _ h => h) (Or.inl ⟨?hwb1, ?hyb1⟩) (by assumption) ?hrb1
      case hib1 => simp only [List.getElem?_toArray, List.getElem?_cons_succ, List.getElem?_cons_zero]; rfl
      case hwb1 => rfl
      case hyb1 => intro wq hSq; (try dsimp only at hSq); go_simp; (try with_reducible rfl)
      try simp only [Act.put, List.setIfInBounds_toArray, List.set_cons_zero, List.set_cons_succ]
      refine wpAnyL_take (i := 3) (oi := ?oib3) (v := ?vb3) ?hib3 (by kernel_rfl) (by kernel_rfl) (by kernel_rfl) (by kernel_rfl) (fun _ _ _ h => h) (Or.inl ⟨?hwb3, ?hyb3⟩) (by assumption) ?hrb3
      case hib3 => simp only [List.getElem?_toArray, List.getElem?_cons_succ, List.getElem?_cons_zero]; rfl
      case hwb3 => rfl
      case hyb3 => intro wq hSq; (try dsimp only at hSq); go_simp; (try with_reducible rfl)
      try simp only [Act.put, List.setIfInBounds_toArray, List.set_cons_zero, List.set_cons_succ]
      refine wpAnyL_take (i := 6) (oi := ?oib6) (v := ?vb6) ?hib6 (by kernel_rfl) (by kernel_rfl) (by kernel_rfl) (by kernel_rfl) (fun _ _ _ h => h) (Or.inl ⟨?hwb6, ?hyb6⟩) (by assumption) ?hrb6
      case hib6 => simp only [List.getElem?_toArray, List.getElem?_cons_succ, List.getElem?_cons_zero]; rfl
      case hwb6 => rfl
      case hyb6 => intro wq hSq; (try dsimp only at hSq); go_simp; (try with_reducible rfl)
      try simp only [Act.put, List.setIfInBounds_toArray, List.set_cons_zero, List.set_cons_succ]
      refine wpAnyL_take (i := 7) (oi := ?oib7) (v := ?vb7) ?hib7 (by kernel_rfl) (by kernel_rfl) (by kernel_rfl) (by kernel_rfl) (fun _ _ _ h => h) (Or.inl ⟨?hwb7, ?hyb7⟩) (by assumption) ?hrb7
      case hib7 => simp only [List.getElem?_toArray, List.getElem?_cons_succ, List.getElem?_cons_zero]; rfl
      case hwb7 => rfl
      case hyb7 => intro wq hSq; (try dsimp only at hSq); go_simp; (try with_reducible rfl)
      try simp only [Act.put, List.setIfInBounds_toArray, List.set_cons_zero, List.set_cons_succ]
      refine wpAnyL_take (i := 8) (oi := ?oib8) (v := ?vb8) ?hib8 (by kernel_rfl) (by kernel_rfl) (by kernel_rfl) (by kernel_rfl) (fun _ _ _ h => h) (Or.inl ⟨?hwb8, ?hyb8⟩) (by assumption) ?hrb8
      case hib8 => simp only [List.getElem?_toArray, List.getElem?_cons_succ, List.getElem?_cons_zero]; rfl
      case hwb8 => rfl
      case hyb8 => intro wq hSq; (try dsimp only at hSq); go_simp; (try with_reducible rfl)
      try simp only [Act.put, List.setIfInBounds_toArray, List.set_cons_zero, List.set_cons_succ]
      refine wpAnyL_ready (rs := [2, 4]) (by kernel_rfl) (by simp) ?_
      refine AllReadyL.cons rfl (fun K hK => ?_) (AllReadyL.cons rfl (fun K hK => ?_) AllReadyL.nil)
      · refine op_append_src (.const (.slice none 0 0)) (.tmp 15) _ rfl wc.heap.size 32 iC _ 5 40 Try.underlying24 hC hC0 hC1 hC2 rfl (by omega) (.slice none 0 0) 0 [] rfl (World.ownsRow_nil _ _ _ _) ac nc cc (C.chans.flatMap chanCells) rfl (HS1.out.chg (HC.out.drew) (fun _ _ h => h)) (chans_one _) (by unfold maxLen; omega) (by omega) (Nat.le_refl _) ?_
        intro v1 w1 O1x g1x
        rw [Nat.zero_add, List.nil_append] at O1x
        have C1x : Chg wc w1 (fun _ => False) := ((Chg.refl wc _).drew).grown g1x (fun j hj _ => by cases hj)
        obtain ⟨a1, c1, rfl, -⟩ := own_form O1x
        change K (Act.put _ (some 16) _) _
        simp only [Act.put, List.setIfInBounds_toArray, List.set_cons_zero, List.set_cons_succ]
        refine hK.out _ _ (.inl (C1x.cell b3 (fun h => h))) (fun hHeld => ?_)
        replace hHeld := SOr.stands hHeld (by kernel_rfl)
        clear hK K
        try simp only [Act.put, List.setIfInBounds_toArray, List.set_cons_zero, List.set_cons_succ]
        refine wpAnyL_ready (rs := [4]) (by kernel_rfl) (by simp) ?_
        refine AllReadyL.cons rfl (fun K hK => ?_) AllReadyL.nil
        go_simp
        have C2x : Chg w1 (w1.alloc (.cells #[.int .i64 (-71), .int .i64 0, .int .i64 0, .int .i64 0, .int .i64 0] 32)) (fun _ => False) := (Chg.refl w1 _).alloc _
        have SB := (Box.new w1 32 #[.int .i64 (-71), .int .i64 0, .int .i64 0, .int .i64 0, .int .i64 0]).src 1 1 5 [.int .i64 (-71), .int .i64 0, .int .i64 0, .int .i64 0, .int .i64 0] rfl rfl
        have OX := own_alloc O1x (.cells #[.int .i64 (-71), .int .i64 0, .int .i64 0, .int .i64 0, .int .i64 0] 32)
        refine hK.out _ _ (.inl ((C1x.trans C2x).cell b3 (fun h => h))) (fun hHeld => ?_)
        replace hHeld := SOr.stands hHeld (by kernel_rfl)
        clear hK K
        try simp only [Act.put, List.setIfInBounds_toArray, List.set_cons_zero, List.set_cons_succ]
        refine wpAnyL_ready (rs := [5]) (by kernel_rfl) (by simp) ?_
        refine AllReadyL.cons rfl (fun K hK => ?_) AllReadyL.nil
        refine op_append_src (.tmp 16) (.tmp 18) _ rfl wc.heap.size 32 iC _ 5 40 Try.underlying24 hC hC0 hC1 hC2 rfl (by omega) _ nc (C.chans.flatMap chanCells) rfl OX (some ⟨w1.heap.size, 0, none⟩) 1 1 [.int .i64 (-71), .int .i64 0, .int .i64 0, .int .i64 0, .int .i64 0] rfl SB (by intro u hu; simp only [List.mem_cons, List.not_mem_nil, or_false] at hu; rcases hu with rfl | rfl | rfl | rfl | rfl <;> rfl) (by unfold maxLen; omega) (by omega) (by have := C1x.size; have := C2x.size; omega) ?_
        intro v2 wz O2 g2x
        have CX : Chg wc wz (fun _ => False) := (C1x.trans C2x).grown g2x (fun j hj h => by have := (OX.lt j hj).1; omega)
        obtain ⟨g1, d1, rfl, hg0, hg1, hgc, hgm⟩ := own_block O2 (by omega)
        change K (Act.put _ (some 19) _) _
        simp only [Act.put, List.setIfInBounds_toArray, List.set_cons_zero, List.set_cons_succ]
        refine hK.out _ _ (.inl (CX.cell b3 (fun h => h))) (fun hHeld => ?_)
        replace hHeld := SOr.stands hHeld (by kernel_rfl)
        clear hK K
        try simp only [Act.put, List.setIfInBounds_toArray, List.set_cons_zero, List.set_cons_succ]
        refine wpAnyL_tail (l := [10, 11]) (by kernel_rfl) (by kernel_rfl) ?_
        simp only [tailOps, List.filterMap_cons, List.filterMap_nil, List.getElem?_toArray, List.getElem?_cons_succ, List.getElem?_cons_zero]
        clear hHeld b3
        have D3 := HC.out.trans CX
        have B3 := HB.out.chg CX (fun h => h)
        have Z3 := HZ.out.chg CX (fun h => h)
        have hgn : (nc : Int) ≤ (d1 : Int) := by omega
        have hgn2 : nc ≤ d1 := by omega
        have f3 := B3.frozen 4
        have x3 := B3.cell 4
        have hb3 := B3.lt
        have HB3 := Lib.hid B3
        have HO := Lib.hid (own_base O2 HC.out.size)
        have HD := Lib.hid D3
        have HZ3 := Lib.hid Z3
        have HCX := Lib.hid CX
        have hgq := own_ne O2 B3 (by decide) g1 rfl
        have HGQ := Lib.hid hgq
        clear B3 Z3 D3 O2 CX hgq
        go_wp2_with fail
        refine NoPanic.normal ?_
        go_wp2_with fail
        go_meet
        have CS : Chg wz (wz.setCell ⟨w.heap.size, 4, none⟩ (.slice (some ⟨g1, 0, none⟩) nc d1)) (fun j => j = w.heap.size) := (Chg.refl wz (fun j => j = w.heap.size)).setCell (p := ⟨w.heap.size, 4, none⟩) (fun _ => rfl) _
        refine ⟨g0, d0, g1, d1, HB3.out.set 4 _, HZ3.out.chg CS (fun h => by omega), HD.out.trans' CS (fun j hj h => by omega), own_chg (own_chg HO0.out HCX.out (fun _ _ h => h)) CS (own_ne (own_chg HO0.out HCX.out (fun _ _ h => h)) HB3.out (by decide)), own_chg HO.out CS (fun j hj h => HGQ.out (by injection hj with hj; exact hj.trans h))⟩
      · go_simp
        have C1x : Chg wc (wc.alloc (.cells #[.int .i64 (-71), .int .i64 0, .int .i64 0, .int .i64 0, .int .i64 0] 32)).drew (fun _ => False) := ((Chg.refl wc _).alloc _).drew
        have SB := ((Box.new wc 32 #[.int .i64 (-71), .int .i64 0, .int .i64 0, .int .i64 0, .int .i64 0]).src 1 1 5 [.int .i64 (-71), .int .i64 0, .int .i64 0, .int .i64 0, .int .i64 0] rfl rfl).drew
        refine hK.out _ _ (.inl (C1x.cell b3 (fun h => h))) (fun hHeld => ?_)
        replace hHeld := SOr.stands hHeld (by kernel_rfl)
        clear hK K
        try simp only [Act.put, List.setIfInBounds_toArray, List.set_cons_zero, List.set_cons_succ]
        refine wpAnyL_ready (rs := [2]) (by kernel_rfl) (by simp) ?_
        refine AllReadyL.cons rfl (fun K hK => ?_) AllReadyL.nil
        refine op_append_src (.const (.slice none 0 0)) (.tmp 15) _ rfl wc.heap.size 32 iC _ 5 40 Try.underlying24 hC hC0 hC1 hC2 rfl (by omega) (.slice none 0 0) 0 [] rfl (World.ownsRow_nil _ _ _ _) ac nc cc (C.chans.flatMap chanCells) rfl (HS1.out.chg (HC.out.trans C1x) (fun _ _ h => h)) (chans_one _) (by unfold maxLen; omega) (by omega) (C1x.size) ?_
        intro v1 w1 O1x g1x
        rw [Nat.zero_add, List.nil_append] at O1x
        have C2x : Chg (wc.alloc (.cells #[.int .i64 (-71), .int .i64 0, .int .i64 0, .int .i64 0, .int .i64 0] 32)).drew w1 (fun _ => False) := (Chg.refl _ _).grown g1x (fun j hj _ => by cases hj)
        obtain ⟨a1, c1, rfl, -⟩ := own_form O1x
        change K (Act.put _ (some 16) _) _
        simp only [Act.put, List.setIfInBounds_toArray, List.set_cons_zero, List.set_cons_succ]
        refine hK.out _ _ (.inl (C2x.cell (C1x.cell b3 (fun h => h)) (fun h => h))) (fun hHeld => ?_)
        replace hHeld := SOr.stands hHeld (by kernel_rfl)
        clear hK K
        try simp only [Act.put, List.setIfInBounds_toArray, List.set_cons_zero, List.set_cons_succ]
        refine wpAnyL_ready (rs := [5]) (by kernel_rfl) (by simp) ?_
        refine AllReadyL.cons rfl (fun K hK => ?_) AllReadyL.nil
        refine op_append_src (.tmp 16) (.tmp 18) _ rfl wc.heap.size 32 iC _ 5 40 Try.underlying24 hC hC0 hC1 hC2 rfl (by omega) _ nc (C.chans.flatMap chanCells) rfl O1x (some ⟨wc.heap.size, 0, none⟩) 1 1 [.int .i64 (-71), .int .i64 0, .int .i64 0, .int .i64 0, .int .i64 0] rfl (SB.chg C2x (fun _ _ h => h)) (by intro u hu; simp only [List.mem_cons, List.not_mem_nil, or_false] at hu; rcases hu with rfl | rfl | rfl | rfl | rfl <;> rfl) (by unfold maxLen; omega) (by omega) (by have := C1x.size; have := C2x.size; omega) ?_
        intro v2 wz O2 g2x
        have CX : Chg wc wz (fun _ => False) := (C1x.trans C2x).grown g2x (fun j hj h => by have := (O1x.lt j hj).1; omega)
        obtain ⟨g1, d1, rfl, hg0, hg1, hgc, hgm⟩ := own_block O2 (by omega)
        change K (Act.put _ (some 19) _) _
        simp only [Act.put, List.setIfInBounds_toArray, List.set_cons_zero, List.set_cons_succ]
        refine hK.out _ _ (.inl (CX.cell b3 (fun h => h))) (fun hHeld => ?_)
        replace hHeld := SOr.stands hHeld (by kernel_rfl)
        clear hK K
        try simp only [Act.put, List.setIfInBounds_toArray, List.set_cons_zero, List.set_cons_succ]
        refine wpAnyL_tail (l := [10, 11]) (by kernel_rfl) (by kernel_rfl) ?_
        simp only [tailOps, List.filterMap_cons, List.filterMap_nil, List.getElem?_toArray, List.getElem?_cons_succ, List.getElem?_cons_zero]
        clear hHeld b3
        have D3 := HC.out.trans CX
        have B3 := HB.out.chg CX (fun h => h)
        have Z3 := HZ.out.chg CX (fun h => h)
        have hgn : (nc : Int) ≤ (d1 : Int) := by omega
        have hgn2 : nc ≤ d1 := by omega
        have f3 := B3.frozen 4
        have x3 := B3.cell 4
        have hb3 := B3.lt
        have HB3 := Lib.hid B3
        have HO := Lib.hid (own_base O2 HC.out.size)
        have HD := Lib.hid D3
        have HZ3 := Lib.hid Z3
        have HCX := Lib.hid CX
        have hgq := own_ne O2 B3 (by decide) g1 rfl
        have HGQ := Lib.hid hgq
        clear B3 Z3 D3 O2 CX hgq
        go_wp2_with fail
        refine NoPanic.normal ?_
        go_wp2_with fail
        go_meet
        have CS : Chg wz (wz.setCell ⟨w.heap.size, 4, none⟩ (.slice (some ⟨g1, 0, none⟩) nc d1)) (fun j => j = w.heap.size) := (Chg.refl wz (fun j => j = w.heap.size)).setCell (p := ⟨w.heap.size, 4, none⟩) (fun _ => rfl) _
        refine ⟨g0, d0, g1, d1, HB3.out.set 4 _, HZ3.out.chg CS (fun h => by omega), HD.out.trans' CS (fun j hj h => by omega), own_chg (own_chg HO0.out HCX.out (fun _ _ h => h)) CS (own_ne (own_chg HO0.out HCX.out (fun _ _ h => h)) HB3.out (by decide)), own_chg HO.out CS (fun j hj h => HGQ.out (by injection hj with hj; exact hj.trans h))⟩
    case rest =>
      obtain ⟨g0, d0, g1, d1, B0, Z0, C0, O0, O1⟩ := hcut
      go_upto_region 3 with fail
      go_cut [] (fun wx => ∃ g0 d0, ∃ g1 d1, ∃ g2 d2, Box wx w.heap.size 27 #[.int .i64 pg, .int .i64 mj, .int .i64 sw, .slice (some ⟨g0, 0, none⟩) np d0, .slice (some ⟨g1, 0, none⟩) nc d1, .slice (some ⟨g2, 0, none⟩) nw d2] ∧ Box wx (w.heap.size + 1) 27 #[.int .i64 0, .int .i64 0, .int .i64 0, .slice none 0 0, .slice none 0 0, .slice none 0 0] ∧ Chg w wx (fun _ => False) ∧ wx.ownsRow w.heap.size 30 3 (.slice (some ⟨g0, 0, none⟩) (np + 1) d0) (np + 1) ((C.parts.flatMap partCells) ++ [.string ⟨#[]⟩, .int .i64 (-71), .int .i64 0]) ∧ wx.ownsRow w.heap.size 32 5 (.slice (some ⟨g1, 0, none⟩) (nc + 1) d1) (nc + 1) ((C.chans.flatMap chanCells) ++ [.int .i64 (-71), .int .i64 0, .int .i64 0, .int .i64 0, .int .i64 0]) ∧ wx.ownsRow w.heap.size 34 3 (.slice (some ⟨g2, 0, none⟩) (nw + 1) d2) (nw + 1) ((C.wins.flatMap winCells) ++ [.int .i64 (-71), .int .i64 0, .int .i64 0]))
      case first =>
        have HB := Lib.hid B0
        have HZ := Lib.hid Z0
        have HC := Lib.hid C0
        have HO0 := Lib.hid O0
        have HO1 := Lib.hid O1
        have b3 := B0.cell 5
        have hq := B0.lt
        clear B0 Z0 C0 O0 O1
        refine wp_region_noPanic ?_
        refine wp_region_L 9 (fun w' => w'.cell? ⟨w.heap.size, 5, none⟩ = some (.slice aw nw cw)) (by kernel_rfl) (b3) (fun hHeld => ?_)
        refine wpAnyL_take (i := 0) (oi := ?oic0) (v := ?vc0) ?hic0 (by kernel_rfl) (by kernel_rfl) (by kernel_rfl) (by kernel_rfl) (fun _ _ _ h => h) (Or.inl ⟨?hwc0, ?hyc0⟩) (by assumption) ?hrc0
        case hic0 => simp only [List.getElem?_toArray, List.getElem?_cons_succ, List.getElem?_cons_zero]; rfl
        case hwc0 => rfl
        case hyc0 => intro wq hSq; (try dsimp only at hSq); go_simp; (try with_reducible rfl)
        try simp only [Act.put, List.setIfInBounds_toArray, List.set_cons_zero, List.set_cons_succ]
        refine wpAnyL_take (i := 1) (oi := ?oic1) (v := ?vc1) ?hic1 (by kernel_rfl) (by kernel_rfl) (by kernel_rfl) (by kernel_rfl) (fun _ _ _ h => h) (Or.inl ⟨?hwc1, ?hyc1⟩) (by assumption) ?hrc1
        case hic1 => simp only [List.getElem?_toArray, List.getElem?_cons_succ, List.getElem?_cons_zero]; rfl
        case hwc1 => rfl
        case hyc1 => intro wq hSq; (try dsimp only at hSq); go_simp; (try with_reducible rfl)
        try simp only [Act.put, List.setIfInBounds_toArray, List.set_cons_zero, List.set_cons_succ]
        refine wpAnyL_take (i := 3) (oi := ?oic3) (v := ?vc3) ?hic3 (by kernel_rfl) (by kernel_rfl) (by kernel_rfl) (by kernel_rfl) (fun _ _ _ h => h) (Or.inl ⟨?hwc3, ?hyc3⟩) (by assumption) ?hrc3
        case hic3 => simp only [List.getElem?_toArray, List.getElem?_cons_succ, List.getElem?_cons_zero]; rfl
        case hwc3 => rfl
        case hyc3 => intro wq hSq; (try dsimp only at hSq); go_simp; (try with_reducible rfl)
        try simp only [Act.put, List.setIfInBounds_toArray, List.set_cons_zero, List.set_cons_succ]
        refine wpAnyL_take (i := 6) (oi := ?oic6) (v := ?vc6) ?hic6 (by kernel_rfl) (by kernel_rfl) (by kernel_rfl) (by kernel_rfl) (fun _ _ _ h => h) (Or.inl ⟨?hwc6, ?hyc6⟩) (by assumption) ?hrc6
        case hic6 => simp only [List.getElem?_toArray, List.getElem?_cons_succ, List.getElem?_cons_zero]; rfl
        case hwc6 => rfl
        case hyc6 => intro wq hSq; (try dsimp only at hSq); go_simp; (try with_reducible rfl)
        try simp only [Act.put, List.setIfInBounds_toArray, List.set_cons_zero, List.set_cons_succ]
        refine wpAnyL_take (i := 7) (oi := ?oic7) (v := ?vc7) ?hic7 (by kernel_rfl) (by kernel_rfl) (by kernel_rfl) (by kernel_rfl) (fun _ _ _ h => h) (Or.inl ⟨?hwc7, ?hyc7⟩) (by assumption) ?hrc7
        case hic7 => simp only [List.getElem?_toArray, List.getElem?_cons_succ, List.getElem?_cons_zero]; rfl
        case hwc7 => rfl
        case hyc7 => intro wq hSq; (try dsimp only at hSq); go_simp; (try with_reducible rfl)
        try simp only [Act.put, List.setIfInBounds_toArray, List.set_cons_zero, List.set_cons_succ]
        refine wpAnyL_take (i := 8) (oi := ?oic8) (v := ?vc8) ?hic8 (by kernel_rfl) (by kernel_rfl) (by kernel_rfl) (by kernel_rfl) (fun _ _ _ h => h) (Or.inl ⟨?hwc8, ?hyc8⟩) (by assumption) ?hrc8
        case hic8 => simp only [List.getElem?_toArray, List.getElem?_cons_succ, List.getElem?_cons_zero]; rfl
        case hwc8 => rfl
        case hyc8 => intro wq hSq; (try dsimp only at hSq); go_simp; (try with_reducible rfl)
        try simp only [Act.put, List.setIfInBounds_toArray, List.set_cons_zero, List.set_cons_succ]
        refine wpAnyL_ready (rs := [2, 4]) (by kernel_rfl) (by simp) ?_
        refine AllReadyL.cons rfl (fun K hK => ?_) (AllReadyL.cons rfl (fun K hK => ?_) AllReadyL.nil)
        · refine op_append_src (.const (.slice none 0 0)) (.tmp 26) _ rfl wc.heap.size 34 iW _ 3 24 Try.underlying25 hW hW0 hW1 hW2 rfl (by omega) (.slice none 0 0) 0 [] rfl (World.ownsRow_nil _ _ _ _) aw nw cw (C.wins.flatMap winCells) rfl (HS2.out.chg (HC.out.drew) (fun _ _ h => h)) (wins_one _) (by unfold maxLen; omega) (by omega) (Nat.le_refl _) ?_
          intro v1 w1 O1x g1x
          rw [Nat.zero_add, List.nil_append] at O1x
          have C1x : Chg wc w1 (fun _ => False) := ((Chg.refl wc _).drew).grown g1x (fun j hj _ => by cases hj)
          obtain ⟨a1, c1, rfl, -⟩ := own_form O1x
          change K (Act.put _ (some 27) _) _
          simp only [Act.put, List.setIfInBounds_toArray, List.set_cons_zero, List.set_cons_succ]
          refine hK.out _ _ (.inl (C1x.cell b3 (fun h => h))) (fun hHeld => ?_)
          replace hHeld := SOr.stands hHeld (by kernel_rfl)
          clear hK K
          try simp only [Act.put, List.setIfInBounds_toArray, List.set_cons_zero, List.set_cons_succ]
          refine wpAnyL_ready (rs := [4]) (by kernel_rfl) (by simp) ?_
          refine AllReadyL.cons rfl (fun K hK => ?_) AllReadyL.nil
          go_simp
          have C2x : Chg w1 (w1.alloc (.cells #[.int .i64 (-71), .int .i64 0, .int .i64 0] 34)) (fun _ => False) := (Chg.refl w1 _).alloc _
          have SB := (Box.new w1 34 #[.int .i64 (-71), .int .i64 0, .int .i64 0]).src 1 1 3 [.int .i64 (-71), .int .i64 0, .int .i64 0] rfl rfl
          have OX := own_alloc O1x (.cells #[.int .i64 (-71), .int .i64 0, .int .i64 0] 34)
          refine hK.out _ _ (.inl ((C1x.trans C2x).cell b3 (fun h => h))) (fun hHeld => ?_)
          replace hHeld := SOr.stands hHeld (by kernel_rfl)
          clear hK K
          try simp only [Act.put, List.setIfInBounds_toArray, List.set_cons_zero, List.set_cons_succ]
          refine wpAnyL_ready (rs := [5]) (by kernel_rfl) (by simp) ?_
          refine AllReadyL.cons rfl (fun K hK => ?_) AllReadyL.nil
          refine op_append_src (.tmp 27) (.tmp 29) _ rfl wc.heap.size 34 iW _ 3 24 Try.underlying25 hW hW0 hW1 hW2 rfl (by omega) _ nw (C.wins.flatMap winCells) rfl OX (some ⟨w1.heap.size, 0, none⟩) 1 1 [.int .i64 (-71), .int .i64 0, .int .i64 0] rfl SB (by intro u hu; simp only [List.mem_cons, List.not_mem_nil, or_false] at hu; rcases hu with rfl | rfl | rfl <;> rfl) (by unfold maxLen; omega) (by omega) (by have := C1x.size; have := C2x.size; omega) ?_
          intro v2 wz O2 g2x
          have CX : Chg wc wz (fun _ => False) := (C1x.trans C2x).grown g2x (fun j hj h => by have := (OX.lt j hj).1; omega)
          obtain ⟨g2, d2, rfl, hg0, hg1, hgc, hgm⟩ := own_block O2 (by omega)
          change K (Act.put _ (some 30) _) _
          simp only [Act.put, List.setIfInBounds_toArray, List.set_cons_zero, List.set_cons_succ]
          refine hK.out _ _ (.inl (CX.cell b3 (fun h => h))) (fun hHeld => ?_)
          replace hHeld := SOr.stands hHeld (by kernel_rfl)
          clear hK K
          try simp only [Act.put, List.setIfInBounds_toArray, List.set_cons_zero, List.set_cons_succ]
          refine wpAnyL_tail (l := [10, 11]) (by kernel_rfl) (by kernel_rfl) ?_
          simp only [tailOps, List.filterMap_cons, List.filterMap_nil, List.getElem?_toArray, List.getElem?_cons_succ, List.getElem?_cons_zero]
          clear hHeld b3
          have D3 := HC.out.trans CX
          have B3 := HB.out.chg CX (fun h => h)
          have Z3 := HZ.out.chg CX (fun h => h)
          have hgn : (nw : Int) ≤ (d2 : Int) := by omega
          have hgn2 : nw ≤ d2 := by omega
          have f3 := B3.frozen 5
          have x3 := B3.cell 5
          have hb3 := B3.lt
          have HB3 := Lib.hid B3
          have HO := Lib.hid (own_base O2 HC.out.size)
          have HD := Lib.hid D3
          have HZ3 := Lib.hid Z3
          have HCX := Lib.hid CX
          have hgq := own_ne O2 B3 (by decide) g2 rfl
          have HGQ := Lib.hid hgq
          clear B3 Z3 D3 O2 CX hgq
          go_wp2_with fail
          refine NoPanic.normal ?_
          go_wp2_with fail
          go_meet
          have CS : Chg wz (wz.setCell ⟨w.heap.size, 5, none⟩ (.slice (some ⟨g2, 0, none⟩) nw d2)) (fun j => j = w.heap.size) := (Chg.refl wz (fun j => j = w.heap.size)).setCell (p := ⟨w.heap.size, 5, none⟩) (fun _ => rfl) _
          refine ⟨g0, d0, g1, d1, g2, d2, HB3.out.set 5 _, HZ3.out.chg CS (fun h => by omega), HD.out.trans' CS (fun j hj h => by omega), own_chg (own_chg HO0.out HCX.out (fun _ _ h => h)) CS (own_ne (own_chg HO0.out HCX.out (fun _ _ h => h)) HB3.out (by decide)), own_chg (own_chg HO1.out HCX.out (fun _ _ h => h)) CS (own_ne (own_chg HO1.out HCX.out (fun _ _ h => h)) HB3.out (by decide)), own_chg HO.out CS (fun j hj h => HGQ.out (by injection hj with hj; exact hj.trans h))⟩
        · go_simp
          have C1x : Chg wc (wc.alloc (.cells #[.int .i64 (-71), .int .i64 0, .int .i64 0] 34)).drew (fun _ => False) := ((Chg.refl wc _).alloc _).drew
          have SB := ((Box.new wc 34 #[.int .i64 (-71), .int .i64 0, .int .i64 0]).src 1 1 3 [.int .i64 (-71), .int .i64 0, .int .i64 0] rfl rfl).drew
          refine hK.out _ _ (.inl (C1x.cell b3 (fun h => h))) (fun hHeld => ?_)
          replace hHeld := SOr.stands hHeld (by kernel_rfl)
          clear hK K
          try simp only [Act.put, List.setIfInBounds_toArray, List.set_cons_zero, List.set_cons_succ]
          refine wpAnyL_ready (rs := [2]) (by kernel_rfl) (by simp) ?_
          refine AllReadyL.cons rfl (fun K hK => ?_) AllReadyL.nil
          refine op_append_src (.const (.slice none 0 0)) (.tmp 26) _ rfl wc.heap.size 34 iW _ 3 24 Try.underlying25 hW hW0 hW1 hW2 rfl (by omega) (.slice none 0 0) 0 [] rfl (World.ownsRow_nil _ _ _ _) aw nw cw (C.wins.flatMap winCells) rfl (HS2.out.chg (HC.out.trans C1x) (fun _ _ h => h)) (wins_one _) (by unfold maxLen; omega) (by omega) (C1x.size) ?_
          intro v1 w1 O1x g1x
          rw [Nat.zero_add, List.nil_append] at O1x
          have C2x : Chg (wc.alloc (.cells #[.int .i64 (-71), .int .i64 0, .int .i64 0] 34)).drew w1 (fun _ => False) := (Chg.refl _ _).grown g1x (fun j hj _ => by cases hj)
          obtain ⟨a1, c1, rfl, -⟩ := own_form O1x
          change K (Act.put _ (some 27) _) _
          simp only [Act.put, List.setIfInBounds_toArray, List.set_cons_zero, List.set_cons_succ]
          refine hK.out _ _ (.inl (C2x.cell (C1x.cell b3 (fun h => h)) (fun h => h))) (fun hHeld => ?_)
          replace hHeld := SOr.stands hHeld (by kernel_rfl)
          clear hK K
          try simp only [Act.put, List.setIfInBounds_toArray, List.set_cons_zero, List.set_cons_succ]
          refine wpAnyL_ready (rs := [5]) (by kernel_rfl) (by simp) ?_
          refine AllReadyL.cons rfl (fun K hK => ?_) AllReadyL.nil
          refine op_append_src (.tmp 27) (.tmp 29) _ rfl wc.heap.size 34 iW _ 3 24 Try.underlying25 hW hW0 hW1 hW2 rfl (by omega) _ nw (C.wins.flatMap winCells) rfl O1x (some ⟨wc.heap.size, 0, none⟩) 1 1 [.int .i64 (-71), .int .i64 0, .int .i64 0] rfl (SB.chg C2x (fun _ _ h => h)) (by intro u hu; simp only [List.mem_cons, List.not_mem_nil, or_false] at hu; rcases hu with rfl | rfl | rfl <;> rfl) (by unfold maxLen; omega) (by omega) (by have := C1x.size; have := C2x.size; omega) ?_
          intro v2 wz O2 g2x
          have CX : Chg wc wz (fun _ => False) := (C1x.trans C2x).grown g2x (fun j hj h => by have := (O1x.lt j hj).1; omega)
          obtain ⟨g2, d2, rfl, hg0, hg1, hgc, hgm⟩ := own_block O2 (by omega)
          change K (Act.put _ (some 30) _) _
          simp only [Act.put, List.setIfInBounds_toArray, List.set_cons_zero, List.set_cons_succ]
          refine hK.out _ _ (.inl (CX.cell b3 (fun h => h))) (fun hHeld => ?_)
          replace hHeld := SOr.stands hHeld (by kernel_rfl)
          clear hK K
          try simp only [Act.put, List.setIfInBounds_toArray, List.set_cons_zero, List.set_cons_succ]
          refine wpAnyL_tail (l := [10, 11]) (by kernel_rfl) (by kernel_rfl) ?_
          simp only [tailOps, List.filterMap_cons, List.filterMap_nil, List.getElem?_toArray, List.getElem?_cons_succ, List.getElem?_cons_zero]
          clear hHeld b3
          have D3 := HC.out.trans CX
          have B3 := HB.out.chg CX (fun h => h)
          have Z3 := HZ.out.chg CX (fun h => h)
          have hgn : (nw : Int) ≤ (d2 : Int) := by omega
          have hgn2 : nw ≤ d2 := by omega
          have f3 := B3.frozen 5
          have x3 := B3.cell 5
          have hb3 := B3.lt
          have HB3 := Lib.hid B3
          have HO := Lib.hid (own_base O2 HC.out.size)
          have HD := Lib.hid D3
          have HZ3 := Lib.hid Z3
          have HCX := Lib.hid CX
          have hgq := own_ne O2 B3 (by decide) g2 rfl
          have HGQ := Lib.hid hgq
          clear B3 Z3 D3 O2 CX hgq
          go_wp2_with fail
          refine NoPanic.normal ?_
          go_wp2_with fail
          go_meet
          have CS : Chg wz (wz.setCell ⟨w.heap.size, 5, none⟩ (.slice (some ⟨g2, 0, none⟩) nw d2)) (fun j => j = w.heap.size) := (Chg.refl wz (fun j => j = w.heap.size)).setCell (p := ⟨w.heap.size, 5, none⟩) (fun _ => rfl) _
          refine ⟨g0, d0, g1, d1, g2, d2, HB3.out.set 5 _, HZ3.out.chg CS (fun h => by omega), HD.out.trans' CS (fun j hj h => by omega), own_chg (own_chg HO0.out HCX.out (fun _ _ h => h)) CS (own_ne (own_chg HO0.out HCX.out (fun _ _ h => h)) HB3.out (by decide)), own_chg (own_chg HO1.out HCX.out (fun _ _ h => h)) CS (own_ne (own_chg HO1.out HCX.out (fun _ _ h => h)) HB3.out (by decide)), own_chg HO.out CS (fun j hj h => HGQ.out (by injection hj with hj; exact hj.trans h))⟩
      case rest =>
        obtain ⟨g0, d0, g1, d1, g2, d2, B0, Z0, C0, O0, O1, O2⟩ := hcut
        have hr5 := Z0.lt
        have hm5 := B0.lt
        have hq0 := own_ne O0 Z0 (by decide)
        have hq1 := own_ne O1 Z0 (by decide)
        have hq2 := own_ne O2 Z0 (by decide)
        have x0 := B0.cell 0
        have x1 := B0.cell 1
        have x2 := B0.cell 2
        have x3 := B0.cell 3
        have x4 := B0.cell 4
        have x5 := B0.cell 5
        have r0 := Z0.cell 0
        have s0 := Z0.frozen 0
        have r1 := Z0.cell 1
        have s1 := Z0.frozen 1
        have r2 := Z0.cell 2
        have s2 := Z0.frozen 2
        have r3 := Z0.cell 3
        have s3 := Z0.frozen 3
        have r4 := Z0.cell 4
        have s4 := Z0.frozen 4
        have r5 := Z0.cell 5
        have s5 := Z0.frozen 5
        have HO0 := Lib.hid O0
        have HO1 := Lib.hid O1
        have HO2 := Lib.hid O2
        have HQ := Lib.hid (And.intro hq0 (And.intro hq1 hq2))
        have HC := Lib.hid C0
        clear O0 O1 O2 hq0 hq1 hq2 C0 B0 Z0
        go_wp2_with fail
        refine bodyPost_ret (v := .agg #[.int .i64 pg, .int .i64 mj, .int .i64 sw, .slice (some ⟨g0, 0, none⟩) np d0, .slice (some ⟨g1, 0, none⟩) nc d1, .slice (some ⟨g2, 0, none⟩) nw d2]) (by simp [results, Try.results35, go_sem, r0, r1, r2, r3, r4, r5]) rfl ?_
        have C6 : Chg wc ((((((wc.setCell ⟨w.heap.size + 1, 0, none⟩ (.int .i64 pg)).setCell ⟨w.heap.size + 1, 1, none⟩ (.int .i64 mj)).setCell ⟨w.heap.size + 1, 2, none⟩ (.int .i64 sw)).setCell ⟨w.heap.size + 1, 3, none⟩ (.slice (some ⟨g0, 0, none⟩) np d0)).setCell ⟨w.heap.size + 1, 4, none⟩ (.slice (some ⟨g1, 0, none⟩) nc d1)).setCell ⟨w.heap.size + 1, 5, none⟩ (.slice (some ⟨g2, 0, none⟩) nw d2)) (fun k => k = w.heap.size + 1) := (((((((Chg.refl wc (fun k => k = w.heap.size + 1)).setCell (p := ⟨w.heap.size + 1, 0, none⟩) (fun _ => rfl) _).setCell (p := ⟨w.heap.size + 1, 1, none⟩) (fun _ => rfl) _).setCell (p := ⟨w.heap.size + 1, 2, none⟩) (fun _ => rfl) _).setCell (p := ⟨w.heap.size + 1, 3, none⟩) (fun _ => rfl) _).setCell (p := ⟨w.heap.size + 1, 4, none⟩) (fun _ => rfl) _).setCell (p := ⟨w.heap.size + 1, 5, none⟩) (fun _ => rfl) _)
        exact ⟨g0, d0, g1, d1, g2, d2, rfl, HC.out.trans' C6 (fun k hk h => by omega), own_chg HO0.out C6 HQ.out.1, own_chg HO1.out C6 HQ.out.2.1, own_chg HO2.out C6 HQ.out.2.2⟩
end Go.Proofs.Ytdhkbephofnfdaa

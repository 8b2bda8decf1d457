/- health.New. -/
import Derived.Test.YtdhkbephofnfdaaHSee
import Derived.Test.YtdhkbephofnfdaaChkAt
import Derived.Test.YtdhkbephofnfdaaOwn
namespace Go.Proofs.Ytdhkbephofnfdaa
open Go.RowKit

def partsH (l : List PartD) : List PartH := l.map (fun p => ⟨p.action, false, 0⟩)
theorem partsH_len (l : List PartD) : (partsH l).length = l.length := by simp [partsH]
theorem parts_act {C : Cfg} (h : partsOk C = true) : ∀ q ∈ C.parts, 0 ≤ q.action ∧ q.action ≤ 1 := by
  intro q hq
  unfold partsOk at h
  rw [Bool.and_eq_true, List.all_eq_true] at h
  obtain ⟨k, hk, rfl⟩ := List.getElem_of_mem hq
  have := h.2 k (List.mem_range.2 hk)
  rw [partOk_at _ _ hk, Bool.and_eq_true, Bool.and_eq_true] at this
  exact wi_true this.1.2
def newS (C : Cfg) : HS := if chk C = 0 then ⟨partsH C.parts, []⟩ else ⟨[], []⟩
theorem newS_ok (C : Cfg) : HOk (newS C) 0 := by
  unfold newS
  split
  · rename_i h
    have h2 : partsOk C = true := by
      cases hp : partsOk C with
      | true => rfl
      | false =>
        unfold chk at h
        rw [hp] at h
        split at h
        · omega
        · simp at h
    refine ⟨by rw [partsH_len]; exact chk_bounds h2, fun p hp => ?_, fun p hp => ?_, by simp⟩
    · obtain ⟨q, hq, rfl⟩ := List.mem_map.1 hp
      exact parts_act h2 q hq
    · obtain ⟨q, hq, rfl⟩ := List.mem_map.1 hp
      exact ⟨Int.le_refl _, Int.le_refl _⟩
  · exact ⟨by simp, by simp, by simp, by simp⟩

set_option maxRecDepth 100000 in
set_option maxHeartbeats 1600000 in
theorem hnew_any {C : Cfg} {ap ac aw : Option Addr} {cp cc cw : Nat} (w : World) (h : CfgAt w C ap ac aw cp cc cw) :
    Calls Try.prog 29 #[.agg (cfgCells C ap ac aw cp cc cw)] w fun r w' => ∃ g, r = .returned (.pointer (some ⟨g, 0, none⟩)) ∧ MonAt w' (fun k => w.heap.size ≤ k) g (newS C) ∧ Chg w w' (fun _ => False) := by
  obtain ⟨i0, hi0, hz0, hz1, hz2⟩ := info_parts info_ph
  unfold cfgCells
  obtain ⟨b0, hb0⟩ : ∃ b, w.heap.size = b := ⟨_, rfl⟩
  obtain ⟨w1, hw1⟩ : ∃ W, (w.alloc (.cells #[.int .i64 C.pages, .int .i64 C.major, .int .i64 C.switch, .slice ap C.parts.length cp, .slice ac C.chans.length cc, .slice aw C.wins.length cw] 27)).alloc (.cells #[.slice none 0 0, .slice none 0 0, .int .i64 0] 91) = W := ⟨_, rfl⟩
  have C1 : Chg w w1 (fun _ => False) := by rw [← hw1]; exact ((Chg.refl w _).alloc _).alloc _
  have BC : Box w1 b0 27 #[.int .i64 C.pages, .int .i64 C.major, .int .i64 C.switch, .slice ap C.parts.length cp, .slice ac C.chans.length cc, .slice aw C.wins.length cw] := by rw [← hw1, ← hb0]; exact (Box.new w _ _).alloc _
  have BM : Box w1 (b0 + 1) 91 #[.slice none 0 0, .slice none 0 0, .int .i64 0] := by
    have := Box.new (w.alloc (.cells #[.int .i64 C.pages, .int .i64 C.major, .int .i64 C.switch, .slice ap C.parts.length cp, .slice ac C.chans.length cc, .slice aw C.wins.length cw] 27)) 91 #[.slice none 0 0, .slice none 0 0, .int .i64 0]
    rw [show (w.alloc (.cells #[.int .i64 C.pages, .int .i64 C.major, .int .i64 C.switch, .slice ap C.parts.length cp, .slice ac C.chans.length cc, .slice aw C.wins.length cw] 27)).heap.size = b0 + 1 from by rw [← hb0]; simp, hw1] at this
    exact this
  have H1 := h.keep C1
  have x0 := BC.cell 0
  have x1 := BC.cell 1
  have x2 := BC.cell 2
  have x3 := BC.cell 3
  have x4 := BC.cell 4
  have x5 := BC.cell 5
  have HBC := Lib.hid BC
  have HBM := Lib.hid BM
  have HHw := Lib.hid h
  clear BC BM h
  go_enter Try.func29, Try.ntmps29
  go_wp2_with fail
  clear hw1
  refine (check_any w1 H1).mono ?_
  rintro r w2 ⟨rfl, C2⟩
  have H2 := H1.keep C2
  have BM2 := HBM.out.chg C2 (fun h => h)
  have BC2 := HBC.out.chg C2 (fun h => h)
  have C12 := C1.trans C2
  clear x0 x1 x2 x3 x4 x5 H1
  by_cases hc : chk C = 0
  case neg =>
    have HN := Lib.hid (show newS C = ⟨[], []⟩ by unfold newS; rw [if_neg hc])
    obtain ⟨k, hk⟩ : ∃ k, chk C = k := ⟨_, rfl⟩
    rw [hk] at hc ⊢
    have dk : (k != 0) = true := bne_iff_ne.2 hc
    clear hc hk
    go_wp2_with fail
    go_ret
    refine ⟨b0 + 1, rfl, ?_, C12⟩
    rw [HN.out]
    exact ⟨none, none, 0, 0, 0, [], BM2, ⟨rfl, .inl ⟨rfl, rfl⟩⟩, ⟨rfl, .inl ⟨rfl, rfl⟩⟩, Ring.nil, by omega, fun b hb => (by cases hb), fun b hb => (by cases hb)⟩
  rw [hc]
  have HN := Lib.hid (show newS C = ⟨partsH C.parts, []⟩ by unfold newS; rw [if_pos hc])
  have hn8 : C.parts.length ≤ 8 := by have := (newS_ok C).n8; rw [HN.out] at this; simpa [partsH] using this
  have x3 := BC2.cell 3
  have HH2 := Lib.hid H2
  have HB2 := Lib.hid BM2
  have hb1 := BM2.lt
  have hlen : (partsH C.parts).length = C.parts.length := partsH_len _
  have HLEN := Lib.hid hlen
  clear hlen hc BM2 BC2 H2 HBM HBC
  go_wp2_with fail
  go_loopw [15] (fun i wx => ∃ j : Nat, j ≤ C.parts.length ∧ i = .int .i64 j ∧ ∃ am cm, Box wx (b0 + 1) 91 #[.slice am j cm, .slice none 0 0, .int .i64 0] ∧ wx.ownsRow b0 93 3 (.slice am j cm) j (((partsH C.parts).take j).flatMap phCells) ∧ Chg w2 wx (fun k => b0 ≤ k)) (fun i _ => C.parts.length - (intOf i).toNat)
  case atStart => exact ⟨0, by omega, rfl, none, 0, HB2.out, ⟨rfl, .inl ⟨rfl, rfl⟩⟩, Chg.refl _ _⟩
  case round =>
    obtain ⟨j, hj, rfl, am, cm, Bj, Oj, Cj⟩ := hrel
    have CJ : Chg w wr (fun _ => False) := C12.trans' Cj (fun k hk e => by omega)
    have HHr := HHw.out.keep CJ
    by_cases hlt : j < C.parts.length
    · obtain ⟨b, o, rfl⟩ := HHr.ps.pos (by omega)
      have c0 := Lst.cell0 (n := 3) (fun _ => rfl) HHr.ps j (by decide) hlt rfl
      have c1 := Lst.cell (n := 3) (fun _ => rfl) HHr.ps j 1 (by decide) hlt rfl
      have c2 := Lst.cell (n := 3) (fun _ => rfl) HHr.ps j 2 (by decide) hlt rfl
      obtain ⟨pd, hpd⟩ : ∃ p, C.parts[j] = p := ⟨_, rfl⟩
      rw [hpd] at c0 c1 c2
      have j0 : (0 : Int) ≤ (j : Int) := by omega
      have j1 : (j : Int) < (C.parts.length : Int) := by omega
      have y0 := Bj.cell 0
      have HBj := Lib.hid Bj
      have HOj := Lib.hid Oj
      clear Bj Oj
      obtain ⟨q, hq⟩ : ∃ q, wr.heap.size = q := ⟨_, rfl⟩
      obtain ⟨W0, hW0⟩ : ∃ W, wr.alloc (.cells #[.string pd.name, .int .i64 pd.pages, .int .i64 pd.action] 30) = W := ⟨_, rfl⟩
      have CW0 : Chg wr W0 (fun _ => False) := by rw [← hW0]; exact (Chg.refl wr _).alloc _
      have BQ : Box W0 q 30 #[.string pd.name, .int .i64 pd.pages, .int .i64 pd.action] := by rw [← hW0, ← hq]; exact Box.new wr _ _
      go_wp2_with fail
      clear hW0
      have u0 := CW0.cell y0 (fun h => h)
      have u2 := BQ.cell 2
      have HO0 := Lib.hid (own_chg HOj.out CW0 (fun _ _ h => h))
      have HB0 := Lib.hid (HBj.out.chg CW0 (fun h => h))
      clear c0 c1 c2 y0 HBj HOj
      refine wp_region_noPanic ?_
      refine wp_region_L 12 (fun w' => w'.cell? ⟨b0 + 1, 0, none⟩ = some (.slice am j cm) ∧ w'.cell? ⟨q, 2, none⟩ = some (.int .i64 pd.action)) (by kernel_rfl) (⟨u0, u2⟩) (fun hHeld => ?_)
      refine wpAnyL_take (i := 0) (oi := ?oia0) (v := ?va0) ?hia0 (by kernel_rfl) (by kernel_rfl) (by kernel_rfl) (by kernel_rfl) (fun _ _ _ h => h) (Or.inl ⟨?hwa0, ?hya0⟩) (by assumption) ?hra0
      case hia0 => simp only [List.getElem?_toArray, List.getElem?_cons_succ, List.getElem?_cons_zero]; rfl
      case hwa0 => rfl
      case hya0 => intro wq hSq; (try dsimp only at hSq); go_simp; (try with_reducible rfl)
      try simp only [Act.put, List.setIfInBounds_toArray, List.set_cons_zero, List.set_cons_succ]
      refine wpAnyL_take (i := 1) (oi := ?oia1) (v := ?va1) ?hia1 (by kernel_rfl) (by kernel_rfl) (by kernel_rfl) (by kernel_rfl) (fun _ _ _ h => h) (Or.inl ⟨?hwa1, ?hya1⟩) (by assumption) ?hra1
      case hia1 => simp only [List.getElem?_toArray, List.getElem?_cons_succ, List.getElem?_cons_zero]; rfl
      case hwa1 => rfl
      case hya1 => intro wq hSq; (try dsimp only at hSq); go_simp; (try with_reducible rfl)
      try simp only [Act.put, List.setIfInBounds_toArray, List.set_cons_zero, List.set_cons_succ]
      refine wpAnyL_take (i := 2) (oi := ?oia2) (v := ?va2) ?hia2 (by kernel_rfl) (by kernel_rfl) (by kernel_rfl) (by kernel_rfl) (fun _ _ _ h => h) (Or.inl ⟨?hwa2, ?hya2⟩) (by assumption) ?hra2
      case hia2 => simp only [List.getElem?_toArray, List.getElem?_cons_succ, List.getElem?_cons_zero]; rfl
      case hwa2 => rfl
      case hya2 => intro wq hSq; (try dsimp only at hSq); go_simp; (try with_reducible rfl)
      try simp only [Act.put, List.setIfInBounds_toArray, List.set_cons_zero, List.set_cons_succ]
      refine wpAnyL_take (i := 3) (oi := ?oia3) (v := ?va3) ?hia3 (by kernel_rfl) (by kernel_rfl) (by kernel_rfl) (by kernel_rfl) (fun _ _ _ h => h) (Or.inl ⟨?hwa3, ?hya3⟩) (by assumption) ?hra3
      case hia3 => simp only [List.getElem?_toArray, List.getElem?_cons_succ, List.getElem?_cons_zero]; rfl
      case hwa3 => rfl
      case hya3 => intro wq hSq; (try dsimp only at hSq); go_simp; (try with_reducible rfl)
      try simp only [Act.put, List.setIfInBounds_toArray, List.set_cons_zero, List.set_cons_succ]
      refine wpAnyL_take (i := 4) (oi := ?oia4) (v := ?va4) ?hia4 (by kernel_rfl) (by kernel_rfl) (by kernel_rfl) (by kernel_rfl) (fun _ _ _ h => h) (Or.inl ⟨?hwa4, ?hya4⟩) (by assumption) ?hra4
      case hia4 => simp only [List.getElem?_toArray, List.getElem?_cons_succ, List.getElem?_cons_zero]; rfl
      case hwa4 => rfl
      case hya4 => intro wq hSq; (try dsimp only at hSq); go_simp; (try with_reducible rfl)
      try simp only [Act.put, List.setIfInBounds_toArray, List.set_cons_zero, List.set_cons_succ]
      refine wpAnyL_take (i := 5) (oi := ?oia5) (v := ?va5) ?hia5 (by kernel_rfl) (by kernel_rfl) (by kernel_rfl) (by kernel_rfl) (fun _ _ _ h => h) (Or.inl ⟨?hwa5, ?hya5⟩) (by assumption) ?hra5
      case hia5 => simp only [List.getElem?_toArray, List.getElem?_cons_succ, List.getElem?_cons_zero]; rfl
      case hwa5 => rfl
      case hya5 => intro wq hSq; (try dsimp only at hSq); go_simp; (try with_reducible rfl)
      try simp only [Act.put, List.setIfInBounds_toArray, List.set_cons_zero, List.set_cons_succ]
      refine wpAnyL_take (i := 6) (oi := ?oia6) (v := ?va6) ?hia6 (by kernel_rfl) (by kernel_rfl) (by kernel_rfl) (by kernel_rfl) (fun _ _ _ h => h) (Or.inl ⟨?hwa6, ?hya6⟩) (by assumption) ?hra6
      case hia6 => simp only [List.getElem?_toArray, List.getElem?_cons_succ, List.getElem?_cons_zero]; rfl
      case hwa6 => rfl
      case hya6 => intro wq hSq; (try dsimp only at hSq); go_simp; (try with_reducible rfl)
      try simp only [Act.put, List.setIfInBounds_toArray, List.set_cons_zero, List.set_cons_succ]
      refine wpAnyL_take (i := 7) (oi := ?oia7) (v := ?va7) ?hia7 (by kernel_rfl) (by kernel_rfl) (by kernel_rfl) (by kernel_rfl) (fun _ _ _ h => h) (Or.inl ⟨?hwa7, ?hya7⟩) (by assumption) ?hra7
      case hia7 => simp only [List.getElem?_toArray, List.getElem?_cons_succ, List.getElem?_cons_zero]; rfl
      case hwa7 => rfl
      case hya7 => intro wq hSq; (try dsimp only at hSq); go_simp; (try with_reducible rfl)
      try simp only [Act.put, List.setIfInBounds_toArray, List.set_cons_zero, List.set_cons_succ]
      refine wpAnyL_ready (rs := [8]) (by kernel_rfl) (by simp) ?_
      refine AllReadyL.cons rfl (fun K hK => ?_) AllReadyL.nil
      go_simp
      have CB : Chg W0 ((W0.alloc (.cells #[.int .i64 pd.action, .bool false, .int .i64 0] 93)).drew) (fun _ => False) := ((Chg.refl W0 _).alloc _).drew
      have BN := Box.new W0 93 #[.int .i64 pd.action, .bool false, .int .i64 0]
      refine hK.out _ _ (.inl (⟨CB.cell u0 (fun h => h), CB.cell u2 (fun h => h)⟩)) (fun hHeld => ?_)
      replace hHeld := SOr.stands hHeld (by kernel_rfl)
      clear hK K
      try simp only [Act.put, List.setIfInBounds_toArray, List.set_cons_zero, List.set_cons_succ]
      refine wpAnyL_ready (rs := [9]) (by kernel_rfl) (by simp) ?_
      refine AllReadyL.cons rfl (fun K hK => ?_) AllReadyL.nil
      have EB := own_chg HO0.out CB (fun _ _ h => h)
      have SB := (BN.src 1 1 3 [.int .i64 pd.action, .bool false, .int .i64 0] rfl rfl).drew
      have hb0s := CB.size
      have hb0t := CW0.size
      refine op_append_at (.tmp 23) (.tmp 27) _ rfl b0 93 i0 _ 3 24 Try.underlying89 hi0 hz0 hz1 hz2 rfl (by omega) _ j _ rfl EB ⟨W0.heap.size, 0, none⟩ 1 1 _ rfl SB (by intro u hu; simp only [List.mem_cons, List.not_mem_nil, or_false] at hu; rcases hu with rfl | rfl | rfl <;> rfl) (by unfold maxLen; omega) (by omega) (by have := CJ.size; omega) ?_
      intro v4 w4 O4 hgr4 hat4
      have CC : Chg W0 w4 (fun k => (Value.slice am j cm).ownBlock = some k) := (CB.mono (fun _ _ h => h.elim)).grown hgr4 (fun k hk _ => hk)
      have hown : ∀ k, (Value.slice am j cm).ownBlock = some k → b0 ≤ k ∧ k < W0.heap.size := fun k hk => HO0.out.lt k hk
      have hrg : ∀ k, (Value.slice am j cm).ownBlock = some k → k ≠ b0 + 1 := own_ne HO0.out HB0.out (by decide)
      have hrq : ∀ k, (Value.slice am j cm).ownBlock = some k → k ≠ q := own_ne HO0.out BQ (by decide)
      obtain ⟨a4, c4, rfl, _⟩ := own_form O4
      change K (Act.put _ (some 28) _) _
      simp only [Act.put, List.setIfInBounds_toArray, List.set_cons_zero, List.set_cons_succ]
      refine hK.out _ _ (.inl (⟨CC.cell u0 (fun h => hrg _ h rfl), CC.cell u2 (fun h => hrq _ h rfl)⟩)) (fun hHeld => ?_)
      replace hHeld := SOr.stands hHeld (by kernel_rfl)
      clear hK K
      try simp only [Act.put, List.setIfInBounds_toArray, List.set_cons_zero, List.set_cons_succ]
      refine wpAnyL_take (i := 10) (oi := ?oib10) (v := ?vb10) ?hib10 (by kernel_rfl) (by kernel_rfl) (by kernel_rfl) (by kernel_rfl) (fun _ _ _ h => h) (Or.inl ⟨?hwb10, ?hyb10⟩) (by assumption) ?hrb10
      case hib10 => simp only [List.getElem?_toArray, List.getElem?_cons_succ, List.getElem?_cons_zero]; rfl
      case hwb10 => rfl
      case hyb10 => intro wq hSq; (try dsimp only at hSq); go_simp; (try with_reducible rfl)
      try simp only [Act.put, List.setIfInBounds_toArray, List.set_cons_zero, List.set_cons_succ]
      refine wpAnyL_take (i := 11) (oi := ?oib11) (v := ?vb11) ?hib11 (by kernel_rfl) (by kernel_rfl) (by kernel_rfl) (by kernel_rfl) (fun _ _ _ h => h) (Or.inl ⟨?hwb11, ?hyb11⟩) (by assumption) ?hrb11
      case hib11 => simp only [List.getElem?_toArray, List.getElem?_cons_succ, List.getElem?_cons_zero]; rfl
      case hwb11 => rfl
      case hyb11 => intro wq hSq; (try dsimp only at hSq); go_simp; (try with_reducible rfl)
      try simp only [Act.put, List.setIfInBounds_toArray, List.set_cons_zero, List.set_cons_succ]
      have BG4 := HB0.out.chg CC (fun h => hrg _ h rfl)
      have w0 := BG4.cell 0
      have w9 := BG4.frozen 0
      refine wpAnyL_ready (rs := [12]) (by kernel_rfl) (by simp) ?_
      refine AllReadyL.cons rfl (fun K hK => ?_) AllReadyL.nil
      go_simp
      refine hK.out _ _ (.inr (by kernel_rfl)) (fun _ => ?_)
      clear hK K
      try simp only [Act.put, List.setIfInBounds_toArray, List.set_cons_zero, List.set_cons_succ]
      refine wpAnyL_done (by kernel_rfl) ?_ _
      refine NoPanic.normal ?_
      go_wp2_with fail
      have CG : Chg w4 (w4.setCell ⟨b0 + 1, 0, none⟩ (.slice a4 (j + 1) c4)) (fun k => k = b0 + 1) := (Chg.refl w4 (fun k => k = b0 + 1)).setCell (p := ⟨b0 + 1, 0, none⟩) (fun _ => rfl) _
      go_roundw
      case rel =>
        refine ⟨j + 1, by omega, by go_num, a4, c4, BG4.set 0 _, ?_, ?_⟩
        · have := own_chg O4 CG (own_ne O4 BG4 (by decide))
          rw [List.take_succ_eq_append_getElem (by rw [HLEN.out]; exact hlt), List.flatMap_append]
          have e : (partsH C.parts)[j]'(by rw [HLEN.out]; exact hlt) = ⟨pd.action, false, 0⟩ := by simp [partsH, hpd]
          rw [e]
          exact this
        · have c8 : Chg w2 w4 (fun k => b0 ≤ k) := (Cj.trans (CW0.mono (fun _ _ h => h.elim))).trans' CC (fun k _ hk => (hown k hk).1)
          exact c8.trans' CG (fun k _ e => by omega)
      case measure => simp [intOf]; omega
    · have hjn : j = C.parts.length := by omega
      subst hjn
      go_wp2_with fail
      go_ret
      refine ⟨b0 + 1, rfl, ?_, CJ⟩
      rw [HN.out]
      have ht : (partsH C.parts).take C.parts.length = partsH C.parts := by rw [← HLEN.out, List.take_length]
      rw [ht] at Oj
      refine ⟨am, none, cm, 0, 0, [], ?_, ?_, ⟨rfl, .inl ⟨rfl, rfl⟩⟩, Ring.nil, by omega, fun b hb => ?_, fun b hb => by cases hb⟩
      · show Box wr (b0 + 1) _ #[.slice am (partsH C.parts).length cm, _, _]
        rw [HLEN.out]; exact Bj
      · show wr.ownsRow 0 _ 3 (.slice am (partsH C.parts).length cm) (partsH C.parts).length _
        rw [HLEN.out]; exact own_base Oj (Nat.zero_le _)
      · have hb2 : (Value.slice am (partsH C.parts).length cm).ownBlock = some b := hb
        rw [HLEN.out] at hb2
        rw [hb0]
        exact (Oj.lt b hb2).1
end Go.Proofs.Ytdhkbephofnfdaa

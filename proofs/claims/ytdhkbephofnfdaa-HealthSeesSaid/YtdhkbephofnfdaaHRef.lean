/- health: the reference's monitor. -/
import Derived.Test.YtdhkbephofnfdaaHNew
import Derived.Test.YtdhkbephofnfdaaTail
namespace Go.Proofs.Ytdhkbephofnfdaa
open Go.RowKit

def cntCells (l : List PartH) : List Value := l.map (fun p => Value.int .i64 p.cnt)
def goneCells (l : List PartH) : List Value := l.map (fun p => Value.bool p.stays)
theorem info_int : (Try.prog.info? 3).map (fun i => (i.zero, i.size, i.bytes)) = some (some (.int .i64 0), 1, 8) := by kernel_rfl
theorem info_bool : (Try.prog.info? 4).map (fun i => (i.zero, i.size, i.bytes)) = some (some (.bool false), 1, 1) := by kernel_rfl

/-- The reference's monitor. -/
structure RIs (w : World) (B : Nat → Prop) (h : Nat) (C : Cfg) (ap ac aw : Option Addr) (cp cc cw : Nat) (S : HS) (al an ag : Option Addr) (cl cn cg : Nat) : Prop where
  box : Box w h 66 #[.int .i64 C.pages, .int .i64 C.major, .int .i64 C.switch, .slice ap C.parts.length cp, .slice ac C.chans.length cc, .slice aw C.wins.length cw, .slice al S.evs.length cl, .slice an S.ps.length cn, .slice ag S.ps.length cg]
  evs : w.ownsRow 0 68 3 (.slice al S.evs.length cl) S.evs.length (S.evs.flatMap evCells)
  cnt : w.ownsRow 0 3 1 (.slice an S.ps.length cn) S.ps.length (cntCells S.ps)
  gone : w.ownsRow 0 4 1 (.slice ag S.ps.length cg) S.ps.length (goneCells S.ps)
  bh : B h
  be : ∀ b, (Value.slice al S.evs.length cl).ownBlock = some b → B b
  bn : ∀ b, (Value.slice an S.ps.length cn).ownBlock = some b → B b
  bg : ∀ b, (Value.slice ag S.ps.length cg).ownBlock = some b → B b
  le : S.ps.length ≤ C.parts.length
  act : ∀ k (h1 : k < S.ps.length) (h2 : k < C.parts.length), S.ps[k].act = C.parts[k].action
def RAt (w : World) (B : Nat → Prop) (h : Nat) (C : Cfg) (ap ac aw : Option Addr) (cp cc cw : Nat) (S : HS) : Prop := ∃ al an ag cl cn cg, RIs w B h C ap ac aw cp cc cw S al an ag cl cn cg
section
variable {w w' : World} {B P : Nat → Prop} {h : Nat} {C : Cfg} {ap ac aw : Option Addr} {cp cc cw : Nat} {S : HS} {al an ag : Option Addr} {cl cn cg : Nat}
theorem RIs.chg (r : RIs w B h C ap ac aw cp cc cw S al an ag cl cn cg) (c : Chg w w' P) (hp : ∀ k, P k → ¬ B k) : RIs w' B h C ap ac aw cp cc cw S al an ag cl cn cg :=
  ⟨r.box.chg c (fun hk => hp _ hk r.bh), own_chg r.evs c (fun b hb hk => hp _ hk (r.be b hb)), own_chg r.cnt c (fun b hb hk => hp _ hk (r.bn b hb)), own_chg r.gone c (fun b hb hk => hp _ hk (r.bg b hb)), r.bh, r.be, r.bn, r.bg, r.le, r.act⟩
theorem RAt.chg (r : RAt w B h C ap ac aw cp cc cw S) (c : Chg w w' P) (hp : ∀ k, P k → ¬ B k) : RAt w' B h C ap ac aw cp cc cw S := by
  obtain ⟨a1, a2, a3, a4, a5, a6, r⟩ := r
  exact ⟨a1, a2, a3, a4, a5, a6, r.chg c hp⟩
theorem RAt.mono {B' : Nat → Prop} (r : RAt w B h C ap ac aw cp cc cw S) (hb : ∀ k, B k → B' k) : RAt w B' h C ap ac aw cp cc cw S := by
  obtain ⟨a1, a2, a3, a4, a5, a6, r⟩ := r
  exact ⟨a1, a2, a3, a4, a5, a6, r.box, r.evs, r.cnt, r.gone, hb _ r.bh, fun b e => hb _ (r.be b e), fun b e => hb _ (r.bn b e), fun b e => hb _ (r.bg b e), r.le, r.act⟩
end
theorem made_list (z : Value) (n : Nat) : (madeCells #[z] n).toList = List.replicate n z := by
  refine List.ext_getElem? (fun i => ?_)
  by_cases hi : i < n
  · rw [List.getElem?_replicate, if_pos hi]
    simp [madeCells, hi, Nat.mod_one]
  · rw [List.getElem?_eq_none (by rw [Array.length_toList, size_madeCells]; omega), List.getElem?_eq_none (by simp; omega)]

set_option maxRecDepth 100000 in
set_option maxHeartbeats 1600000 in
theorem rnew_any {C : Cfg} {ap ac aw : Option Addr} {cp cc cw : Nat} (w : World) (h : CfgAt w C ap ac aw cp cc cw) :
    Calls Try.prog 30 #[.agg (cfgCells C ap ac aw cp cc cw)] w fun r w' => ∃ g, r = .returned (.pointer (some ⟨g, 0, none⟩)) ∧ RAt w' (fun k => w.heap.size ≤ k) g C ap ac aw cp cc cw (newS C) ∧ Chg w w' (fun _ => False) := by
  unfold cfgCells
  obtain ⟨b0, hb0⟩ : ∃ b, w.heap.size = b := ⟨_, rfl⟩
  obtain ⟨w1, hw1⟩ : ∃ W, w.alloc (.cells #[.int .i64 C.pages, .int .i64 C.major, .int .i64 C.switch, .slice ap C.parts.length cp, .slice ac C.chans.length cc, .slice aw C.wins.length cw] 27) = W := ⟨_, rfl⟩
  have C1 : Chg w w1 (fun _ => False) := by rw [← hw1]; exact (Chg.refl w _).alloc _
  have BC : Box w1 b0 27 #[.int .i64 C.pages, .int .i64 C.major, .int .i64 C.switch, .slice ap C.parts.length cp, .slice ac C.chans.length cc, .slice aw C.wins.length cw] := by rw [← hw1, ← hb0]; exact Box.new w _ _
  have H1 := h.keep C1
  have x0 := BC.cell 0
  have x1 := BC.cell 1
  have x2 := BC.cell 2
  have x3 := BC.cell 3
  have x4 := BC.cell 4
  have x5 := BC.cell 5
  have HBC := Lib.hid BC
  have hn0 := newS_ok C
  obtain ⟨n, hn⟩ : ∃ n, (newS C).ps.length = n := ⟨_, rfl⟩
  have hn8 : n ≤ 8 := by rw [← hn]; exact hn0.n8
  have hnc : chk C = 0 → C.parts.length = n := fun hc => by rw [← hn]; unfold newS; rw [if_pos hc]; simp [partsH]
  have hnn : ¬ chk C = 0 → n = 0 := fun hc => by rw [← hn]; unfold newS; rw [if_neg hc]; rfl
  have hcnt : cntCells (newS C).ps = List.replicate n (.int .i64 0) := by
    rw [← hn]; unfold newS cntCells
    split
    · simp only [partsH, List.map_map, List.length_map]
      exact List.map_eq_replicate_iff.2 (fun _ _ => rfl)
    · rfl
  have hgone : goneCells (newS C).ps = List.replicate n (.bool false) := by
    rw [← hn]; unfold newS goneCells
    split
    · simp only [partsH, List.map_map, List.length_map]
      exact List.map_eq_replicate_iff.2 (fun _ _ => rfl)
    · rfl
  have hevs : (newS C).evs = [] := by unfold newS; split <;> rfl
  have hact : (newS C).ps.length ≤ C.parts.length ∧ ∀ k (h1 : k < (newS C).ps.length) (h2 : k < C.parts.length), (newS C).ps[k].act = C.parts[k].action := by
    unfold newS
    split
    · exact ⟨by simp [partsH], fun k h1 h2 => by simp [partsH]⟩
    · exact ⟨by simp, fun k h1 => by simp at h1⟩
  have HFIN := Lib.hid (And.intro hcnt (And.intro hgone (And.intro hevs (And.intro hact hn))))
  have mk1 := fun wx => run_make_row' (P := Try.prog) 50 3 (.int .i64 0) 8 Try.underlying50 info_int rfl .i64 .i64 n (by omega) (by omega) wx
  have mk2 := fun wx => run_make_row' (P := Try.prog) 49 4 (.bool false) 1 Try.underlying49 info_bool rfl .i64 .i64 n (by omega) (by omega) wx
  clear BC h hcnt hgone hevs hact hn hn0
  have HNC := Lib.hid (And.intro hnc hnn)
  clear hnc hnn
  go_enter Try.func30, Try.ntmps30
  go_wp2_with fail
  clear hw1
  refine (rcheck_any w1 H1).mono ?_
  rintro r w2 ⟨rfl, C2⟩
  have BC2 := HBC.out.chg C2 (fun h => h)
  have C12 := C1.trans C2
  clear x0 x1 x2 x3 x4 x5 H1
  have x0 := BC2.cell 0
  have x1 := BC2.cell 1
  have x2 := BC2.cell 2
  have x3 := BC2.cell 3
  have x4 := BC2.cell 4
  have x5 := BC2.cell 5
  have hlt := BC2.lt
  obtain ⟨k, hk⟩ : ∃ k, chk C = k := ⟨_, rfl⟩
  rw [hk]
  have hgo : k = 0 ∨ ¬ k = 0 := by omega
  rcases hgo with h0 | h0
  · subst h0
    have e1 := HNC.out.1 hk
    clear hk
    rw [e1] at x3
    have HE1 := Lib.hid e1
    go_wp2_with fail
    refine wp_region_noPanic ?_
    refine wp_region_held_drew (S := fun w' => w'.cell? ⟨b0, 0, none⟩ = some (.int .i64 C.pages) ∧ w'.cell? ⟨b0, 1, none⟩ = some (.int .i64 C.major) ∧ w'.cell? ⟨b0, 2, none⟩ = some (.int .i64 C.switch) ∧ w'.cell? ⟨b0, 3, none⟩ = some (.slice ap n cp) ∧ w'.cell? ⟨b0, 4, none⟩ = some (.slice ac C.chans.length cc) ∧ w'.cell? ⟨b0, 5, none⟩ = some (.slice aw C.wins.length cw)) (by kernel_rfl) ⟨x0, x1, x2, x3, x4, x5⟩ (fun hHeld => ?_)
    refine wpAnyH_take (i := 0) (oi := ?oipa0) (v := ?vpa0) ?hipa0 (by kernel_rfl) (by kernel_rfl) (by kernel_rfl) (fun _ _ _ h => h) (Or.inl ⟨?hwpa0, ?hypa0⟩) (by assumption) ?hrpa0
    case hipa0 => simp only [List.getElem?_toArray, List.getElem?_cons_succ, List.getElem?_cons_zero]; rfl
    case hwpa0 => rfl
    case hypa0 => intro wq hSq; (try dsimp only at hSq); go_simp; (try with_reducible rfl)
    try simp only [Act.put, List.setIfInBounds_toArray, List.set_cons_zero, List.set_cons_succ]
    refine wpAnyH_take (i := 1) (oi := ?oipa1) (v := ?vpa1) ?hipa1 (by kernel_rfl) (by kernel_rfl) (by kernel_rfl) (fun _ _ _ h => h) (Or.inl ⟨?hwpa1, ?hypa1⟩) (by assumption) ?hrpa1
    case hipa1 => simp only [List.getElem?_toArray, List.getElem?_cons_succ, List.getElem?_cons_zero]; rfl
    case hwpa1 => rfl
    case hypa1 => intro wq hSq; (try dsimp only at hSq); go_simp; (try with_reducible rfl)
    try simp only [Act.put, List.setIfInBounds_toArray, List.set_cons_zero, List.set_cons_succ]
    refine wpAnyH_take (i := 3) (oi := ?oipa3) (v := ?vpa3) ?hipa3 (by kernel_rfl) (by kernel_rfl) (by kernel_rfl) (fun _ _ _ h => h) (Or.inl ⟨?hwpa3, ?hypa3⟩) (by assumption) ?hrpa3
    case hipa3 => simp only [List.getElem?_toArray, List.getElem?_cons_succ, List.getElem?_cons_zero]; rfl
    case hwpa3 => rfl
    case hypa3 => intro wq hSq; (try dsimp only at hSq); go_simp; (try with_reducible rfl)
    try simp only [Act.put, List.setIfInBounds_toArray, List.set_cons_zero, List.set_cons_succ]
    refine wpAnyH_inv' [2, 4] 20 (fun j v w' => match j with
      | 2 => ∃ g, v = .slice (some ⟨g, 0, none⟩) n n ∧ b0 ≤ g ∧ Box w' g 3 (madeCells #[.int .i64 0] n)
      | _ => ∃ g, v = .slice (some ⟨g, 0, none⟩) n n ∧ b0 ≤ g ∧ Box w' g 4 (madeCells #[.bool false] n))
      (fun _ w' => Chg w2 w' (fun _ => False)) (fun w w' => Chg w w' (fun _ => False)) 3 (by kernel_rfl) (by kernel_rfl) rfl ((Chg.refl w2 _).drew) (fun _ w' c => ⟨c.cell x0 (fun h => h), c.cell x1 (fun h => h), c.cell x2 (fun h => h), c.cell x3 (fun h => h), c.cell x4 (fun h => h), c.cell x5 (fun h => h)⟩) ?monop (A := ?Ap) ?hAp ?stepsp ?finp
    case hAp =>
      intro x
      simp only [lay, List.foldl_cons, List.foldl_nil, dstOf, List.getElem?_toArray, List.getElem?_cons_succ, List.getElem?_cons_zero, Option.bind_some, Act.put, List.setIfInBounds_toArray, List.set_cons_zero, List.set_cons_succ]
      exact rfl
    case monop =>
      intro j hj v wa wb hR hT
      simp only [List.mem_cons, List.not_mem_nil, or_false] at hj
      rcases hj with rfl | rfl
      · obtain ⟨g, h1, h2, h3⟩ := hT; exact ⟨g, h1, h2, h3.chg hR (fun h => h)⟩
      · obtain ⟨g, h1, h2, h3⟩ := hT; exact ⟨g, h1, h2, h3.chg hR (fun h => h)⟩
    case stepsp =>
      refine StepsF.cons (o := ?op2) ?hp2 ?sp2 ?rp2
      case hp2 => simp only [List.getElem?_toArray, List.getElem?_cons_succ, List.getElem?_cons_zero]; rfl
      case sp2 =>
        intro x wx L hG hO hT K hK
        have mk := mk1 wx
        clear hT hO
        have hK1 := hK.out
        clear hK
        simp only [Act.put, List.setIfInBounds_toArray, List.set_cons_zero, List.set_cons_succ] at hK1
        have hK2 := Lib.hid hK1
        clear hK1
        go_simp
        have hsz := hG.size
        exact hK2.out _ _ ⟨_, rfl, by omega, Box.new wx _ _⟩ ((Chg.refl wx _).alloc _) (hG.alloc _)
      refine StepsF.cons (o := ?op4) ?hp4 ?sp4 ?rp4
      case hp4 => simp only [List.getElem?_toArray, List.getElem?_cons_succ, List.getElem?_cons_zero]; rfl
      case sp4 =>
        intro x wx L hG hO hT K hK
        have mk := mk2 wx
        clear hT hO
        have hK1 := hK.out
        clear hK
        simp only [Act.put, List.setIfInBounds_toArray, List.set_cons_zero, List.set_cons_succ] at hK1
        have hK2 := Lib.hid hK1
        clear hK1
        go_simp
        have hsz := hG.size
        exact hK2.out _ _ ⟨_, rfl, by omega, Box.new wx _ _⟩ ((Chg.refl wx _).alloc _) (hG.alloc _)
      exact StepsF.nil
    case finp =>
      intro x wx hT hG
      obtain ⟨g2, e2, hg2, b2⟩ := hT 2 (by kernel_rfl)
      obtain ⟨g4, e4, hg4, b4⟩ := hT 4 (by kernel_rfl)
      simp only [e2, e4]
      clear e2 e4 hT
      have hHeld : wx.cell? ⟨b0, 0, none⟩ = some (.int .i64 C.pages) ∧ wx.cell? ⟨b0, 1, none⟩ = some (.int .i64 C.major) ∧ wx.cell? ⟨b0, 2, none⟩ = some (.int .i64 C.switch) ∧ wx.cell? ⟨b0, 3, none⟩ = some (.slice ap n cp) ∧ wx.cell? ⟨b0, 4, none⟩ = some (.slice ac C.chans.length cc) ∧ wx.cell? ⟨b0, 5, none⟩ = some (.slice aw C.wins.length cw) := ⟨hG.cell x0 (fun h => h), hG.cell x1 (fun h => h), hG.cell x2 (fun h => h), hG.cell x3 (fun h => h), hG.cell x4 (fun h => h), hG.cell x5 (fun h => h)⟩
      refine wpAnyH_take (i := 5) (oi := ?oipb5) (v := ?vpb5) ?hipb5 (by kernel_rfl) (by kernel_rfl) (by kernel_rfl) (fun _ _ _ h => h) (Or.inl ⟨?hwpb5, ?hypb5⟩) (by assumption) ?hrpb5
      case hipb5 => simp only [List.getElem?_toArray, List.getElem?_cons_succ, List.getElem?_cons_zero]; rfl
      case hwpb5 => rfl
      case hypb5 => intro wq hSq; (try dsimp only at hSq); go_simp; (try with_reducible rfl)
      try simp only [Act.put, List.setIfInBounds_toArray, List.set_cons_zero, List.set_cons_succ]
      refine wpAnyH_ready (rs := [6]) (by kernel_rfl) (by simp) ?_
      refine AllReadyH.cons rfl (fun K hK => ?_) AllReadyH.nil
      go_simp
      have CA : Chg wx (wx.alloc (.cells #[.int .i64 C.pages, .int .i64 C.major, .int .i64 C.switch, .slice ap n cp, .slice ac C.chans.length cc, .slice aw C.wins.length cw, .slice none 0 0, .slice (some ⟨g2, 0, none⟩) n n, .slice (some ⟨g4, 0, none⟩) n n] 66)) (fun _ => False) := (Chg.refl wx _).alloc _
      have BN := Box.new wx 66 #[.int .i64 C.pages, .int .i64 C.major, .int .i64 C.switch, .slice ap n cp, .slice ac C.chans.length cc, .slice aw C.wins.length cw, .slice none 0 0, .slice (some ⟨g2, 0, none⟩) n n, .slice (some ⟨g4, 0, none⟩) n n]
      have hG2 := hG.trans CA
      refine hK.out _ _ ⟨hG2.cell x0 (fun h => h), hG2.cell x1 (fun h => h), hG2.cell x2 (fun h => h), hG2.cell x3 (fun h => h), hG2.cell x4 (fun h => h), hG2.cell x5 (fun h => h)⟩ (fun hHeld => ?_)
      clear hK K
      try simp only [Act.put, List.setIfInBounds_toArray, List.set_cons_zero, List.set_cons_succ]
      refine wpAnyH_take (i := 7) (oi := ?oipc7) (v := ?vpc7) ?hipc7 (by kernel_rfl) (by kernel_rfl) (by kernel_rfl) (fun _ _ _ h => h) (Or.inl ⟨?hwpc7, ?hypc7⟩) (by assumption) ?hrpc7
      case hipc7 => simp only [List.getElem?_toArray, List.getElem?_cons_succ, List.getElem?_cons_zero]; rfl
      case hwpc7 => rfl
      case hypc7 => intro wq hSq; (try dsimp only at hSq); go_simp; (try with_reducible rfl)
      try simp only [Act.put, List.setIfInBounds_toArray, List.set_cons_zero, List.set_cons_succ]
      refine wpAnyH_done (by kernel_rfl) ?_ _
      refine NoPanic.normal ?_
      go_wp2_with fail
      go_ret
      have b2' := b2.chg CA (fun h => h)
      have b4' := b4.chg CA (fun h => h)
      obtain ⟨f1, f2, f3, ⟨f4, f5⟩, f6⟩ := HFIN.out
      have hszg := hG.size
      refine ⟨_, rfl, ⟨none, some ⟨g2, 0, none⟩, some ⟨g4, 0, none⟩, 0, n, n, ?_, ?_, ?_, ?_, by omega, fun b hb => ?_, fun b hb => ?_, fun b hb => ?_, f4, f5⟩, C12.trans hG2⟩
      · rw [f3, f6, HE1.out]; exact BN
      · rw [f3]; exact ⟨rfl, .inl ⟨rfl, rfl⟩⟩
      · rw [f1, f6]; exact b2'.own 0 _ 1 _ (Nat.zero_le _) (made_list _ _) (by simp) (by unfold maxLen; omega)
      · rw [f2, f6]; exact b4'.own 0 _ 1 _ (Nat.zero_le _) (made_list _ _) (by simp) (by unfold maxLen; omega)
      · rw [f3] at hb; cases hb
      · rw [f6] at hb; change some g2 = some b at hb; injection hb with hb; omega
      · rw [f6] at hb; change some g4 = some b at hb; injection hb with hb; omega
  · have e1 := HNC.out.2 (by rw [hk]; exact h0)
    subst e1
    have dk : (k != 0) = true := bne_iff_ne.2 h0
    clear hk h0
    go_wp2_with fail
    refine wp_region_noPanic ?_
    refine wp_region_held_drew (S := fun w' => w'.cell? ⟨b0, 0, none⟩ = some (.int .i64 C.pages) ∧ w'.cell? ⟨b0, 1, none⟩ = some (.int .i64 C.major) ∧ w'.cell? ⟨b0, 2, none⟩ = some (.int .i64 C.switch) ∧ w'.cell? ⟨b0, 3, none⟩ = some (.slice ap C.parts.length cp) ∧ w'.cell? ⟨b0, 4, none⟩ = some (.slice ac C.chans.length cc) ∧ w'.cell? ⟨b0, 5, none⟩ = some (.slice aw C.wins.length cw)) (by kernel_rfl) ⟨x0, x1, x2, x3, x4, x5⟩ (fun hHeld => ?_)
    refine wpAnyH_take (i := 0) (oi := ?oiqa0) (v := ?vqa0) ?hiqa0 (by kernel_rfl) (by kernel_rfl) (by kernel_rfl) (fun _ _ _ h => h) (Or.inl ⟨?hwqa0, ?hyqa0⟩) (by assumption) ?hrqa0
    case hiqa0 => simp only [List.getElem?_toArray, List.getElem?_cons_succ, List.getElem?_cons_zero]; rfl
    case hwqa0 => rfl
    case hyqa0 => intro wq hSq; (try dsimp only at hSq); go_simp; (try with_reducible rfl)
    try simp only [Act.put, List.setIfInBounds_toArray, List.set_cons_zero, List.set_cons_succ]
    refine wpAnyH_take (i := 1) (oi := ?oiqa1) (v := ?vqa1) ?hiqa1 (by kernel_rfl) (by kernel_rfl) (by kernel_rfl) (fun _ _ _ h => h) (Or.inl ⟨?hwqa1, ?hyqa1⟩) (by assumption) ?hrqa1
    case hiqa1 => simp only [List.getElem?_toArray, List.getElem?_cons_succ, List.getElem?_cons_zero]; rfl
    case hwqa1 => rfl
    case hyqa1 => intro wq hSq; (try dsimp only at hSq); go_simp; (try with_reducible rfl)
    try simp only [Act.put, List.setIfInBounds_toArray, List.set_cons_zero, List.set_cons_succ]
    refine wpAnyH_take (i := 3) (oi := ?oiqa3) (v := ?vqa3) ?hiqa3 (by kernel_rfl) (by kernel_rfl) (by kernel_rfl) (fun _ _ _ h => h) (Or.inl ⟨?hwqa3, ?hyqa3⟩) (by assumption) ?hrqa3
    case hiqa3 => simp only [List.getElem?_toArray, List.getElem?_cons_succ, List.getElem?_cons_zero]; rfl
    case hwqa3 => rfl
    case hyqa3 => intro wq hSq; (try dsimp only at hSq); go_simp; (try with_reducible rfl)
    try simp only [Act.put, List.setIfInBounds_toArray, List.set_cons_zero, List.set_cons_succ]
    refine wpAnyH_inv' [2, 4] 20 (fun j v w' => match j with
      | 2 => ∃ g, v = .slice (some ⟨g, 0, none⟩) 0 0 ∧ b0 ≤ g ∧ Box w' g 3 (madeCells #[.int .i64 0] 0)
      | _ => ∃ g, v = .slice (some ⟨g, 0, none⟩) 0 0 ∧ b0 ≤ g ∧ Box w' g 4 (madeCells #[.bool false] 0))
      (fun _ w' => Chg w2 w' (fun _ => False)) (fun w w' => Chg w w' (fun _ => False)) 3 (by kernel_rfl) (by kernel_rfl) rfl ((Chg.refl w2 _).drew) (fun _ w' c => ⟨c.cell x0 (fun h => h), c.cell x1 (fun h => h), c.cell x2 (fun h => h), c.cell x3 (fun h => h), c.cell x4 (fun h => h), c.cell x5 (fun h => h)⟩) ?monoq (A := ?Aq) ?hAq ?stepsq ?finq
    case hAq =>
      intro x
      simp only [lay, List.foldl_cons, List.foldl_nil, dstOf, List.getElem?_toArray, List.getElem?_cons_succ, List.getElem?_cons_zero, Option.bind_some, Act.put, List.setIfInBounds_toArray, List.set_cons_zero, List.set_cons_succ]
      exact rfl
    case monoq =>
      intro j hj v wa wb hR hT
      simp only [List.mem_cons, List.not_mem_nil, or_false] at hj
      rcases hj with rfl | rfl
      · obtain ⟨g, h1, h2, h3⟩ := hT; exact ⟨g, h1, h2, h3.chg hR (fun h => h)⟩
      · obtain ⟨g, h1, h2, h3⟩ := hT; exact ⟨g, h1, h2, h3.chg hR (fun h => h)⟩
    case stepsq =>
      refine StepsF.cons (o := ?oq2) ?hq2 ?sq2 ?rq2
      case hq2 => simp only [List.getElem?_toArray, List.getElem?_cons_succ, List.getElem?_cons_zero]; rfl
      case sq2 =>
        intro x wx L hG hO hT K hK
        have mk : (Instr.makeSlice 50 (.int .i64 0) (.int .i64 0)).run Try.prog wx = .ok (.slice (some ⟨wx.heap.size, 0, none⟩) 0 0) (wx.alloc (.cells (madeCells #[.int .i64 0] 0) 3)) := mk1 wx
        clear hT hO
        have hK1 := hK.out
        clear hK
        simp only [Act.put, List.setIfInBounds_toArray, List.set_cons_zero, List.set_cons_succ] at hK1
        have hK2 := Lib.hid hK1
        clear hK1
        go_simp
        have hsz := hG.size
        exact hK2.out _ _ ⟨_, rfl, by omega, Box.new wx _ _⟩ ((Chg.refl wx _).alloc _) (hG.alloc _)
      refine StepsF.cons (o := ?oq4) ?hq4 ?sq4 ?rq4
      case hq4 => simp only [List.getElem?_toArray, List.getElem?_cons_succ, List.getElem?_cons_zero]; rfl
      case sq4 =>
        intro x wx L hG hO hT K hK
        have mk : (Instr.makeSlice 49 (.int .i64 0) (.int .i64 0)).run Try.prog wx = .ok (.slice (some ⟨wx.heap.size, 0, none⟩) 0 0) (wx.alloc (.cells (madeCells #[.bool false] 0) 4)) := mk2 wx
        clear hT hO
        have hK1 := hK.out
        clear hK
        simp only [Act.put, List.setIfInBounds_toArray, List.set_cons_zero, List.set_cons_succ] at hK1
        have hK2 := Lib.hid hK1
        clear hK1
        go_simp
        have hsz := hG.size
        exact hK2.out _ _ ⟨_, rfl, by omega, Box.new wx _ _⟩ ((Chg.refl wx _).alloc _) (hG.alloc _)
      exact StepsF.nil
    case finq =>
      intro x wx hT hG
      obtain ⟨g2, e2, hg2, b2⟩ := hT 2 (by kernel_rfl)
      obtain ⟨g4, e4, hg4, b4⟩ := hT 4 (by kernel_rfl)
      simp only [e2, e4]
      clear e2 e4 hT
      have hHeld : wx.cell? ⟨b0, 0, none⟩ = some (.int .i64 C.pages) ∧ wx.cell? ⟨b0, 1, none⟩ = some (.int .i64 C.major) ∧ wx.cell? ⟨b0, 2, none⟩ = some (.int .i64 C.switch) ∧ wx.cell? ⟨b0, 3, none⟩ = some (.slice ap C.parts.length cp) ∧ wx.cell? ⟨b0, 4, none⟩ = some (.slice ac C.chans.length cc) ∧ wx.cell? ⟨b0, 5, none⟩ = some (.slice aw C.wins.length cw) := ⟨hG.cell x0 (fun h => h), hG.cell x1 (fun h => h), hG.cell x2 (fun h => h), hG.cell x3 (fun h => h), hG.cell x4 (fun h => h), hG.cell x5 (fun h => h)⟩
      refine wpAnyH_take (i := 5) (oi := ?oiqb5) (v := ?vqb5) ?hiqb5 (by kernel_rfl) (by kernel_rfl) (by kernel_rfl) (fun _ _ _ h => h) (Or.inl ⟨?hwqb5, ?hyqb5⟩) (by assumption) ?hrqb5
      case hiqb5 => simp only [List.getElem?_toArray, List.getElem?_cons_succ, List.getElem?_cons_zero]; rfl
      case hwqb5 => rfl
      case hyqb5 => intro wq hSq; (try dsimp only at hSq); go_simp; (try with_reducible rfl)
      try simp only [Act.put, List.setIfInBounds_toArray, List.set_cons_zero, List.set_cons_succ]
      refine wpAnyH_ready (rs := [6]) (by kernel_rfl) (by simp) ?_
      refine AllReadyH.cons rfl (fun K hK => ?_) AllReadyH.nil
      go_simp
      have CA : Chg wx (wx.alloc (.cells #[.int .i64 C.pages, .int .i64 C.major, .int .i64 C.switch, .slice ap C.parts.length cp, .slice ac C.chans.length cc, .slice aw C.wins.length cw, .slice none 0 0, .slice (some ⟨g2, 0, none⟩) 0 0, .slice (some ⟨g4, 0, none⟩) 0 0] 66)) (fun _ => False) := (Chg.refl wx _).alloc _
      have BN := Box.new wx 66 #[.int .i64 C.pages, .int .i64 C.major, .int .i64 C.switch, .slice ap C.parts.length cp, .slice ac C.chans.length cc, .slice aw C.wins.length cw, .slice none 0 0, .slice (some ⟨g2, 0, none⟩) 0 0, .slice (some ⟨g4, 0, none⟩) 0 0]
      have hG2 := hG.trans CA
      refine hK.out _ _ ⟨hG2.cell x0 (fun h => h), hG2.cell x1 (fun h => h), hG2.cell x2 (fun h => h), hG2.cell x3 (fun h => h), hG2.cell x4 (fun h => h), hG2.cell x5 (fun h => h)⟩ (fun hHeld => ?_)
      clear hK K
      try simp only [Act.put, List.setIfInBounds_toArray, List.set_cons_zero, List.set_cons_succ]
      refine wpAnyH_take (i := 7) (oi := ?oiqc7) (v := ?vqc7) ?hiqc7 (by kernel_rfl) (by kernel_rfl) (by kernel_rfl) (fun _ _ _ h => h) (Or.inl ⟨?hwqc7, ?hyqc7⟩) (by assumption) ?hrqc7
      case hiqc7 => simp only [List.getElem?_toArray, List.getElem?_cons_succ, List.getElem?_cons_zero]; rfl
      case hwqc7 => rfl
      case hyqc7 => intro wq hSq; (try dsimp only at hSq); go_simp; (try with_reducible rfl)
      try simp only [Act.put, List.setIfInBounds_toArray, List.set_cons_zero, List.set_cons_succ]
      refine wpAnyH_done (by kernel_rfl) ?_ _
      refine NoPanic.normal ?_
      go_wp2_with fail
      go_ret
      have b2' := b2.chg CA (fun h => h)
      have b4' := b4.chg CA (fun h => h)
      obtain ⟨f1, f2, f3, ⟨f4, f5⟩, f6⟩ := HFIN.out
      have hszg := hG.size
      refine ⟨_, rfl, ⟨none, some ⟨g2, 0, none⟩, some ⟨g4, 0, none⟩, 0, 0, 0, ?_, ?_, ?_, ?_, by omega, fun b hb => ?_, fun b hb => ?_, fun b hb => ?_, f4, f5⟩, C12.trans hG2⟩
      · rw [f3, f6]; exact BN
      · rw [f3]; exact ⟨rfl, .inl ⟨rfl, rfl⟩⟩
      · rw [f1, f6]; exact b2'.own 0 _ 1 _ (Nat.zero_le _) (made_list _ _) (by simp) (by unfold maxLen; omega)
      · rw [f2, f6]; exact b4'.own 0 _ 1 _ (Nat.zero_le _) (made_list _ _) (by simp) (by unfold maxLen; omega)
      · rw [f3] at hb; cases hb
      · rw [f6] at hb; change some g2 = some b at hb; injection hb with hb; omega
      · rw [f6] at hb; change some g4 = some b at hb; injection hb with hb; omega
end Go.Proofs.Ytdhkbephofnfdaa

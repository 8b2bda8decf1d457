/- ports: New (printed by gen_pob.py). -/
import Derived.Test.YtiedfglkjkaefaaPo9
import Derived.Test.YtiedfglkjkaefaaPoA
import Derived.Test.YtiedfglkjkaefaaCfgCheck
import Derived.Test.YtiedfglkjkaefaaApp
import Derived.Deep.DeepCutAuto
import Derived.Deep.LoopGhost
namespace Go.Proofs.Ytiedfglkjkaefaa
open Go.RowKit

theorem info_chl : (Try.prog.info? 85).map (fun i => (i.zero, i.size, i.bytes)) = some (some .nilIface, 1, 16) := by kernel_rfl
theorem chk_chans {C : Cfg} (h : chk C = 0) : chansOk C = true := by
  unfold chk at h
  cases h1 : wi C.pages 5 256
  · rw [h1, if_pos rfl] at h; exact absurd h (by decide)
  rw [h1, if_neg (by decide)] at h
  cases h2 : partsOk C
  · rw [h2, if_pos rfl] at h; exact absurd h (by decide)
  rw [h2, if_neg (by decide)] at h
  cases h3 : memOk C
  · rw [h3, if_pos rfl] at h; exact absurd h (by decide)
  rw [h3, if_neg (by decide)] at h
  cases h4 : chansOk C
  · rw [h4, if_pos rfl] at h; exact absurd h (by decide)
  rfl
theorem chk_parts {C : Cfg} (h : chk C = 0) : C.parts.length ≤ 8 := by
  unfold chk at h
  cases h1 : wi C.pages 5 256
  · rw [h1, if_pos rfl] at h; exact absurd h (by decide)
  rw [h1, if_neg (by decide)] at h
  cases h2 : partsOk C
  · rw [h2, if_pos rfl] at h; exact absurd h (by decide)
  unfold partsOk at h2
  rw [Bool.and_eq_true] at h2
  have := wi_true h2.1
  omega
theorem chok_of {C : Cfg} (h : chansOk C = true) : C.chans.length ≤ 16 ∧ ∀ x ∈ C.chans, ChOk x := by
  unfold chansOk at h
  rw [Bool.and_eq_true, List.all_eq_true] at h
  refine ⟨of_decide_eq_true h.1, fun x hx => ?_⟩
  have := h.2 x hx
  unfold chOk at this
  simp only [Bool.and_eq_true] at this
  obtain ⟨h1, -, -, -, h5, h6, -⟩ := this
  have a := wi_true h1
  have b := wi_true h5
  have c := wi_true h6
  exact ⟨by omega, by omega, by omega⟩

def emT (x : ChanD) : TypeId := if x.kind = 0 then 79 else 82
def emV (x : ChanD) : Array Value := if x.kind = 0 then #[.slice none 0 0] else #[.int .i64 x.depth, .slice none 0 0]
def rowV (l : List ChanD) (bs : Nat → Nat) (k : Nat) : List Value := (List.range k).map (fun i => Value.iface (tyC (chD l i)) (.pointer (some ⟨bs i, 0, none⟩)))
theorem rowV_len (l : List ChanD) (bs : Nat → Nat) (k : Nat) : (rowV l bs k).length = k := by simp [rowV]
theorem rowV_succ (l : List ChanD) (bs : Nat → Nat) (k b : Nat) : rowV l (fun i => if i = k then b else bs i) (k + 1) = rowV l bs k ++ [.iface (tyC (chD l k)) (.pointer (some ⟨b, 0, none⟩))] := by
  unfold rowV
  rw [List.range_succ, List.map_append, List.map_cons, List.map_nil]
  have e : (if k = k then b else bs k) = b := if_pos rfl
  dsimp only
  rw [e]
  congr 1
  apply List.map_congr_left
  intro i hi
  rw [if_neg (by have := List.mem_range.1 hi; omega)]
theorem emT_ne {x : ChanD} {t : TypeId} (h1 : t ≠ 79) (h2 : t ≠ 82) : emT x ≠ t := by
  unfold emT
  split
  · exact fun h => h1 h.symm
  · exact fun h => h2 h.symm

/-- A Net that is being made: its first k channels are there. -/
structure NewL (w wr : World) (n : Nat) (cs : Array Value) (cv : Value) (l : List ChanD) (k : Nat) (v : Value) (bs : Nat → Nat) : Prop where
  csz : cs.size = 6
  box : Box wr n 76 (cs.push v)
  row : wr.ownsRow w.heap.size 85 1 v k (rowV l bs k)
  ch : wr.ownsRow w.heap.size 73 5 cv l.length (l.flatMap chanCells)
  ob : ∀ i, i < k → Box wr (bs i) (emT (chD l i)) (emV (chD l i)) ∧ w.heap.size ≤ bs i
  inj : ∀ i j, i < k → j < k → bs i = bs j → i = j
  hn : w.heap.size ≤ n
  chg : Chg w wr (fun _ => False)

theorem NewL.keep {w wr ws : World} {n : Nat} {cs : Array Value} {cv : Value} {l : List ChanD} {k : Nat} {v : Value} {bs : Nat → Nat} (H : NewL w wr n cs cv l k v bs) (C : Chg wr ws (fun _ => False)) : NewL w ws n cs cv l k v bs :=
  ⟨H.csz, H.box.chg C (fun h => h), own_chg H.row C (fun _ _ h => h), own_chg H.ch C (fun _ _ h => h), fun i hi => ⟨(H.ob i hi).1.chg C (fun h => h), (H.ob i hi).2⟩, H.inj, H.hn, H.chg.trans C⟩

theorem NewL.mid {w wr w1 : World} {n : Nat} {cs : Array Value} {cv : Value} {l : List ChanD} {k : Nat} {v : Value} {bs : Nat → Nat} (H : NewL w wr n cs cv l k v bs) (g : World.grownBy wr w1 v.ownBlock) : Box w1 n 76 (cs.push v) := by
  refine H.box.chg (Chg.of_grown (P := fun b => v.ownBlock = some b) g (fun k hk _ => hk)) (fun h => ?_)
  exact own_ne H.row H.box (by decide) n h rfl

theorem NewL.step {w wr w1 w2 : World} {n : Nat} {cs : Array Value} {cv : Value} {l : List ChanD} {k b : Nat} {v v1 : Value} {bs : Nat → Nat} (H : NewL w wr n cs cv l k v bs) (hb : Box wr b (emT (chD l k)) (emV (chD l k))) (hnew : w.heap.size ≤ b) (hfar : ∀ i, i < k → bs i ≠ b)
    (O : w1.ownsRow w.heap.size 85 1 v1 (k + 1) (rowV l bs k ++ [.iface (tyC (chD l k)) (.pointer (some ⟨b, 0, none⟩))])) (g : World.grownBy wr w1 v.ownBlock) (h2 : w2 = w1.setCell ⟨n, 6, none⟩ v1) :
    NewL w w2 n cs cv l (k + 1) v1 (fun i => if i = k then b else bs i) := by
  have C1 : Chg wr w1 (fun b => v.ownBlock = some b) := Chg.of_grown g (fun k hk _ => hk)
  have B1 := H.mid g
  have C2 : Chg w1 w2 (fun k => k = n) := by rw [h2]; exact (Chg.refl w1 (fun k => k = n)).setCell (p := ⟨n, 6, none⟩) (fun _ => rfl) _
  have hch : ∀ g, cv.ownBlock = some g → ¬ v.ownBlock = some g := fun g hg h => own_own_ne H.ch H.row (by decide) g hg h
  have hob : ∀ {x : ChanD} {c : Nat}, Box wr c (emT x) (emV x) → Box w2 c (emT x) (emV x) := by
    intro x c hc
    refine (hc.chg C1 (fun h => ?_)).chg C2 (fun h => ?_)
    · exact own_ne H.row hc (fun h => emT_ne (by decide) (by decide) h.symm) c h rfl
    · subst h
      exact box_ty H.box hc (fun h => emT_ne (by decide) (by decide) h.symm) rfl
  refine ⟨H.csz, ?_, ?_, ?_, ?_, ?_, H.hn, ?_⟩
  · have := B1.set 6 v1
    rw [← h2] at this
    have e : (cs.push v).setIfInBounds 6 v1 = cs.push v1 := by
      have := H.csz
      apply Array.ext
      · simp
      · intro i h3 h4
        simp only [Array.size_push, Array.size_setIfInBounds] at h3 h4
        rw [Array.getElem_setIfInBounds (by simpa using h4)]
        rw [Array.getElem_push, Array.getElem_push]
        by_cases e : 6 = i
        · subst e; rw [if_pos rfl, dif_neg (by omega)]
        · rw [if_neg e]
          rw [dif_pos (by omega), dif_pos (by omega)]
    rw [e] at this
    exact this
  · rw [rowV_succ]
    exact own_chg O C2 (own_ne O B1 (by decide))
  · exact own_chg (own_chg H.ch C1 hch) C2 (own_ne (own_chg H.ch C1 hch) B1 (by decide))
  · intro i hi
    by_cases e : i = k
    · subst e
      rw [if_pos rfl]
      exact ⟨hob hb, hnew⟩
    · rw [if_neg e]
      exact ⟨hob (H.ob i (by omega)).1, (H.ob i (by omega)).2⟩
  · intro i j hi hj
    by_cases e1 : i = k
    · by_cases e2 : j = k
      · omega
      · rw [if_pos e1, if_neg e2]
        intro h
        exact absurd h.symm (hfar j (by omega))
    · by_cases e2 : j = k
      · rw [if_neg e1, if_pos e2]
        intro h
        exact absurd h (hfar i (by omega))
      · rw [if_neg e1, if_neg e2]
        exact H.inj i j (by omega) (by omega)
  · refine (H.chg.trans' C1 (fun b hb h => ?_)).trans' C2 (fun b hb h => ?_)
    · have := (H.row.lt b h).1; omega
    · have := H.hn; omega

/-- A Net that is whole. -/
theorem NewL.net {w wr : World} {n : Nat} {c0 c1 c2 c3 c5 : Value} {ac ah : Option Addr} {cc hc : Nat} {l : List ChanD} {bs : Nat → Nat} (H : NewL w wr n #[c0, c1, c2, c3, .slice ac l.length cc, c5] (.slice ac l.length cc) l l.length (.slice ah l.length hc) bs) (hl : l.length ≤ 16) (hok : ∀ x ∈ l, ChOk x) :
    NetAt wr (fun b => w.heap.size ≤ b ∧ b < wr.heap.size) ⟨n, l, c0, c1, c2, c3, ac, cc, c5, ah, hc, bs⟩ (fun _ => []) (fun _ => .slice none 0 0) where
  box := H.box
  ls := .inr (own_base H.ch (Nat.zero_le _))
  row := own_base H.row (Nat.zero_le _)
  max := hl
  fn := ⟨H.hn, H.box.lt⟩
  fl := fun _ ad h => H.ch.lt ad.block (by subst h; rfl)
  fr := fun ad h => H.row.lt ad.block (by subst h; rfl)
  fb := fun i hi => ⟨(H.ob i hi).2, (H.ob i hi).1.lt⟩
  lt := fun _ h => h.2
  ne := H.inj
  vne := fun _ _ _ _ _ g hg => by cases hg
  ch := fun i hi => by
    have hx := hok _ (List.getElem_mem hi)
    obtain ⟨hb, -⟩ := H.ob i hi
    rw [chD_at hi] at hb
    refine ⟨hx, QuOk.nil hx, ?_⟩
    rcases hx.kind with hk | hk
    · unfold emT emV at hb
      rw [if_pos hk, if_pos hk] at hb
      exact .inl ⟨hk, hb, .inl ⟨rfl, rfl⟩⟩
    · unfold emT emV at hb
      have hk0 : ¬ l[i].kind = 0 := by rw [hk]; decide
      rw [if_neg hk0, if_neg hk0] at hb
      exact .inr ⟨hk, hb, fun g hg => (by cases hg), [], .inl ⟨rfl, rfl⟩, trivial⟩

/-- What New leaves. -/
def NewR (w w' : World) (C : Cfg) (e : Ending) : Prop :=
  ∃ (F : Nat → Prop) (D : NetD), D.l = C.chans ∧ e = .returned (.tuple #[.pointer (some ⟨D.n, 0, none⟩), .int .i64 0]) ∧ NetAt w' F D (fun _ => []) (fun _ => .slice none 0 0) ∧ Chg w w' (fun _ => False) ∧ ∀ k, F k → w.heap.size ≤ k

theorem check_val {C : Cfg} {ap ac aw : Option Addr} {cp cc cw : Nat} {w : World} (h : CfgAt w C ap ac aw cp cc cw) {v pg mj sw : Int} {a b c : Nat} (hv : chk C = v) (h1 : C.pages = pg) (h2 : C.major = mj) (h3 : C.switch = sw) (ha : C.parts.length = a) (hb : C.chans.length = b) (hc : C.wins.length = c) :
    Calls Try.prog 30 #[.agg #[.int .i64 pg, .int .i64 mj, .int .i64 sw, .slice ap a cp, .slice ac b cc, .slice aw c cw]] w fun e w' => e = .returned (.int .i64 v) ∧ Chg w w' (fun _ => False) := by
  subst hv h1 h2 h3 ha hb hc
  exact check_any w h

set_option maxRecDepth 100000 in
set_option maxHeartbeats 1000000 in
theorem new_no {C : Cfg} {ap ac aw : Option Addr} {cp cc cw : Nat} {w : World} (h : CfgAt w C ap ac aw cp cc cw) {v pg mj sw : Int} {np nc nw : Nat} (hv : chk C = v) (h0 : v ≠ 0) (h1 : C.pages = pg) (h2 : C.major = mj) (h3 : C.switch = sw) (ha : C.parts.length = np) (hb : C.chans.length = nc) (hc : C.wins.length = nw) :
    Calls Try.prog 10 #[.agg #[.int .i64 pg, .int .i64 mj, .int .i64 sw, .slice ap np cp, .slice ac nc cc, .slice aw nw cw]] w fun e w' => e = .returned (.tuple #[.pointer none, .int .i64 v]) ∧ Chg w w' (fun _ => False) := by
  have HC := check_val (h.keep ((Chg.refl w (fun _ => False)).alloc (.cells #[.int .i64 pg, .int .i64 mj, .int .i64 sw, .slice ap np cp, .slice ac nc cc, .slice aw nw cw] 32))) hv h1 h2 h3 ha hb hc
  have b1 : (v != 0) = true := bne_iff_ne.2 h0
  clear hv h1 h2 h3 ha hb hc h
  go_enter Try.func10, Try.ntmps10
  go_wp2_with fail
  refine HC.mono ?_
  rintro e w1 ⟨rfl, C1⟩
  clear HC
  go_wp2_with fail
  go_returns
  exact ⟨rfl, ((Chg.refl w (fun _ => False)).alloc _).trans C1⟩

set_option maxRecDepth 100000 in
set_option maxHeartbeats 4000000 in
theorem new_yes {C : Cfg} {ap ac aw : Option Addr} {cp cc cw : Nat} {w : World} (h : CfgAt w C ap ac aw cp cc cw) {pg mj sw : Int} {np nc nw : Nat} (hv : chk C = 0) (h1 : C.pages = pg) (h2 : C.major = mj) (h3 : C.switch = sw) (ha : C.parts.length = np) (hb : C.chans.length = nc) (hc : C.wins.length = nw) :
    Calls Try.prog 10 #[.agg #[.int .i64 pg, .int .i64 mj, .int .i64 sw, .slice ap np cp, .slice ac nc cc, .slice aw nw cw]] w fun e w' => NewR w w' C e := by
  obtain ⟨hl16, hok⟩ := chok_of (chk_chans hv)
  have hp8 := chk_parts hv
  have HOK := Lib.hid (And.intro hl16 hok)
  rw [ha] at hp8
  rw [hb] at hl16
  have CA : Chg w (w.alloc (.cells #[.int .i64 pg, .int .i64 mj, .int .i64 sw, .slice ap np cp, .slice ac nc cc, .slice aw nw cw] 32)) (fun _ => False) := (Chg.refl w _).alloc _
  have BA := Box.new w 32 #[.int .i64 pg, .int .i64 mj, .int .i64 sw, .slice ap np cp, .slice ac nc cc, .slice aw nw cw]
  have HC := check_val (h.keep CA) hv h1 h2 h3 ha hb hc
  have HPS : Hid (Src w ap np cp (C.parts.flatMap partCells) 3) := by show Src _ _ _ _ _ _; rw [← ha]; exact h.ps.src
  have HCS : Hid (Src w ac nc cc (C.chans.flatMap chanCells) 5) := by show Src _ _ _ _ _ _; rw [← hb]; exact h.cs.src
  have HNC := Lib.hid hb
  have HCA := Lib.hid CA
  have HBA := Lib.hid BA
  obtain ⟨i0, hi0, hz0, hz1, hz2⟩ := info_parts info_chl
  clear hv h1 h2 h3 ha hb hc h hok CA BA
  go_enter Try.func10, Try.ntmps10
  go_wp2_with fail
  refine HC.mono ?_
  rintro e w1 ⟨rfl, C1⟩
  clear HC
  have HC1 := Lib.hid (HCA.out.trans C1)
  have B1 := HBA.out.chg C1 (fun h => h)
  have HB1 := Lib.hid B1
  have b3 := B1.cell 3
  have b4 := B1.cell 4
  clear C1 B1
  go_wp2_with fail
  refine wp_region_noPanic ?_
  refine wp_region_L 7 (fun w' => w'.cell? ⟨w.heap.size, 3, none⟩ = some (.slice ap np cp) ∧ w'.cell? ⟨w.heap.size, 4, none⟩ = some (.slice ac nc cc)) (by kernel_rfl) (⟨b3, b4⟩) (fun hHeld => ?_)
  refine wpAnyL_take (i := 0) (oi := ?oi0) (v := ?v0) ?hi0 (by kernel_rfl) (by kernel_rfl) (by kernel_rfl) (by kernel_rfl) (fun _ _ _ h => h) (Or.inl ⟨?hw0, ?hy0⟩) (by assumption) ?hr0
  case hi0 => simp only [List.getElem?_toArray, List.getElem?_cons_succ, List.getElem?_cons_zero]; rfl
  case hw0 => rfl
  case hy0 => intro wq hSq; (try dsimp only at hSq); go_simp; (try with_reducible rfl)
  try simp only [Act.put, List.setIfInBounds_toArray, List.set_cons_zero, List.set_cons_succ]
  refine wpAnyL_take (i := 1) (oi := ?oi1) (v := ?v1) ?hi1 (by kernel_rfl) (by kernel_rfl) (by kernel_rfl) (by kernel_rfl) (fun _ _ _ h => h) (Or.inl ⟨?hw1, ?hy1⟩) (by assumption) ?hr1
  case hi1 => simp only [List.getElem?_toArray, List.getElem?_cons_succ, List.getElem?_cons_zero]; rfl
  case hw1 => rfl
  case hy1 => intro wq hSq; (try dsimp only at hSq); go_simp; (try with_reducible rfl)
  try simp only [Act.put, List.setIfInBounds_toArray, List.set_cons_zero, List.set_cons_succ]
  refine wpAnyL_take (i := 3) (oi := ?oi3) (v := ?v3) ?hi3 (by kernel_rfl) (by kernel_rfl) (by kernel_rfl) (by kernel_rfl) (fun _ _ _ h => h) (Or.inl ⟨?hw3, ?hy3⟩) (by assumption) ?hr3
  case hi3 => simp only [List.getElem?_toArray, List.getElem?_cons_succ, List.getElem?_cons_zero]; rfl
  case hw3 => rfl
  case hy3 => intro wq hSq; (try dsimp only at hSq); go_simp; (try with_reducible rfl)
  try simp only [Act.put, List.setIfInBounds_toArray, List.set_cons_zero, List.set_cons_succ]
  refine wpAnyL_take (i := 4) (oi := ?oi4) (v := ?v4) ?hi4 (by kernel_rfl) (by kernel_rfl) (by kernel_rfl) (by kernel_rfl) (fun _ _ _ h => h) (Or.inl ⟨?hw4, ?hy4⟩) (by assumption) ?hr4
  case hi4 => simp only [List.getElem?_toArray, List.getElem?_cons_succ, List.getElem?_cons_zero]; rfl
  case hw4 => rfl
  case hy4 => intro wq hSq; (try dsimp only at hSq); go_simp; (try with_reducible rfl)
  try simp only [Act.put, List.setIfInBounds_toArray, List.set_cons_zero, List.set_cons_succ]
  refine wpAnyL_ready (rs := [2]) (by kernel_rfl) (by simp) ?_
  refine AllReadyL.cons rfl (fun K hK => ?_) AllReadyL.nil
  go_simp
  refine (cloneP_any (HPS.out.chg (HC1.out.drew) (fun _ _ h => h)) (partsC_one _) (by omega)).mono ?_
  rintro e w2 ⟨a2, c2, rfl, O2, C2⟩
  replace C2 := C2.drewL
  refine hK.out _ _ (.inl (⟨C2.cell b3 (fun h => h), C2.cell b4 (fun h => h)⟩)) (fun hHeld => ?_)
  replace hHeld := SOr.stands hHeld (by kernel_rfl)
  clear hK K
  try simp only [Act.put, List.setIfInBounds_toArray, List.set_cons_zero, List.set_cons_succ]
  refine wpAnyL_take (i := 6) (oi := ?oic6) (v := ?vc6) ?hic6 (by kernel_rfl) (by kernel_rfl) (by kernel_rfl) (by kernel_rfl) (fun _ _ _ h => h) (Or.inl ⟨?hwc6, ?hyc6⟩) (by assumption) ?hrc6
  case hic6 => simp only [List.getElem?_toArray, List.getElem?_cons_succ, List.getElem?_cons_zero]; rfl
  case hwc6 => rfl
  case hyc6 => intro wq hSq; (try dsimp only at hSq); go_simp; (try with_reducible rfl)
  try simp only [Act.put, List.setIfInBounds_toArray, List.set_cons_zero, List.set_cons_succ]
  refine wpAnyL_ready (rs := [5]) (by kernel_rfl) (by simp) ?_
  refine AllReadyL.cons rfl (fun K hK => ?_) AllReadyL.nil
  go_simp
  refine (cloneC_any (HCS.out.chg (HC1.out.trans C2) (fun _ _ h => h)) (chansC_one _) (by omega)).mono ?_
  rintro e w3 ⟨a3, c3, rfl, O3, C3⟩
  refine hK.out _ _ (.inl (⟨C3.cell (C2.cell b3 (fun h => h)) (fun h => h), C3.cell (C2.cell b4 (fun h => h)) (fun h => h)⟩)) (fun hHeld => ?_)
  replace hHeld := SOr.stands hHeld (by kernel_rfl)
  clear hK K
  try simp only [Act.put, List.setIfInBounds_toArray, List.set_cons_zero, List.set_cons_succ]
  refine wpAnyL_tail (l := [8, 9]) (by kernel_rfl) (by kernel_rfl) ?_
  simp only [tailOps, List.filterMap_cons, List.filterMap_nil, List.getElem?_toArray, List.getElem?_cons_succ, List.getElem?_cons_zero]
  clear hHeld b3 b4
  have HC13 := Lib.hid (C2.trans C3)
  have HCW := Lib.hid (HC1.out.trans HC13.out)
  have B3 := HB1.out.chg HC13.out (fun h => h)
  have HB3 := Lib.hid B3
  have f3 := B3.frozen 3
  have f4 := B3.frozen 4
  have c3_ := B3.cell 3
  have c4_ := B3.cell 4
  have x0 := B3.cell 0
  have x1 := B3.cell 1
  have x2 := B3.cell 2
  have x5 := B3.cell 5
  have hw3 := B3.lt
  have HO3 := Lib.hid (own_base O3 (Nat.le_trans HC1.out.size C2.size))
  clear O2 O3 C2 C3 B3
  go_wp2_with fail
  refine NoPanic.normal ?_
  have OC := own_ne HO3.out HB3.out (by decide)
  have CS : Chg w3 ((w3.setCell ⟨w.heap.size, 3, none⟩ (.slice a2 np c2)).setCell ⟨w.heap.size, 4, none⟩ (.slice a3 nc c3)) (fun k => k = w.heap.size) := ((Chg.refl w3 (fun k => k = w.heap.size)).setCell (p := ⟨w.heap.size, 3, none⟩) (fun _ => rfl) _).setCell (p := ⟨w.heap.size, 4, none⟩) (fun _ => rfl) _
  have BS := (HB3.out.set 3 (.slice a2 np c2)).set 4 (.slice a3 nc c3)
  have OS := own_chg HO3.out CS OC
  have CW : Chg w ((w3.setCell ⟨w.heap.size, 3, none⟩ (.slice a2 np c2)).setCell ⟨w.heap.size, 4, none⟩ (.slice a3 nc c3)) (fun _ => False) := HCW.out.trans' CS (fun k hk h => by omega)
  generalize (w3.setCell ⟨w.heap.size, 3, none⟩ (.slice a2 np c2)).setCell ⟨w.heap.size, 4, none⟩ (.slice a3 nc c3) = w4 at *
  have BS' : Box w4 w.heap.size 32 #[.int .i64 pg, .int .i64 mj, .int .i64 sw, .slice a2 np c2, .slice a3 nc c3, .slice aw nw cw] := BS
  have y0 := BS'.cell 0
  have y1 := BS'.cell 1
  have y2 := BS'.cell 2
  have y3 := BS'.cell 3
  have y4 := BS'.cell 4
  have y5 := BS'.cell 5
  have hw4 := BS'.lt
  have HOS := Lib.hid OS
  have HCW4 := Lib.hid CW
  have hbase := CW.size
  clear f3 f4 c3_ c4_ x0 x1 x2 x5 CS BS BS' OS CW OC hw3
  go_wp2_with fail
  go_loopg [27] nc (fun g s27 wr => ∃ (k : Nat) (v : Value) (bs : Nat → Nat), g + k = nc ∧ s27 = .int .i64 k ∧ NewL w wr w4.heap.size #[.int .i64 pg, .int .i64 mj, .int .i64 sw, .slice a2 np c2, .slice a3 nc c3, .slice aw nw cw] (.slice a3 nc c3) C.chans k v bs)
  case atStart =>
    refine ⟨0, .slice none 0 0, fun _ => 0, rfl, rfl, rfl, Box.new _ _ _, World.ownsRow_nil _ _ _ _, ?_, fun i hi => absurd hi (by omega), fun i j hi => absurd hi (by omega), hbase, HCW4.out.alloc _⟩
    rw [HNC.out]
    exact own_alloc HOS.out _
  case round =>
    obtain ⟨k, v, bs, hk, rfl, H⟩ := hrel
    have HK := Lib.hid hk
    have HH := Lib.hid H
    by_cases hlt : k < nc
    · have hlt2 : k < C.chans.length := by rw [HNC.out]; exact hlt
      have hch := H.ch
      rw [HNC.out] at hch
      obtain ⟨gc, cc3, ea, -, hgc, hcc1, hcc2⟩ := own_block hch (by omega)
      injection ea with ea _ ec
      subst ec
      have hls := own_lst hch
      rw [ea] at hls
      have d0 := Lst.cell0 (n := 5) (f := chanCells) (fun _ => rfl) hls k (by decide) hlt2 rfl
      have d1 := Lst.cell (n := 5) (f := chanCells) (fun _ => rfl) hls k 1 (by decide) hlt2 rfl
      have d2 := Lst.cell (n := 5) (f := chanCells) (fun _ => rfl) hls k 2 (by decide) hlt2 rfl
      have d3 := Lst.cell (n := 5) (f := chanCells) (fun _ => rfl) hls k 3 (by decide) hlt2 rfl
      have d4 := Lst.cell (n := 5) (f := chanCells) (fun _ => rfl) hls k 4 (by decide) hlt2 rfl
      simp only [Nat.zero_add] at d0 d1 d2 d3 d4
      have hkd := (HOK.out.2 _ (List.getElem_mem hlt2)).kind
      have hcd := chD_at hlt2
      obtain ⟨x, hx⟩ : ∃ x, C.chans[k] = x := ⟨_, rfl⟩
      rw [hx] at d0 d1 d2 d3 d4 hkd hcd
      have HX := Lib.hid hcd
      have q6 : wr.cell? ⟨w4.heap.size, 6, none⟩ = some v := H.box.cell 6
      have f6 := H.box.frozen 6
      have hnl := H.box.lt
      have hsz := H.chg.size
      obtain ⟨av, cv, rfl, hv1, hv2, hv3, hv4⟩ := own_form H.row
      have hvb : ∀ ad, av = some ad → ad.block < wr.heap.size := fun ad e => by obtain ⟨g, rfl, -, h⟩ := hv4 ad e; exact h
      have HV := Lib.hid hvb
      have hob := Lib.hid (fun i (hi : i < k) => (H.ob i hi).1.lt)
      have HEA := Lib.hid ea
      clear hx hls hch hcd H hk hv2 hv3 hv4 hvb ea
      rw [HEA.out]
      rcases hkd with hkd | hkd
      · obtain ⟨x0, x1, x2, x3, x4⟩ := x
        dsimp only at d0 d1 d2 d3 d4 hkd
        subst hkd
        have O0 := own_alloc (own_alloc (own_alloc HH.out.row (.cells #[.int .i64 0, .int .i64 x1, .int .i64 x2, .int .i64 x3, .int .i64 x4] 73)) (.cells #[.slice none 0 0] 79)) (.cells #[.iface 77 (.pointer (some ⟨wr.heap.size + 1, 0, none⟩))] 85)
        have SB := (Box.new ((wr.alloc (.cells #[.int .i64 0, .int .i64 x1, .int .i64 x2, .int .i64 x3, .int .i64 x4] 73)).alloc (.cells #[.slice none 0 0] 79)) 85 #[.iface 77 (.pointer (some ⟨wr.heap.size + 1, 0, none⟩))]).src 1 1 1 _ rfl rfl
        rw [show ((wr.alloc (.cells #[.int .i64 0, .int .i64 x1, .int .i64 x2, .int .i64 x3, .int .i64 x4] 73)).alloc (.cells #[.slice none 0 0] 79)).heap.size = wr.heap.size + 1 + 1 from by simp] at SB
        have BN := (Box.new (wr.alloc (.cells #[.int .i64 0, .int .i64 x1, .int .i64 x2, .int .i64 x3, .int .i64 x4] 73)) 79 #[.slice none 0 0]).alloc (.cells #[.iface 77 (.pointer (some ⟨wr.heap.size + 1, 0, none⟩))] 85)
        rw [show (wr.alloc (.cells #[.int .i64 0, .int .i64 x1, .int .i64 x2, .int .i64 x3, .int .i64 x4] 73)).heap.size = wr.heap.size + 1 from by simp] at BN
        have HBN := Lib.hid BN
        have HO0 := Lib.hid O0
        have HSB := Lib.hid SB
        clear O0 SB BN
        go_wp2_with (at_builtin; go_loud (refine wpList_append_src _ rfl (.tmp 38) (.tmp 42) _ rfl w.heap.size 85 i0 _ 1 16 Try.underlying74 hi0 hz0 hz1 hz2 rfl (by omega) _ k _ rfl HO0.out _ 1 1 _ rfl HSB.out (by intro u hu; simp only [List.mem_singleton] at hu; subst hu; rfl) (by unfold maxLen; omega) (by omega) (by simp; omega) ?_); go_loud (intro v1 w5 O5 g5); go_loud (refine ?roundEnd))
        case roundEnd =>
          have CA : Chg wr (((wr.alloc (.cells #[.int .i64 0, .int .i64 x1, .int .i64 x2, .int .i64 x3, .int .i64 x4] 73)).alloc (.cells #[.slice none 0 0] 79)).alloc (.cells #[.iface 77 (.pointer (some ⟨wr.heap.size + 1, 0, none⟩))] 85)) (fun _ => False) := (((Chg.refl wr _).alloc _).alloc _).alloc _
          have HA := HH.out.keep CA
          have B5 := HA.mid g5
          obtain ⟨a5, c5, rfl, -⟩ := own_form O5
          have HO5 := Lib.hid O5
          have HG5 := Lib.hid g5
          have HHA := Lib.hid HA
          have x6 := B5.cell 6
          have fz := B5.frozen 6
          have hn5 := B5.lt
          clear O5 g5 HA CA B5 d0 d1 d2 d3 d4 q6 f6
          go_wp2_with fail
          rw [← HEA.out]
          go_roundg (gk - 1)
          case measure => have := HK.out; omega
          case rel => exact ⟨k + 1, _, _, by have := HK.out; omega, by go_num, HHA.out.step (b := wr.heap.size + 1) (by rw [HX.out]; exact HBN.out) (by omega) (fun i hi e => by have := hob.out i hi; omega) (by rw [HX.out]; exact HO5.out) HG5.out rfl⟩
      · obtain ⟨x0, x1, x2, x3, x4⟩ := x
        dsimp only at d0 d1 d2 d3 d4 hkd
        subst hkd
        go_upto_region 11 with fail
        obtain ⟨W0, hW0⟩ : ∃ W, wr.alloc (.cells #[.int .i64 1, .int .i64 x1, .int .i64 x2, .int .i64 x3, .int .i64 x4] 73) = W := ⟨_, rfl⟩
        have CW0 : Chg wr W0 (fun _ => False) := by rw [← hW0]; exact (Chg.refl wr _).alloc _
        have BX : Box W0 wr.heap.size 73 #[.int .i64 1, .int .i64 x1, .int .i64 x2, .int .i64 x3, .int .i64 x4] := by rw [← hW0]; exact Box.new _ _ _
        have hW0s : W0.heap.size = wr.heap.size + 1 := by rw [← hW0]; simp
        rw [hW0]
        have HCW0 := Lib.hid CW0
        have HBX := Lib.hid BX
        have HWS := Lib.hid hW0s
        have u6 := CW0.cell q6 (fun h => h)
        have u4 := BX.cell 4
        have hnW : w4.heap.size < W0.heap.size := by omega
        have hxW := BX.lt
        clear hW0 hW0s CW0 BX d0 d1 d2 d3 d4 q6 f6
        refine wp_region_noPanic ?_
        refine wp_region_L 12 (fun w' => w'.cell? ⟨w4.heap.size, 6, none⟩ = some (.slice av k cv) ∧ w'.cell? ⟨wr.heap.size, 4, none⟩ = some (.int .i64 x4)) (by kernel_rfl) (⟨u6, u4⟩) (fun hHeld => ?_)
        refine wpAnyL_take (i := 0) (oi := ?oib0) (v := ?vb0) ?hib0 (by kernel_rfl) (by kernel_rfl) (by kernel_rfl) (by kernel_rfl) (fun _ _ _ h => h) (Or.inl ⟨?hwb0, ?hyb0⟩) (by assumption) ?hrb0
        case hib0 => simp only [List.getElem?_toArray, List.getElem?_cons_succ, List.getElem?_cons_zero]; rfl
        case hwb0 => rfl
        case hyb0 => intro wq hSq; (try dsimp only at hSq); go_simp; (try with_reducible rfl)
        try simp only [Act.put, List.setIfInBounds_toArray, List.set_cons_zero, List.set_cons_succ]
        refine wpAnyL_take (i := 1) (oi := ?oib1) (v := ?vb1) ?hib1 (by kernel_rfl) (by kernel_rfl) (by kernel_rfl) (by kernel_rfl) (fun _ _ _ h => h) (Or.inl ⟨?hwb1, ?hyb1⟩) (by assumption) ?hrb1
        case hib1 => simp only [List.getElem?_toArray, List.getElem?_cons_succ, List.getElem?_cons_zero]; rfl
        case hwb1 => rfl
        case hyb1 => intro wq hSq; (try dsimp only at hSq); go_simp; (try with_reducible rfl)
        try simp only [Act.put, List.setIfInBounds_toArray, List.set_cons_zero, List.set_cons_succ]
        refine wpAnyL_take (i := 2) (oi := ?oib2) (v := ?vb2) ?hib2 (by kernel_rfl) (by kernel_rfl) (by kernel_rfl) (by kernel_rfl) (fun _ _ _ h => h) (Or.inl ⟨?hwb2, ?hyb2⟩) (by assumption) ?hrb2
        case hib2 => simp only [List.getElem?_toArray, List.getElem?_cons_succ, List.getElem?_cons_zero]; rfl
        case hwb2 => rfl
        case hyb2 => intro wq hSq; (try dsimp only at hSq); go_simp; (try with_reducible rfl)
        try simp only [Act.put, List.setIfInBounds_toArray, List.set_cons_zero, List.set_cons_succ]
        refine wpAnyL_take (i := 3) (oi := ?oib3) (v := ?vb3) ?hib3 (by kernel_rfl) (by kernel_rfl) (by kernel_rfl) (by kernel_rfl) (fun _ _ _ h => h) (Or.inl ⟨?hwb3, ?hyb3⟩) (by assumption) ?hrb3
        case hib3 => simp only [List.getElem?_toArray, List.getElem?_cons_succ, List.getElem?_cons_zero]; rfl
        case hwb3 => rfl
        case hyb3 => intro wq hSq; (try dsimp only at hSq); go_simp; (try with_reducible rfl)
        try simp only [Act.put, List.setIfInBounds_toArray, List.set_cons_zero, List.set_cons_succ]
        refine wpAnyL_take (i := 4) (oi := ?oib4) (v := ?vb4) ?hib4 (by kernel_rfl) (by kernel_rfl) (by kernel_rfl) (by kernel_rfl) (fun _ _ _ h => h) (Or.inl ⟨?hwb4, ?hyb4⟩) (by assumption) ?hrb4
        case hib4 => simp only [List.getElem?_toArray, List.getElem?_cons_succ, List.getElem?_cons_zero]; rfl
        case hwb4 => rfl
        case hyb4 => intro wq hSq; (try dsimp only at hSq); go_simp; (try with_reducible rfl)
        try simp only [Act.put, List.setIfInBounds_toArray, List.set_cons_zero, List.set_cons_succ]
        refine wpAnyL_take (i := 5) (oi := ?oib5) (v := ?vb5) ?hib5 (by kernel_rfl) (by kernel_rfl) (by kernel_rfl) (by kernel_rfl) (fun _ _ _ h => h) (Or.inl ⟨?hwb5, ?hyb5⟩) (by assumption) ?hrb5
        case hib5 => simp only [List.getElem?_toArray, List.getElem?_cons_succ, List.getElem?_cons_zero]; rfl
        case hwb5 => rfl
        case hyb5 => intro wq hSq; (try dsimp only at hSq); go_simp; (try with_reducible rfl)
        try simp only [Act.put, List.setIfInBounds_toArray, List.set_cons_zero, List.set_cons_succ]
        refine wpAnyL_take (i := 6) (oi := ?oib6) (v := ?vb6) ?hib6 (by kernel_rfl) (by kernel_rfl) (by kernel_rfl) (by kernel_rfl) (fun _ _ _ h => h) (Or.inl ⟨?hwb6, ?hyb6⟩) (by assumption) ?hrb6
        case hib6 => simp only [List.getElem?_toArray, List.getElem?_cons_succ, List.getElem?_cons_zero]; rfl
        case hwb6 => rfl
        case hyb6 => intro wq hSq; (try dsimp only at hSq); go_simp; (try with_reducible rfl)
        try simp only [Act.put, List.setIfInBounds_toArray, List.set_cons_zero, List.set_cons_succ]
        refine wpAnyL_take (i := 7) (oi := ?oib7) (v := ?vb7) ?hib7 (by kernel_rfl) (by kernel_rfl) (by kernel_rfl) (by kernel_rfl) (fun _ _ _ h => h) (Or.inl ⟨?hwb7, ?hyb7⟩) (by assumption) ?hrb7
        case hib7 => simp only [List.getElem?_toArray, List.getElem?_cons_succ, List.getElem?_cons_zero]; rfl
        case hwb7 => rfl
        case hyb7 => intro wq hSq; (try dsimp only at hSq); go_simp; (try with_reducible rfl)
        try simp only [Act.put, List.setIfInBounds_toArray, List.set_cons_zero, List.set_cons_succ]
        refine wpAnyL_ready (rs := [8]) (by kernel_rfl) (by simp) ?_
        refine AllReadyL.cons rfl (fun K hK => ?_) AllReadyL.nil
        go_simp
        have CB : Chg W0 (W0.alloc (.cells #[.int .i64 x4, .slice none 0 0] 82)).drew (fun _ => False) := ((Chg.refl W0 _).alloc _).drew
        have BN : Box (W0.alloc (.cells #[.int .i64 x4, .slice none 0 0] 82)).drew W0.heap.size 82 #[.int .i64 x4, .slice none 0 0] := (Box.new W0 _ _).drew
        refine hK.out _ _ (.inl (⟨CB.cell u6 (fun h => h), CB.cell u4 (fun h => h)⟩)) (fun hHeld => ?_)
        replace hHeld := SOr.stands hHeld (by kernel_rfl)
        clear hK K
        try simp only [Act.put, List.setIfInBounds_toArray, List.set_cons_zero, List.set_cons_succ]
        refine wpAnyL_take (i := 9) (oi := ?oib9) (v := ?vb9) ?hib9 (by kernel_rfl) (by kernel_rfl) (by kernel_rfl) (by kernel_rfl) (fun _ _ _ h => h) (Or.inl ⟨?hwb9, ?hyb9⟩) (by assumption) ?hrb9
        case hib9 => simp only [List.getElem?_toArray, List.getElem?_cons_succ, List.getElem?_cons_zero]; rfl
        case hwb9 => rfl
        case hyb9 => intro wq hSq; (try dsimp only at hSq); go_simp; (try with_reducible rfl)
        try simp only [Act.put, List.setIfInBounds_toArray, List.set_cons_zero, List.set_cons_succ]
        refine wpAnyL_ready (rs := [10]) (by kernel_rfl) (by simp) ?_
        refine AllReadyL.cons rfl (fun K hK => ?_) AllReadyL.nil
        go_simp
        have CB2 : Chg W0 ((W0.alloc (.cells #[.int .i64 x4, .slice none 0 0] 82)).alloc (.cells #[.iface 80 (.pointer (some ⟨W0.heap.size, 0, none⟩))] 85)).drew (fun _ => False) := (((Chg.refl W0 _).alloc _).alloc _).drew
        have SB := (Box.new (W0.alloc (.cells #[.int .i64 x4, .slice none 0 0] 82)) 85 #[.iface 80 (.pointer (some ⟨W0.heap.size, 0, none⟩))]).drew.src 1 1 1 _ rfl rfl
        rw [show (W0.alloc (.cells #[.int .i64 x4, .slice none 0 0] 82)).heap.size = W0.heap.size + 1 from by simp] at SB
        have BN2 : Box ((W0.alloc (.cells #[.int .i64 x4, .slice none 0 0] 82)).alloc (.cells #[.iface 80 (.pointer (some ⟨W0.heap.size, 0, none⟩))] 85)).drew W0.heap.size 82 #[.int .i64 x4, .slice none 0 0] := ((Box.new W0 _ _).alloc _).drew
        have HA := HH.out.keep (HCW0.out.trans CB2)
        have BX2 := HBX.out.chg CB2 (fun h => h)
        refine hK.out _ _ (.inl (⟨CB2.cell u6 (fun h => h), CB2.cell u4 (fun h => h)⟩)) (fun hHeld => ?_)
        replace hHeld := SOr.stands hHeld (by kernel_rfl)
        clear hK K
        try simp only [Act.put, List.setIfInBounds_toArray, List.set_cons_zero, List.set_cons_succ]
        refine wpAnyL_ready (rs := [11]) (by kernel_rfl) (by simp) ?_
        refine AllReadyL.cons rfl (fun K hK => ?_) AllReadyL.nil
        refine op_append_at (.tmp 50) (.tmp 56) _ rfl w.heap.size 85 i0 _ 1 16 Try.underlying74 hi0 hz0 hz1 hz2 rfl (by omega) _ k _ rfl HA.row ⟨W0.heap.size + 1, 0, none⟩ 1 1 _ rfl SB (by intro u hu; simp only [List.mem_singleton] at hu; subst hu; rfl) (by unfold maxLen; omega) (by omega) (by have := HA.chg.size; omega) ?_
        intro v1 w5 O5 g5 _
        have B5 := HA.mid g5
        have X5 := BX2.chg (Chg.of_grown (P := fun b => (Value.slice av k cv).ownBlock = some b) g5 (fun k hk _ => hk)) (fun h => own_ne HA.row BX2 (by decide) _ h rfl)
        obtain ⟨a5, c5, rfl, -⟩ := own_form O5
        change K (Act.put _ (some 57) _) _
        simp only [Act.put, List.setIfInBounds_toArray, List.set_cons_zero, List.set_cons_succ]
        refine hK.out _ _ (.inl (⟨B5.cell 6, X5.cell 4⟩)) (fun hHeld => ?_)
        replace hHeld := SOr.stands hHeld (by kernel_rfl)
        clear hK K
        try simp only [Act.put, List.setIfInBounds_toArray, List.set_cons_zero, List.set_cons_succ]
        refine wpAnyL_tail (l := [13, 14]) (by kernel_rfl) (by kernel_rfl) ?_
        simp only [tailOps, List.filterMap_cons, List.filterMap_nil, List.getElem?_toArray, List.getElem?_cons_succ, List.getElem?_cons_zero]
        clear hHeld u6 u4
        have HO5 := Lib.hid O5
        have HG5 := Lib.hid g5
        have HHA := Lib.hid HA
        have HBN := Lib.hid BN2
        have x6 := B5.cell 6
        have fz := B5.frozen 6
        have hn5 := B5.lt
        clear O5 g5 HA B5 X5 BX2 BN2 SB CB2 CB BN
        go_wp2_with fail
        refine NoPanic.normal ?_
        go_wp2_with fail
        rw [← HEA.out]
        go_roundg (gk - 1)
        case measure => have := HK.out; omega
        case rel => exact ⟨k + 1, _, _, by have := HK.out; omega, by go_num, HHA.out.step (b := W0.heap.size) (by rw [HX.out]; exact HBN.out) (by have := HWS.out; omega) (fun i hi e => by have := hob.out i hi; have := HWS.out; omega) (by rw [HX.out]; exact HO5.out) HG5.out rfl⟩
    · obtain rfl : nc = k := by omega
      have hnl := H.box.lt
      clear hk H
      go_wp2_with fail
      go_returns
      obtain ⟨av, cv, rfl, -⟩ := own_form HH.out.row
      have hN := HNC.out
      subst hN
      exact ⟨_, _, rfl, rfl, HH.out.net HOK.out.1 HOK.out.2, HH.out.chg, fun k hk => hk.1⟩
end Go.Proofs.Ytiedfglkjkaefaa

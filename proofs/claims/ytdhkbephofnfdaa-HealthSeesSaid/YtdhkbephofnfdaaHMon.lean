/- health: a monitor in memory; its notes, its counts. -/
import Derived.Test.YtdhkbephofnfdaaHPlain
import Derived.Test.YtdhkbephofnfdaaOwn2
import Derived.Test.YtdhkbephofnfdaaInv
import Derived.Test.YtdhkbephofnfdaaLast
import Derived.Test.YtdhkbephofnfdaaApp
import Derived.BigQuiet
import Derived.Deep.DeepCutAuto
namespace Go.Proofs.Ytdhkbephofnfdaa
open Go.RowKit

theorem flat_set1 {α : Type} (f : α → List Value) (n : Nat) (hf : ∀ x, (f x).length = n) (v : Value) : ∀ (l : List α) (k j : Nat) (y : α) (hk : k < l.length), j < n → f y = (f l[k]).set j v → (l.flatMap f).set (k * n + j) v = (l.set k y).flatMap f
  | [], k, _, _, hk, _, _ => by simp at hk
  | x :: l, 0, j, y, _, hj, hy => by
    have hy' : f y = (f x).set j v := hy
    rw [List.set_cons_zero, List.flatMap_cons, List.flatMap_cons, hy', Nat.zero_mul, Nat.zero_add, List.set_append_left _ _ (by rw [hf]; exact hj)]
  | x :: l, k + 1, j, y, hk, hj, hy => by
    have hk' : k < l.length := by simpa using hk
    rw [List.set_cons_succ, List.flatMap_cons, List.flatMap_cons, ← flat_set1 f n hf v l k j y hk' hj hy, List.set_append_right _ _ (by rw [hf, Nat.succ_mul]; omega), hf]
    congr 2
    rw [Nat.succ_mul]
    omega

def phCells (p : PartH) : List Value := [.int .i64 p.act, .bool p.stays, .int .i64 p.cnt]
def evCells (e : EvH) : List Value := [.int .i64 e.tick, .int .i64 e.part, .int .i64 e.what]
theorem ph_len (p : PartH) : (phCells p).length = 3 := rfl
theorem ev_len (p : EvH) : (evCells p).length = 3 := rfl
theorem ph_one (l : List PartH) : ∀ u ∈ l.flatMap phCells, u.oneCell' = true := by
  intro u hu
  obtain ⟨p, _, h⟩ := List.mem_flatMap.1 hu
  simp only [phCells, List.mem_cons, List.not_mem_nil, or_false] at h
  rcases h with rfl | rfl | rfl <;> rfl
theorem ev_one (l : List EvH) : ∀ u ∈ l.flatMap evCells, u.oneCell' = true := by
  intro u hu
  obtain ⟨p, _, h⟩ := List.mem_flatMap.1 hu
  simp only [evCells, List.mem_cons, List.not_mem_nil, or_false] at h
  rcases h with rfl | rfl | rfl <;> rfl
theorem info_ev : (Try.prog.info? 68).map (fun i => (i.zero, i.size, i.bytes)) = some (some (.agg #[.int .i64 0, .int .i64 0, .int .i64 0]), 3, 24) := by kernel_rfl
theorem info_ph : (Try.prog.info? 93).map (fun i => (i.zero, i.size, i.bytes)) = some (some (.agg #[.int .i64 0, .bool false, .int .i64 0]), 3, 24) := by kernel_rfl

/-- An own row's cell. -/
theorem own_cell3 {α : Type} {f : α → List Value} (hf : ∀ x, (f x).length = 3) {w : World} {base g cap n : Nat} {e : TypeId} {l : List α} (h : w.ownsRow base e 3 (.slice (some ⟨g, 0, none⟩) n cap) n (l.flatMap f)) (k j : Nat) (hj : j < 3) (hk : k < l.length) {v : Value} (hv : (f l[k])[j]? = some v) :
    w.cell? ⟨g, k * 3 + j, none⟩ = some v :=
  own_cells h (k * 3 + j) v (by rw [flat_get f 3 hf l k j hj hk]; exact hv)

/-- A monitor: its blocks are some of B. -/
structure MonIs (w : World) (B : Nat → Prop) (g : Nat) (S : HS) (ap ar : Option Addr) (cp cr first : Nat) (ring : List EvH) : Prop where
  box : Box w g 91 #[.slice ap S.ps.length cp, .slice ar ring.length cr, .int .i64 (first : Nat)]
  parts : w.ownsRow 0 93 3 (.slice ap S.ps.length cp) S.ps.length (S.ps.flatMap phCells)
  events : w.ownsRow 0 68 3 (.slice ar ring.length cr) ring.length (ring.flatMap evCells)
  rg : Ring ring first S.evs
  bg : B g
  bp : ∀ b, (Value.slice ap S.ps.length cp).ownBlock = some b → B b
  be : ∀ b, (Value.slice ar ring.length cr).ownBlock = some b → B b
def MonAt (w : World) (B : Nat → Prop) (g : Nat) (S : HS) : Prop := ∃ ap ar cp cr first ring, MonIs w B g S ap ar cp cr first ring

theorem MonIs.chg {w w' : World} {B P : Nat → Prop} {g : Nat} {S : HS} {ap ar : Option Addr} {cp cr first : Nat} {ring : List EvH} (h : MonIs w B g S ap ar cp cr first ring) (c : Chg w w' P) (hp : ∀ k, P k → ¬ B k) : MonIs w' B g S ap ar cp cr first ring :=
  ⟨h.box.chg c (fun hk => hp _ hk h.bg), own_chg h.parts c (fun b hb hk => hp _ hk (h.bp b hb)), own_chg h.events c (fun b hb hk => hp _ hk (h.be b hb)), h.rg, h.bg, h.bp, h.be⟩
theorem MonAt.chg {w w' : World} {B P : Nat → Prop} {g : Nat} {S : HS} (h : MonAt w B g S) (c : Chg w w' P) (hp : ∀ k, P k → ¬ B k) : MonAt w' B g S := by
  obtain ⟨ap, ar, cp, cr, first, ring, h⟩ := h
  exact ⟨ap, ar, cp, cr, first, ring, h.chg c hp⟩
theorem MonAt.keep {w w' : World} {B : Nat → Prop} {g : Nat} {S : HS} (h : MonAt w B g S) (c : Chg w w' (fun _ => False)) : MonAt w' B g S := h.chg c (fun _ h => h.elim)
theorem MonAt.mono {w : World} {B B' : Nat → Prop} {g : Nat} {S : HS} (h : MonAt w B g S) (hb : ∀ k, B k → B' k) : MonAt w B' g S := by
  obtain ⟨ap, ar, cp, cr, first, ring, h⟩ := h
  exact ⟨ap, ar, cp, cr, first, ring, h.box, h.parts, h.events, h.rg, hb _ h.bg, fun b e => hb _ (h.bp b e), fun b e => hb _ (h.be b e)⟩

def evV (e : EvH) : Value := .agg #[.int .i64 e.tick, .int .i64 e.part, .int .i64 e.what]

set_option maxRecDepth 100000 in
set_option maxHeartbeats 1600000 in
theorem note_any (w : World) (B : Nat → Prop) (g : Nat) (S : HS) (n : Nat) (e : EvH) (h : MonAt w B g S) (hn : n < S.ps.length) (he : e.part = n) (h8 : S.ps.length ≤ 8) (hc : 0 ≤ (S.ps.getD n default).cnt ∧ (S.ps.getD n default).cnt ≤ 1000000) :
    Calls Try.prog 49 #[.pointer (some ⟨g, 0, none⟩), evV e] w fun r w' => r = .returned (.tuple #[]) ∧
      MonAt w' (fun k => B k ∨ w.heap.size ≤ k) g ⟨S.ps.set n { S.ps.getD n default with cnt := (S.ps.getD n default).cnt + 1 }, pushE S.evs e⟩ ∧ Chg w w' B := by
  obtain ⟨i0, hi0, hz0, hz1, hz2⟩ := info_parts info_ev
  obtain ⟨ap, ar, cp, cr, first, ring, H⟩ := h
  obtain ⟨tk, pt, wh⟩ := e
  change pt = (n : Int) at he
  subst he
  obtain ⟨gp, cp', hv, _, hgp, _, _⟩ := own_block H.parts (by omega)
  injection hv with e1 e2 e3
  subst e1 e3
  have hpn : S.ps.getD n default = S.ps[n] := by rw [List.getD_eq_getElem?_getD, List.getElem?_eq_getElem hn]; rfl
  rw [hpn] at hc ⊢
  obtain ⟨p, hp⟩ : ∃ p, S.ps[n] = p := ⟨_, rfl⟩
  rw [hp] at hc ⊢
  have hcnt : w.cell? ⟨gp, n * 3 + 2, none⟩ = some (.int .i64 p.cnt) := own_cell3 ph_len H.parts n 2 (by decide) hn (by rw [hp]; rfl)
  have hfz := own_frozen H.parts (n * 3 + 2)
  have HH := Lib.hid H
  have g0 := H.box.cell 0
  have g1 := H.box.cell 1
  have g2 := H.box.cell 2
  have hg := H.box.lt
  have n0 : (0 : Int) ≤ (n : Int) := by omega
  have n1 : (n : Int) < (S.ps.length : Int) := by omega
  have iw : IntKind.i64.wrap (p.cnt + 1) = p.cnt + 1 := IntWalk.i64_in _ (by omega)
  unfold evV
  go_enter Try.func49, Try.ntmps49
  go_wp2_with fail
  obtain ⟨q, hq⟩ : ∃ q, w.heap.size = q := ⟨_, rfl⟩
  obtain ⟨W0, hW0⟩ : ∃ W, w.alloc (.cells #[.int .i64 tk, .int .i64 n, .int .i64 wh] 68) = W := ⟨_, rfl⟩
  have C0 : Chg w W0 (fun _ => False) := by rw [← hW0]; exact (Chg.refl w _).alloc _
  have BE : Box W0 q 68 #[.int .i64 tk, .int .i64 n, .int .i64 wh] := by rw [← hW0, ← hq]; exact Box.new w _ _
  have hqs : q < W0.heap.size := BE.lt
  rw [hW0, hq]
  clear hW0
  have hgq : g ≠ q := by omega
  have hgpq : gp ≠ q := by omega
  have HBE := Lib.hid BE
  have y0 := C0.cell g0 (fun h => h)
  have y1 := C0.cell hcnt (fun h => h)
  have fz1 : W0.frozen? ⟨gp, n * 3 + 2, none⟩ = false := (C0.frozen hcnt (fun h => h)).trans hfz
  have y2 := BE.cell 1
  clear g0 g1 g2 hcnt hfz BE
  refine wp_region_noPanic ?_
  refine wp_region_L 12 (fun w' => w'.cell? ⟨g, 0, none⟩ = some (.slice (some ⟨gp, 0, none⟩) S.ps.length cp) ∧ w'.cell? ⟨q, 1, none⟩ = some (.int .i64 n) ∧ w'.cell? ⟨gp, n * 3 + 2, none⟩ = some (.int .i64 p.cnt)) (by kernel_rfl) (⟨y0, y2, y1⟩) (fun hHeld => ?_)
  refine wpAnyL_take (i := 0) (oi := ?oi0) (v := ?v0) ?hi0 (by kernel_rfl) (by kernel_rfl) (by kernel_rfl) (by kernel_rfl) (fun _ _ _ h => h) (Or.inl ⟨?hw0, ?hy0⟩) (by assumption) ?hr0
  case hi0 => simp only [List.getElem?_toArray, List.getElem?_cons_succ, List.getElem?_cons_zero]; rfl
  case hw0 => rfl
  case hy0 => intro wq hSq; (try dsimp only at hSq); go_simp; (try with_reducible rfl)
  try simp only [Act.put, List.setIfInBounds_toArray, List.set_cons_zero, List.set_cons_succ]
  refine wpAnyL_take (i := 1) (oi := ?oi1) (v := ?v1) ?hi1 (by kernel_rfl) (by kernel_rfl) (by kernel_rfl) (by kernel_rfl) (fun _ _ _ h => h) (Or.inl ⟨?hw1, ?hy1⟩) (by assumption) ?hr1
  case hi1 => simp only [List.getElem?_toArray, List.getElem?_cons_succ, List.getElem?_cons_zero]; rfl
  case hw1 => rfl
  case hy1 => intro wq hSq; (try dsimp only at hSq); go_simp; (try with_reducible rfl)
  try simp only [Act.put, List.setIfInBounds_toArray, List.set_cons_zero, List.set_cons_succ]
  refine wpAnyL_take (i := 2) (oi := ?oi2) (v := ?v2) ?hi2 (by kernel_rfl) (by kernel_rfl) (by kernel_rfl) (by kernel_rfl) (fun _ _ _ h => h) (Or.inl ⟨?hw2, ?hy2⟩) (by assumption) ?hr2
  case hi2 => simp only [List.getElem?_toArray, List.getElem?_cons_succ, List.getElem?_cons_zero]; rfl
  case hw2 => rfl
  case hy2 => intro wq hSq; (try dsimp only at hSq); go_simp; (try with_reducible rfl)
  try simp only [Act.put, List.setIfInBounds_toArray, List.set_cons_zero, List.set_cons_succ]
  refine wpAnyL_take (i := 3) (oi := ?oi3) (v := ?v3) ?hi3 (by kernel_rfl) (by kernel_rfl) (by kernel_rfl) (by kernel_rfl) (fun _ _ _ h => h) (Or.inl ⟨?hw3, ?hy3⟩) (by assumption) ?hr3
  case hi3 => simp only [List.getElem?_toArray, List.getElem?_cons_succ, List.getElem?_cons_zero]; rfl
  case hw3 => rfl
  case hy3 => intro wq hSq; (try dsimp only at hSq); go_simp; (try with_reducible rfl)
  try simp only [Act.put, List.setIfInBounds_toArray, List.set_cons_zero, List.set_cons_succ]
  refine wpAnyL_take (i := 4) (oi := ?oi4) (v := ?v4) ?hi4 (by kernel_rfl) (by kernel_rfl) (by kernel_rfl) (by kernel_rfl) (fun _ _ _ h => h) (Or.inl ⟨?hw4, ?hy4⟩) (by assumption) ?hr4
  case hi4 => simp only [List.getElem?_toArray, List.getElem?_cons_succ, List.getElem?_cons_zero]; rfl
  case hw4 => rfl
  case hy4 => intro wq hSq; (try dsimp only at hSq); go_simp; (try with_reducible rfl)
  try simp only [Act.put, List.setIfInBounds_toArray, List.set_cons_zero, List.set_cons_succ]
  refine wpAnyL_take (i := 5) (oi := ?oi5) (v := ?v5) ?hi5 (by kernel_rfl) (by kernel_rfl) (by kernel_rfl) (by kernel_rfl) (fun _ _ _ h => h) (Or.inl ⟨?hw5, ?hy5⟩) (by assumption) ?hr5
  case hi5 => simp only [List.getElem?_toArray, List.getElem?_cons_succ, List.getElem?_cons_zero]; rfl
  case hw5 => rfl
  case hy5 => intro wq hSq; (try dsimp only at hSq); go_simp; (try with_reducible rfl)
  try simp only [Act.put, List.setIfInBounds_toArray, List.set_cons_zero, List.set_cons_succ]
  refine wpAnyL_take (i := 6) (oi := ?oi6) (v := ?v6) ?hi6 (by kernel_rfl) (by kernel_rfl) (by kernel_rfl) (by kernel_rfl) (fun _ _ _ h => h) (Or.inl ⟨?hw6, ?hy6⟩) (by assumption) ?hr6
  case hi6 => simp only [List.getElem?_toArray, List.getElem?_cons_succ, List.getElem?_cons_zero]; rfl
  case hw6 => rfl
  case hy6 => intro wq hSq; (try dsimp only at hSq); go_simp; (try with_reducible rfl)
  try simp only [Act.put, List.setIfInBounds_toArray, List.set_cons_zero, List.set_cons_succ]
  refine wpAnyL_take (i := 7) (oi := ?oi7) (v := ?v7) ?hi7 (by kernel_rfl) (by kernel_rfl) (by kernel_rfl) (by kernel_rfl) (fun _ _ _ h => h) (Or.inl ⟨?hw7, ?hy7⟩) (by assumption) ?hr7
  case hi7 => simp only [List.getElem?_toArray, List.getElem?_cons_succ, List.getElem?_cons_zero]; rfl
  case hw7 => rfl
  case hy7 => intro wq hSq; (try dsimp only at hSq); go_simp; (try with_reducible rfl)
  try simp only [Act.put, List.setIfInBounds_toArray, List.set_cons_zero, List.set_cons_succ]
  refine wpAnyL_take (i := 8) (oi := ?oi8) (v := ?v8) ?hi8 (by kernel_rfl) (by kernel_rfl) (by kernel_rfl) (by kernel_rfl) (fun _ _ _ h => h) (Or.inl ⟨?hw8, ?hy8⟩) (by assumption) ?hr8
  case hi8 => simp only [List.getElem?_toArray, List.getElem?_cons_succ, List.getElem?_cons_zero]; rfl
  case hw8 => rfl
  case hy8 => intro wq hSq; (try dsimp only at hSq); go_simp; (try with_reducible rfl)
  try simp only [Act.put, List.setIfInBounds_toArray, List.set_cons_zero, List.set_cons_succ]
  refine wpAnyL_take (i := 9) (oi := ?oi9) (v := ?v9) ?hi9 (by kernel_rfl) (by kernel_rfl) (by kernel_rfl) (by kernel_rfl) (fun _ _ _ h => h) (Or.inl ⟨?hw9, ?hy9⟩) (by assumption) ?hr9
  case hi9 => simp only [List.getElem?_toArray, List.getElem?_cons_succ, List.getElem?_cons_zero]; rfl
  case hw9 => rfl
  case hy9 => intro wq hSq; (try dsimp only at hSq); go_simp; (try with_reducible rfl)
  try simp only [Act.put, List.setIfInBounds_toArray, List.set_cons_zero, List.set_cons_succ]
  refine wpAnyL_take (i := 10) (oi := ?oi10) (v := ?v10) ?hi10 (by kernel_rfl) (by kernel_rfl) (by kernel_rfl) (by kernel_rfl) (fun _ _ _ h => h) (Or.inl ⟨?hw10, ?hy10⟩) (by assumption) ?hr10
  case hi10 => simp only [List.getElem?_toArray, List.getElem?_cons_succ, List.getElem?_cons_zero]; rfl
  case hw10 => rfl
  case hy10 => intro wq hSq; (try dsimp only at hSq); go_simp; (try with_reducible rfl)
  try simp only [Act.put, List.setIfInBounds_toArray, List.set_cons_zero, List.set_cons_succ]
  refine wpAnyL_take (i := 11) (oi := ?oi11) (v := ?v11) ?hi11 (by kernel_rfl) (by kernel_rfl) (by kernel_rfl) (by kernel_rfl) (fun _ _ _ h => h) (Or.inl ⟨?hw11, ?hy11⟩) (by assumption) ?hr11
  case hi11 => simp only [List.getElem?_toArray, List.getElem?_cons_succ, List.getElem?_cons_zero]; rfl
  case hw11 => rfl
  case hy11 => intro wq hSq; (try dsimp only at hSq); go_simp; (try with_reducible rfl)
  try simp only [Act.put, List.setIfInBounds_toArray, List.set_cons_zero, List.set_cons_succ]
  refine wpAnyL_ready (rs := [12]) (by kernel_rfl) (by simp) ?_
  refine AllReadyL.cons rfl (fun K hK => ?_) AllReadyL.nil
  go_simp
  refine hK.out _ _ (.inr (by kernel_rfl)) (fun _ => ?_)
  clear hK K
  try simp only [Act.put, List.setIfInBounds_toArray, List.set_cons_zero, List.set_cons_succ]
  refine wpAnyL_done (by kernel_rfl) ?_ _
  refine NoPanic.normal ?_
  have H0 := HH.out.chg C0 (fun _ h => h.elim)
  have hgpB : B gp := HH.out.bp gp rfl
  have hgpg : gp ≠ g := own_ne H0.parts H0.box (by decide) gp rfl
  have CS : Chg W0 (W0.setCell ⟨gp, n * 3 + 2, none⟩ (.int .i64 (p.cnt + 1))) (fun k => k = gp) := (Chg.refl W0 (fun k => k = gp)).setCell (p := ⟨gp, n * 3 + 2, none⟩) (fun _ => rfl) _
  have P1 := own_setB H0.parts (n * 3 + 2) (.int .i64 (p.cnt + 1))
  rw [flat_set1 phCells 3 ph_len (.int .i64 (p.cnt + 1)) S.ps n 2 ⟨p.act, p.stays, p.cnt + 1⟩ hn (by decide) (by rw [hp]; rfl)] at P1
  have E1 := own_chg H0.events CS (fun b hb e => own_own_ne H0.events H0.parts (by decide) b hb (by rw [e]; rfl))
  have B1 := H0.box.chg CS (fun e => hgpg e.symm)
  have Q1 := HBE.out.chg CS (fun e => hgpq e.symm)
  have D1 : Chg w (W0.setCell ⟨gp, n * 3 + 2, none⟩ (.int .i64 (p.cnt + 1))) B := (C0.mono (fun _ _ h => h.elim)).trans' CS (fun k _ e => by rw [e]; exact hgpB)
  have hqs1 : q < (W0.setCell ⟨gp, n * 3 + 2, none⟩ (.int .i64 (p.cnt + 1))).heap.size := by simpa using hqs
  generalize W0.setCell ⟨gp, n * 3 + 2, none⟩ (.int .i64 (p.cnt + 1)) = W1 at *
  have x1 := B1.cell 1
  have x2 := B1.cell 2
  have HP1 := Lib.hid P1
  have HE1 := Lib.hid E1
  have HB1 := Lib.hid B1
  have HQ1 := Lib.hid Q1
  have R0 := HH.out.rg
  clear P1 E1 B1 Q1 CS H0 H fz1 y0 y1 y2
  by_cases hlt : ring.length < 1000
  · have l1 : (ring.length : Int) < 1000 := by omega
    have d1 : decide ((ring.length : Int) < 1000) = true := decide_eq_true l1
    go_wp2_with fail
    have z0 := HQ1.out.cell 0
    have z1 := HQ1.out.cell 1
    have z2 := HQ1.out.cell 2
    refine wp_region_noPanic ?_
    refine wp_region_L 10 (fun w' => w'.cell? ⟨g, 1, none⟩ = some (.slice ar ring.length cr) ∧ w'.cell? ⟨q, 0, none⟩ = some (.int .i64 tk) ∧ w'.cell? ⟨q, 1, none⟩ = some (.int .i64 n) ∧ w'.cell? ⟨q, 2, none⟩ = some (.int .i64 wh)) (by kernel_rfl) (⟨x1, z0, z1, z2⟩) (fun hHeld => ?_)
    refine wpAnyL_take (i := 0) (oi := ?oib0) (v := ?vb0) ?hib0 (by kernel_rfl) (by kernel_rfl) (by kernel_rfl) (by kernel_rfl) (fun _ _ _ h => h) (Or.inl ⟨?hwb0, ?hyb0⟩) (by assumption) ?hrb0
    case hib0 => simp only [List.getElem?_toArray, List.getElem?_cons_succ, List.getElem?_cons_zero]; rfl
    case hwb0 => rfl
    case hyb0 => intro wq hSq; (try dsimp only at hSq); go_simp; (try with_reducible rfl)
    try simp only [Act.put, List.setIfInBounds_toArray, List.set_cons_zero, List.set_cons_succ]
    refine wpAnyL_take (i := 1) (oi := ?oib1) (v := ?vb1) ?hib1 (by kernel_rfl) (by kernel_rfl) (by kernel_rfl) (by kernel_rfl) (fun _ _ _ h => h) (Or.inl ⟨?hwb1, ?hyb1⟩) (by assumption) ?hrb1
    case hib1 => simp only [List.getElem?_toArray, List.getElem?_cons_succ, List.getElem?_cons_zero]; rfl
    case hwb1 => rfl
    case hyb1 => intro wq hSq; (try dsimp only at hSq); go_simp; (try with_reducible rfl)
    try simp only [Act.put, List.setIfInBounds_toArray, List.set_cons_zero, List.set_cons_succ]
    refine wpAnyL_take (i := 2) (oi := ?oib2) (v := ?vb2) ?hib2 (by kernel_rfl) (by kernel_rfl) (by kernel_rfl) (by kernel_rfl) (fun _ _ _ h => h) (Or.inl ⟨?hwb2, ?hyb2⟩) (by assumption) ?hrb2
    case hib2 => simp only [List.getElem?_toArray, List.getElem?_cons_succ, List.getElem?_cons_zero]; rfl
    case hwb2 => rfl
    case hyb2 => intro wq hSq; (try dsimp only at hSq); go_simp; (try with_reducible rfl)
    try simp only [Act.put, List.setIfInBounds_toArray, List.set_cons_zero, List.set_cons_succ]
    refine wpAnyL_take (i := 3) (oi := ?oib3) (v := ?vb3) ?hib3 (by kernel_rfl) (by kernel_rfl) (by kernel_rfl) (by kernel_rfl) (fun _ _ _ h => h) (Or.inl ⟨?hwb3, ?hyb3⟩) (by assumption) ?hrb3
    case hib3 => simp only [List.getElem?_toArray, List.getElem?_cons_succ, List.getElem?_cons_zero]; rfl
    case hwb3 => rfl
    case hyb3 => intro wq hSq; (try dsimp only at hSq); go_simp; (try with_reducible rfl)
    try simp only [Act.put, List.setIfInBounds_toArray, List.set_cons_zero, List.set_cons_succ]
    refine wpAnyL_take (i := 4) (oi := ?oib4) (v := ?vb4) ?hib4 (by kernel_rfl) (by kernel_rfl) (by kernel_rfl) (by kernel_rfl) (fun _ _ _ h => h) (Or.inl ⟨?hwb4, ?hyb4⟩) (by assumption) ?hrb4
    case hib4 => simp only [List.getElem?_toArray, List.getElem?_cons_succ, List.getElem?_cons_zero]; rfl
    case hwb4 => rfl
    case hyb4 => intro wq hSq; (try dsimp only at hSq); go_simp; (try with_reducible rfl)
    try simp only [Act.put, List.setIfInBounds_toArray, List.set_cons_zero, List.set_cons_succ]
    refine wpAnyL_take (i := 5) (oi := ?oib5) (v := ?vb5) ?hib5 (by kernel_rfl) (by kernel_rfl) (by kernel_rfl) (by kernel_rfl) (fun _ _ _ h => h) (Or.inl ⟨?hwb5, ?hyb5⟩) (by assumption) ?hrb5
    case hib5 => simp only [List.getElem?_toArray, List.getElem?_cons_succ, List.getElem?_cons_zero]; rfl
    case hwb5 => rfl
    case hyb5 => intro wq hSq; (try dsimp only at hSq); go_simp; (try with_reducible rfl)
    try simp only [Act.put, List.setIfInBounds_toArray, List.set_cons_zero, List.set_cons_succ]
    refine wpAnyL_ready (rs := [6]) (by kernel_rfl) (by simp) ?_
    refine AllReadyL.cons rfl (fun K hK => ?_) AllReadyL.nil
    go_simp
    have CB : Chg W1 (W1.alloc (.cells #[.int .i64 tk, .int .i64 n, .int .i64 wh] 68)) (fun _ => False) := (Chg.refl W1 _).alloc _
    have BN := Box.new W1 68 #[.int .i64 tk, .int .i64 n, .int .i64 wh]
    refine hK.out _ _ (.inl (⟨CB.cell x1 (fun h => h), CB.cell z0 (fun h => h), CB.cell z1 (fun h => h), CB.cell z2 (fun h => h)⟩)) (fun hHeld => ?_)
    replace hHeld := SOr.stands hHeld (by kernel_rfl)
    clear hK K
    try simp only [Act.put, List.setIfInBounds_toArray, List.set_cons_zero, List.set_cons_succ]
    refine wpAnyL_ready (rs := [7]) (by kernel_rfl) (by simp) ?_
    refine AllReadyL.cons rfl (fun K hK => ?_) AllReadyL.nil
    replace CB := CB.drew.drew
    have EB := own_chg HE1.out CB (fun _ _ h => h)
    have SB := (BN.src 1 1 3 [.int .i64 tk, .int .i64 n, .int .i64 wh] rfl rfl).drew.drew
    refine op_append_at (.tmp 26) (.tmp 28) _ rfl 0 68 i0 _ 3 24 Try.underlying63 hi0 hz0 hz1 hz2 rfl (by omega) _ ring.length _ rfl EB ⟨W1.heap.size, 0, none⟩ 1 1 _ rfl SB (by intro u hu; simp only [List.mem_cons, List.not_mem_nil, or_false] at hu; rcases hu with rfl | rfl | rfl <;> rfl) (by unfold maxLen; omega) (by omega) (Nat.zero_le _) ?_
    intro v4 w4 O4 hgr4 hat4
    have CC : Chg W1 w4 (fun k => (Value.slice ar ring.length cr).ownBlock = some k) := (CB.mono (fun _ _ h => h.elim)).grown hgr4 (fun k hk _ => hk)
    have hgrb : ∀ b, v4.ownBlock = some b → (Value.slice ar ring.length cr).ownBlock = some b ∨ W1.heap.size ≤ b := fun b hb => by rcases hat4 with h | h; exact .inl (h ▸ hb); rw [h] at hb; injection hb with hb; exact .inr (by rw [← hb]; simp)
    obtain ⟨a4, c4, rfl, _⟩ := own_form O4
    have hrg : ∀ k, (Value.slice ar ring.length cr).ownBlock = some k → k ≠ g := own_ne HE1.out HB1.out (by decide)
    have hrq : ∀ k, (Value.slice ar ring.length cr).ownBlock = some k → k ≠ q := fun k hk => by have h7 := (HH.out.events.lt k hk).2; omega
    change K (Act.put _ (some 29) _) _
    simp only [Act.put, List.setIfInBounds_toArray, List.set_cons_zero, List.set_cons_succ]
    refine hK.out _ _ (.inl (⟨CC.cell x1 (fun h => hrg _ h rfl), CC.cell z0 (fun h => hrq _ h rfl), CC.cell z1 (fun h => hrq _ h rfl), CC.cell z2 (fun h => hrq _ h rfl)⟩)) (fun hHeld => ?_)
    replace hHeld := SOr.stands hHeld (by kernel_rfl)
    clear hK K
    try simp only [Act.put, List.setIfInBounds_toArray, List.set_cons_zero, List.set_cons_succ]
    refine wpAnyL_take (i := 8) (oi := ?oic8) (v := ?vc8) ?hic8 (by kernel_rfl) (by kernel_rfl) (by kernel_rfl) (by kernel_rfl) (fun _ _ _ h => h) (Or.inl ⟨?hwc8, ?hyc8⟩) (by assumption) ?hrc8
    case hic8 => simp only [List.getElem?_toArray, List.getElem?_cons_succ, List.getElem?_cons_zero]; rfl
    case hwc8 => rfl
    case hyc8 => intro wq hSq; (try dsimp only at hSq); go_simp; (try with_reducible rfl)
    try simp only [Act.put, List.setIfInBounds_toArray, List.set_cons_zero, List.set_cons_succ]
    refine wpAnyL_take (i := 9) (oi := ?oic9) (v := ?vc9) ?hic9 (by kernel_rfl) (by kernel_rfl) (by kernel_rfl) (by kernel_rfl) (fun _ _ _ h => h) (Or.inl ⟨?hwc9, ?hyc9⟩) (by assumption) ?hrc9
    case hic9 => simp only [List.getElem?_toArray, List.getElem?_cons_succ, List.getElem?_cons_zero]; rfl
    case hwc9 => rfl
    case hyc9 => intro wq hSq; (try dsimp only at hSq); go_simp; (try with_reducible rfl)
    try simp only [Act.put, List.setIfInBounds_toArray, List.set_cons_zero, List.set_cons_succ]
    have BG4 := HB1.out.chg CC (fun h => hrg _ h rfl)
    have w0 := BG4.cell 1
    have w2 := BG4.frozen 1
    refine wpAnyL_ready (rs := [10]) (by kernel_rfl) (by simp) ?_
    refine AllReadyL.cons rfl (fun K hK => ?_) AllReadyL.nil
    go_simp
    refine hK.out _ _ (.inr (by kernel_rfl)) (fun _ => ?_)
    clear hK K
    try simp only [Act.put, List.setIfInBounds_toArray, List.set_cons_zero, List.set_cons_succ]
    refine wpAnyL_done (by kernel_rfl) ?_ _
    refine NoPanic.normal ?_
    go_wp2_with fail
    refine bodyPost_ret (results_none rfl _ _ _) rfl ?_
    have BF := BG4.set 1 (.slice a4 (ring.length + 1) c4)
    have CG : Chg w4 (w4.setCell ⟨g, 1, none⟩ (.slice a4 (ring.length + 1) c4)) (fun k => k = g) := (Chg.refl w4 (fun k => k = g)).setCell (p := ⟨g, 1, none⟩) (fun _ => rfl) _
    have PF := own_chg (own_chg HP1.out CC (fun b hb e => own_own_ne HP1.out HE1.out (by decide) b hb e)) CG (own_ne (own_chg HP1.out CC (fun b hb e => own_own_ne HP1.out HE1.out (by decide) b hb e)) BG4 (by decide))
    have EF := own_chg O4 CG (own_ne O4 BG4 (by decide))
    have CH : Chg w (w4.setCell ⟨g, 1, none⟩ (.slice a4 (ring.length + 1) c4)) B := (D1.trans' CC (fun k _ e => HH.out.be k e)).trans' CG (fun k _ e => by rw [e]; exact HH.out.bg)
    have hgr := (R0.grow hlt ⟨tk, (n : Int), wh⟩)
    have hle := D1.size
    rw [hq] at hle
    refine ⟨rfl, ⟨some ⟨gp, 0, none⟩, a4, cp, c4, first, ring ++ [⟨tk, (n : Int), wh⟩], ?_, ?_, ?_, hgr, .inl HH.out.bg, fun b hb => .inl (by cases hb; exact hgpB), fun b hb => ?_⟩, CH⟩
    · rw [List.length_set, List.length_append]; exact BF
    · rw [List.length_set]; exact PF
    · rw [List.length_append, List.flatMap_append]; exact EF
    · rw [List.length_append] at hb
      rcases hgrb b hb with h | h
      · exact .inl (HH.out.be b h)
      · exact .inr (by omega)
  · have hfull : ring.length = 1000 := by have := R0.le; omega
    have d1 : decide ((ring.length : Int) < 1000) = false := decide_eq_false (by omega)
    have hflt := R0.lt
    obtain ⟨gr, cr', hv2, _, hgr1, _, _⟩ := own_block HE1.out (by omega)
    injection hv2 with e4 e5 e6
    subst e4 e6
    have f0 : (0 : Int) ≤ (first : Int) := by omega
    have f1 : (first : Int) < (ring.length : Int) := by omega
    have f2 : first < ring.length := by omega
    have z0 := HQ1.out.cell 0
    have z1 := HQ1.out.cell 1
    have z2 := HQ1.out.cell 2
    have fr0 := own_frozen HE1.out (first * 3)
    have fr1 := own_frozen HE1.out (first * 3 + 1)
    have fr2 := own_frozen HE1.out (first * 3 + 2)
    obtain ⟨ev, hev⟩ : ∃ ev, ring[first] = ev := ⟨_, rfl⟩
    have v0 : W1.cell? ⟨gr, first * 3, none⟩ = some (.int .i64 ev.tick) := own_cell3 ev_len HE1.out first 0 (by decide) f2 (by rw [hev]; rfl)
    have v1 : W1.cell? ⟨gr, first * 3 + 1, none⟩ = some (.int .i64 ev.part) := own_cell3 ev_len HE1.out first 1 (by decide) f2 (by rw [hev]; rfl)
    have v2 : W1.cell? ⟨gr, first * 3 + 2, none⟩ = some (.int .i64 ev.what) := own_cell3 ev_len HE1.out first 2 (by decide) f2 (by rw [hev]; rfl)
    have HEV := Lib.hid hev
    have HFU := Lib.hid hfull
    clear hev
    clear hfull hlt
    go_wp2_with fail
    refine wp_region_noPanic ?_
    refine wp_region_L 10 (fun w' => w'.cell? ⟨g, 1, none⟩ = some (.slice (some ⟨gr, 0, none⟩) ring.length cr) ∧ w'.cell? ⟨g, 2, none⟩ = some (.int .i64 (first : Nat)) ∧ w'.cell? ⟨q, 0, none⟩ = some (.int .i64 tk) ∧ w'.cell? ⟨q, 1, none⟩ = some (.int .i64 n) ∧ w'.cell? ⟨q, 2, none⟩ = some (.int .i64 wh)) (by kernel_rfl) (⟨x1, x2, z0, z1, z2⟩) (fun hHeld => ?_)
    refine wpAnyL_take (i := 0) (oi := ?oie0) (v := ?ve0) ?hie0 (by kernel_rfl) (by kernel_rfl) (by kernel_rfl) (by kernel_rfl) (fun _ _ _ h => h) (Or.inl ⟨?hwe0, ?hye0⟩) (by assumption) ?hre0
    case hie0 => simp only [List.getElem?_toArray, List.getElem?_cons_succ, List.getElem?_cons_zero]; rfl
    case hwe0 => rfl
    case hye0 => intro wq hSq; (try dsimp only at hSq); go_simp; (try with_reducible rfl)
    try simp only [Act.put, List.setIfInBounds_toArray, List.set_cons_zero, List.set_cons_succ]
    refine wpAnyL_take (i := 1) (oi := ?oie1) (v := ?ve1) ?hie1 (by kernel_rfl) (by kernel_rfl) (by kernel_rfl) (by kernel_rfl) (fun _ _ _ h => h) (Or.inl ⟨?hwe1, ?hye1⟩) (by assumption) ?hre1
    case hie1 => simp only [List.getElem?_toArray, List.getElem?_cons_succ, List.getElem?_cons_zero]; rfl
    case hwe1 => rfl
    case hye1 => intro wq hSq; (try dsimp only at hSq); go_simp; (try with_reducible rfl)
    try simp only [Act.put, List.setIfInBounds_toArray, List.set_cons_zero, List.set_cons_succ]
    refine wpAnyL_take (i := 2) (oi := ?oie2) (v := ?ve2) ?hie2 (by kernel_rfl) (by kernel_rfl) (by kernel_rfl) (by kernel_rfl) (fun _ _ _ h => h) (Or.inl ⟨?hwe2, ?hye2⟩) (by assumption) ?hre2
    case hie2 => simp only [List.getElem?_toArray, List.getElem?_cons_succ, List.getElem?_cons_zero]; rfl
    case hwe2 => rfl
    case hye2 => intro wq hSq; (try dsimp only at hSq); go_simp; (try with_reducible rfl)
    try simp only [Act.put, List.setIfInBounds_toArray, List.set_cons_zero, List.set_cons_succ]
    refine wpAnyL_take (i := 3) (oi := ?oie3) (v := ?ve3) ?hie3 (by kernel_rfl) (by kernel_rfl) (by kernel_rfl) (by kernel_rfl) (fun _ _ _ h => h) (Or.inl ⟨?hwe3, ?hye3⟩) (by assumption) ?hre3
    case hie3 => simp only [List.getElem?_toArray, List.getElem?_cons_succ, List.getElem?_cons_zero]; rfl
    case hwe3 => rfl
    case hye3 => intro wq hSq; (try dsimp only at hSq); go_simp; (try with_reducible rfl)
    try simp only [Act.put, List.setIfInBounds_toArray, List.set_cons_zero, List.set_cons_succ]
    refine wpAnyL_take (i := 4) (oi := ?oie4) (v := ?ve4) ?hie4 (by kernel_rfl) (by kernel_rfl) (by kernel_rfl) (by kernel_rfl) (fun _ _ _ h => h) (Or.inl ⟨?hwe4, ?hye4⟩) (by assumption) ?hre4
    case hie4 => simp only [List.getElem?_toArray, List.getElem?_cons_succ, List.getElem?_cons_zero]; rfl
    case hwe4 => rfl
    case hye4 => intro wq hSq; (try dsimp only at hSq); go_simp; (try with_reducible rfl)
    try simp only [Act.put, List.setIfInBounds_toArray, List.set_cons_zero, List.set_cons_succ]
    refine wpAnyL_take (i := 5) (oi := ?oie5) (v := ?ve5) ?hie5 (by kernel_rfl) (by kernel_rfl) (by kernel_rfl) (by kernel_rfl) (fun _ _ _ h => h) (Or.inl ⟨?hwe5, ?hye5⟩) (by assumption) ?hre5
    case hie5 => simp only [List.getElem?_toArray, List.getElem?_cons_succ, List.getElem?_cons_zero]; rfl
    case hwe5 => rfl
    case hye5 => intro wq hSq; (try dsimp only at hSq); go_simp; (try with_reducible rfl)
    try simp only [Act.put, List.setIfInBounds_toArray, List.set_cons_zero, List.set_cons_succ]
    refine wpAnyL_take (i := 6) (oi := ?oie6) (v := ?ve6) ?hie6 (by kernel_rfl) (by kernel_rfl) (by kernel_rfl) (by kernel_rfl) (fun _ _ _ h => h) (Or.inl ⟨?hwe6, ?hye6⟩) (by assumption) ?hre6
    case hie6 => simp only [List.getElem?_toArray, List.getElem?_cons_succ, List.getElem?_cons_zero]; rfl
    case hwe6 => rfl
    case hye6 => intro wq hSq; (try dsimp only at hSq); go_simp; (try with_reducible rfl)
    try simp only [Act.put, List.setIfInBounds_toArray, List.set_cons_zero, List.set_cons_succ]
    refine wpAnyL_take (i := 7) (oi := ?oie7) (v := ?ve7) ?hie7 (by kernel_rfl) (by kernel_rfl) (by kernel_rfl) (by kernel_rfl) (fun _ _ _ h => h) (Or.inl ⟨?hwe7, ?hye7⟩) (by assumption) ?hre7
    case hie7 => simp only [List.getElem?_toArray, List.getElem?_cons_succ, List.getElem?_cons_zero]; rfl
    case hwe7 => rfl
    case hye7 => intro wq hSq; (try dsimp only at hSq); go_simp; (try with_reducible rfl)
    try simp only [Act.put, List.setIfInBounds_toArray, List.set_cons_zero, List.set_cons_succ]
    refine wpAnyL_take (i := 8) (oi := ?oie8) (v := ?ve8) ?hie8 (by kernel_rfl) (by kernel_rfl) (by kernel_rfl) (by kernel_rfl) (fun _ _ _ h => h) (Or.inl ⟨?hwe8, ?hye8⟩) (by assumption) ?hre8
    case hie8 => simp only [List.getElem?_toArray, List.getElem?_cons_succ, List.getElem?_cons_zero]; rfl
    case hwe8 => rfl
    case hye8 => intro wq hSq; (try dsimp only at hSq); go_simp; (try with_reducible rfl)
    try simp only [Act.put, List.setIfInBounds_toArray, List.set_cons_zero, List.set_cons_succ]
    refine wpAnyL_take (i := 9) (oi := ?oie9) (v := ?ve9) ?hie9 (by kernel_rfl) (by kernel_rfl) (by kernel_rfl) (by kernel_rfl) (fun _ _ _ h => h) (Or.inl ⟨?hwe9, ?hye9⟩) (by assumption) ?hre9
    case hie9 => simp only [List.getElem?_toArray, List.getElem?_cons_succ, List.getElem?_cons_zero]; rfl
    case hwe9 => rfl
    case hye9 => intro wq hSq; (try dsimp only at hSq); go_simp; (try with_reducible rfl)
    try simp only [Act.put, List.setIfInBounds_toArray, List.set_cons_zero, List.set_cons_succ]
    refine wpAnyL_ready (rs := [10]) (by kernel_rfl) (by simp) ?_
    refine AllReadyL.cons rfl (fun K hK => ?_) AllReadyL.nil
    go_simp
    refine hK.out _ _ (.inr (by kernel_rfl)) (fun _ => ?_)
    clear hK K
    try simp only [Act.put, List.setIfInBounds_toArray, List.set_cons_zero, List.set_cons_succ]
    refine wpAnyL_done (by kernel_rfl) ?_ _
    refine NoPanic.normal ?_
    have hgrg : gr ≠ g := own_ne HE1.out HB1.out (by decide) gr rfl
    have CT : Chg W1 (((W1.setCell ⟨gr, first * 3, none⟩ (.int .i64 tk)).setCell ⟨gr, first * 3 + 1, none⟩ (.int .i64 n)).setCell ⟨gr, first * 3 + 2, none⟩ (.int .i64 wh)) (fun k => k = gr) :=
      (((Chg.refl W1 (fun k => k = gr)).setCell (p := ⟨gr, first * 3, none⟩) (fun _ => rfl) _).setCell (p := ⟨gr, first * 3 + 1, none⟩) (fun _ => rfl) _).setCell (p := ⟨gr, first * 3 + 2, none⟩) (fun _ => rfl) _
    have E2 := own_setB (own_setB (own_setB HE1.out (first * 3 + 0) (.int .i64 tk)) (first * 3 + 1) (.int .i64 n)) (first * 3 + 2) (.int .i64 wh)
    have hev := HEV.out
    rw [flat_set1 evCells 3 ev_len (.int .i64 tk) ring first 0 ⟨tk, ev.part, ev.what⟩ f2 (by decide) (by rw [hev]; rfl),
      flat_set1 evCells 3 ev_len (.int .i64 n) _ first 1 ⟨tk, n, ev.what⟩ (by simpa using f2) (by decide) (by simp [evCells]),
      flat_set1 evCells 3 ev_len (.int .i64 wh) _ first 2 ⟨tk, n, wh⟩ (by simpa using f2) (by decide) (by simp [evCells]), List.set_set, List.set_set, Nat.add_zero] at E2
    have P2 := own_chg HP1.out CT (fun b hb e => own_own_ne HP1.out HE1.out (by decide) b hb (by rw [e]; rfl))
    have B2 := HB1.out.chg CT (fun e => hgrg e.symm)
    have C2 : Chg w (((W1.setCell ⟨gr, first * 3, none⟩ (.int .i64 tk)).setCell ⟨gr, first * 3 + 1, none⟩ (.int .i64 n)).setCell ⟨gr, first * 3 + 2, none⟩ (.int .i64 wh)) B := D1.trans' CT (fun k _ e => by rw [e]; exact HH.out.be gr rfl)
    generalize ((W1.setCell ⟨gr, first * 3, none⟩ (.int .i64 tk)).setCell ⟨gr, first * 3 + 1, none⟩ (.int .i64 n)).setCell ⟨gr, first * 3 + 2, none⟩ (.int .i64 wh) = W2 at *
    have u2 := B2.cell 2
    have fz2 := B2.frozen 2
    have HE2 := Lib.hid E2
    have HP2 := Lib.hid P2
    have HB2 := Lib.hid B2
    have iw2 : IntKind.i64.wrap ((first : Int) + 1) = (first : Int) + 1 := IntWalk.i64_in _ (by omega)
    obtain ⟨nf, hnf⟩ : ∃ nf, (first + 1) % 1000 = nf := ⟨_, rfl⟩
    have k2 : ((first : Int) + 1).tmod 1000 = (nf : Int) := by rw [Int.tmod_eq_emod_of_nonneg (by omega)]; omega
    have HNF := Lib.hid hnf
    clear E2 P2 B2 CT hnf hev fr0 fr1 fr2 x1 x2 z0 z1 z2
    go_wp2_with fail
    refine bodyPost_end (results_none rfl _ _ _) rfl ?_
    have BF := HB2.out.set 2 (.int .i64 (nf : Nat))
    have CG : Chg W2 (W2.setCell ⟨g, 2, none⟩ (.int .i64 (nf : Nat))) (fun k => k = g) := (Chg.refl W2 (fun k => k = g)).setCell (p := ⟨g, 2, none⟩) (fun _ => rfl) _
    have PF := own_chg HP2.out CG (own_ne HP2.out HB2.out (by decide))
    have EF := own_chg HE2.out CG (own_ne HE2.out HB2.out (by decide))
    have hgr := R0.turn HFU.out ⟨tk, (n : Int), wh⟩
    rw [HNF.out] at hgr
    have CW : Chg w (W2.setCell ⟨g, 2, none⟩ (.int .i64 (nf : Nat))) B := C2.trans' CG (fun k _ e => by rw [e]; exact HH.out.bg)
    refine ⟨rfl, ⟨some ⟨gp, 0, none⟩, some ⟨gr, 0, none⟩, cp, cr, nf, ring.set first ⟨tk, (n : Int), wh⟩, ?_, ?_, ?_, hgr, .inl HH.out.bg, fun b hb => .inl (by cases hb; exact hgpB), fun b hb => .inl (by cases hb; exact HH.out.be gr rfl)⟩, CW.drew.drew⟩
    · rw [List.length_set, List.length_set]; exact BF
    · rw [List.length_set]; exact PF
    · rw [List.length_set]; exact EF
end Go.Proofs.Ytdhkbephofnfdaa

/- config's reader: read. -/
import Derived.Test.YtdhkbephofnfdaaCRd
import Derived.Test.YtdhkbephofnfdaaCPack
import Derived.Test.YtdhkbephofnfdaaTail
import Derived.Test.YtdhkbephofnfdaaCStr
import Derived.Test.YtdhkbephofnfdaaWrong0
import Derived.Test.YtdhkbephofnfdaaOwn
import Derived.Deep.AppendLies
namespace Go.Proofs.Ytdhkbephofnfdaa
open Go.RowKit

def pPart (t : List Int) : Option (PartD × List Int) :=
  (pCount 20 t).bind fun a => (pNum a.2).bind fun b => (pNum b.2).bind fun c => (pTake a.1 c.2).bind fun d => some (⟨strOfNums d.1, b.1, c.1⟩, d.2)
def pChan (t : List Int) : Option (ChanD × List Int) :=
  (pNum t).bind fun a => (pNum a.2).bind fun b => (pNum b.2).bind fun c => (pNum c.2).bind fun d => (pNum d.2).bind fun e => some (⟨a.1, b.1, c.1, d.1, e.1⟩, e.2)
def pWin (t : List Int) : Option (WinD × List Int) :=
  (pNum t).bind fun a => (pNum a.2).bind fun b => (pNum b.2).bind fun c => some (⟨a.1, b.1, c.1⟩, c.2)
def pList {α : Type} (f : List Int → Option (α × List Int)) : Nat → List Int → Option (List α × List Int)
  | 0, xs => some ([], xs)
  | k + 1, xs => (pList f k xs).bind fun a => (f a.2).bind fun b => some (a.1 ++ [b.1], b.2)
def pTail3 (pg mj sw : Int) (ps : List PartD) (cs : List ChanD) (t : List Int) : Option (Cfg × List Int) :=
  (pCount 32 t).bind fun nw => (pList pWin nw.1.toNat nw.2).bind fun ws => some (⟨pg, mj, sw, ps, cs, ws.1⟩, ws.2)
def pTail2 (pg mj sw : Int) (ps : List PartD) (t : List Int) : Option (Cfg × List Int) :=
  (pCount 16 t).bind fun nc => (pList pChan nc.1.toNat nc.2).bind fun cs => pTail3 pg mj sw ps cs.1 cs.2
def pTail1 (pg mj sw : Int) (t : List Int) : Option (Cfg × List Int) :=
  (pCount 8 t).bind fun np => (pList pPart np.1.toNat np.2).bind fun ps => pTail2 pg mj sw ps.1 ps.2
def pHead (t : List Int) : Option (Cfg × List Int) := (pNum t).bind fun pg => (pNum pg.2).bind fun mj => (pNum mj.2).bind fun sw => pTail1 pg.1 mj.1 sw.1 sw.2
def pCfg (xs : List Int) : Option (Cfg × List Int) := (pTake 4 xs).bind fun m => if m.1 = magic then pHead m.2 else none

theorem pList_none {α : Type} {f : List Int → Option (α × List Int)} {t0 : List Int} {k : Nat} (h : pList f k t0 = none) : ∀ d, pList f (k + d) t0 = none
  | 0 => h
  | d + 1 => by
    show (pList f (k + d) t0).bind _ = none
    rw [pList_none h d]
    rfl
theorem pList_fail {α : Type} {f : List Int → Option (α × List Int)} {t0 t : List Int} {l : List α} {k n : Nat} (hE : pList f k t0 = some (l, t)) (hf : f t = none) (hk : k < n) : pList f n t0 = none := by
  have h1 : pList f (k + 1) t0 = none := by
    show (pList f k t0).bind _ = none
    rw [hE]
    show (f t).bind _ = none
    rw [hf]
    rfl
  have := pList_none h1 (n - (k + 1))
  rwa [Nat.add_sub_cancel' (by omega)] at this
theorem pList_step {α : Type} {f : List Int → Option (α × List Int)} {t0 t t' : List Int} {l : List α} {p : α} {k : Nat} (hE : pList f k t0 = some (l, t)) (hf : f t = some (p, t')) : pList f (k + 1) t0 = some (l ++ [p], t') := by
  show (pList f k t0).bind _ = _
  rw [hE]
  show (f t).bind _ = _
  rw [hf]
  rfl

/-- What read tells. -/
def ReadR (w w' : World) (r : Nat) (p : Option (Cfg × List Int)) (e : Ending) : Prop :=
  (∃ C t ap ac aw cp cc cw, p = some (C, t) ∧ e = .returned (.agg (cfgCells C ap ac aw cp cc cw)) ∧ CfgAt w' C ap ac aw cp cc cw ∧ ((∀ k, (Value.slice ap C.parts.length cp).ownBlock = some k → w.heap.size ≤ k) ∧ (∀ k, (Value.slice ac C.chans.length cc).ownBlock = some k → w.heap.size ≤ k) ∧ (∀ k, (Value.slice aw C.wins.length cw).ownBlock = some k → w.heap.size ≤ k)) ∧ Chg w w' (fun j => j = r)) ∨
  (p = none ∧ e = .panicked stopC ∧ Chg w w' (fun j => j = r))

/-- Where read is. -/
structure RSt (w0 w : World) (r gb T2 T3 : Nat) (t : List Int) (cs : Array Value) : Prop where
  rd : RdAt w r gb t
  b2 : Box w T2 27 #[.int .i64 0, .int .i64 0, .int .i64 0, .slice none 0 0, .slice none 0 0, .slice none 0 0]
  b3 : Box w T3 27 cs
  chg : Chg w0 w (fun j => j = r)
  l0 : w0.heap.size ≤ T2
  l1 : T2 < T3
  lr : r < w0.heap.size
  lg : gb < w0.heap.size

theorem RSt.num {w0 w w' : World} {r gb T2 T3 : Nat} {t t' : List Int} {cs : Array Value} (S : RSt w0 w r gb T2 T3 t cs) (R : RdAt w' r gb t') (c : Chg w w' (fun j => j = r)) : RSt w0 w' r gb T2 T3 t' cs := by
  have h0 := S.l0
  have h1 := S.l1
  have h2 := S.lr
  exact ⟨R, S.b2.chg c (fun h => by omega), S.b3.chg c (fun h => by omega), S.chg.trans c, S.l0, S.l1, S.lr, S.lg⟩
theorem RSt.keep {w0 w w' : World} {r gb T2 T3 : Nat} {t : List Int} {cs : Array Value} (S : RSt w0 w r gb T2 T3 t cs) (c : Chg w w' (fun _ => False)) : RSt w0 w' r gb T2 T3 t cs :=
  ⟨S.rd.chg c (fun h => h) (fun h => h), S.b2.chg c (fun h => h), S.b3.chg c (fun h => h), S.chg.trans' c (fun _ _ h => h.elim), S.l0, S.l1, S.lr, S.lg⟩
/-- A row behind the boxes grows, and its new value goes into the box. -/
theorem RSt.grow {w0 w w' : World} {r gb T2 T3 : Nat} {t : List Int} {cs : Array Value} (S : RSt w0 w r gb T2 T3 t cs) {row : Option Nat} (hg : w.grownBy w' row) (hr : ∀ k, row = some k → T3 + 1 ≤ k) (i : Nat) (u : Value) :
    Box w' T3 27 cs ∧ RSt w0 (w'.setCell ⟨T3, i, none⟩ u) r gb T2 T3 t (cs.setIfInBounds i u) ∧ Chg w (w'.setCell ⟨T3, i, none⟩ u) (fun k => k = T3 ∨ row = some k) := by
  have h0 := S.l0
  have h1 := S.l1
  have h2 := S.lr
  have h3 := S.lg
  have C1 : Chg w w' (fun k => row = some k) := (Chg.refl w _).grown hg (fun k hk _ => hk)
  have B3 := S.b3.chg C1 (fun h => by have := hr _ h; omega)
  have C2 : Chg w' (w'.setCell ⟨T3, i, none⟩ u) (fun k => k = T3) := (Chg.refl w' (fun k => k = T3)).setCell (p := ⟨T3, i, none⟩) (fun _ => rfl) _
  have C12 : Chg w (w'.setCell ⟨T3, i, none⟩ u) (fun k => k = T3 ∨ row = some k) := (C1.mono (fun _ _ h => .inr h)).trans' C2 (fun _ _ h => .inl h)
  refine ⟨B3, ⟨S.rd.chg C12 (fun h => ?_) (fun h => ?_), S.b2.chg C12 (fun h => ?_), B3.set i u, S.chg.trans' C12 (fun k hk h => ?_), S.l0, S.l1, S.lr, S.lg⟩, C12⟩
  · rcases h with h | h
    · omega
    · have := hr _ h; omega
  · rcases h with h | h
    · omega
    · have := hr _ h; omega
  · rcases h with h | h
    · omega
    · have := hr _ h; omega
  · rcases h with h | h
    · omega
    · have := hr _ h; omega

theorem RSt.turn {w0 w w' : World} {r gb T2 T3 : Nat} {t : List Int} {cs : Array Value} (S : RSt w0 w r gb T2 T3 t cs) {Q : Nat → Prop} (c : Chg w w' Q) (hQ : ∀ k, Q k → T3 < k) : RSt w0 w' r gb T2 T3 t cs := by
  have h0 := S.l0
  have h1 := S.l1
  have h2 := S.lr
  have h3 := S.lg
  exact ⟨S.rd.chg c (fun h => by have := hQ _ h; omega) (fun h => by have := hQ _ h; omega), S.b2.chg c (fun h => by have := hQ _ h; omega), S.b3.chg c (fun h => by have := hQ _ h; omega), S.chg.trans' c (fun k hk h => by have := hQ _ h; omega), S.l0, S.l1, S.lr, S.lg⟩
theorem pPart_some {t ta tb tc : List Int} {nl pp pa : Int} {k : Nat} (h1 : pCount 20 t = some (nl, ta)) (h2 : pNum ta = some (pp, tb)) (h3 : pNum tb = some (pa, tc)) (h4 : nl = k) (h5 : k ≤ tc.length) : pPart t = some (⟨strOfNums (tc.take k), pp, pa⟩, tc.drop k) := by
  unfold pPart
  rw [h1]
  show (pNum ta).bind _ = _
  rw [h2]
  show (pNum tb).bind _ = _
  rw [h3]
  show (pTake nl tc).bind _ = _
  unfold pTake
  rw [if_pos (by omega), h4]
  rfl
theorem pPart_none {t ta tb tc : List Int} {nl pp pa : Int} (h1 : pCount 20 t = some (nl, ta)) (h2 : pNum ta = some (pp, tb)) (h3 : pNum tb = some (pa, tc)) (h4 : ¬ (0 ≤ nl ∧ nl ≤ tc.length)) : pPart t = none := by
  unfold pPart
  rw [h1]
  show (pNum ta).bind _ = _
  rw [h2]
  show (pNum tb).bind _ = _
  rw [h3]
  show (pTake nl tc).bind _ = _
  unfold pTake
  rw [if_neg h4]
  rfl
theorem pCount_le {most : Int} {xs t : List Int} {n : Int} (h : pCount most xs = some (n, t)) : n ≤ most := by
  unfold pCount at h
  split at h
  · split at h
    · injection h with h
      injection h with h1 h2
      subst h1
      assumption
    · cases h
  · cases h
theorem size_strOfNums (xs : List Int) : (strOfNums xs).size = xs.length := by
  unfold strOfNums
  simp [ByteArray.size]

set_option maxRecDepth 100000 in
set_option maxHeartbeats 8000000 in
theorem read_cfg {r gb : Nat} {xs : List Int} (w : World) (H : RdAt w r gb xs) (hr : r < w.heap.size) :
    Calls Try.prog 58 #[.pointer (some ⟨r, 0, none⟩)] w fun e w' => ReadR w w' r (pCfg xs) e := by
  obtain ⟨i0, hi0, hz0, hz1, hz2⟩ := info_parts info_part
  obtain ⟨i2, hi2, hy0, hy1, hy2⟩ := info_parts info_chan
  obtain ⟨i3, hi3, hx0, hx1, hx2⟩ := info_parts info_win
  have HC : Hid (pCfg xs = (pTake 4 xs).bind fun m => if m.1 = magic then pHead m.2 else none) := rfl
  obtain ⟨pc, hpc⟩ : ∃ pc, pCfg xs = pc := ⟨_, rfl⟩
  rw [hpc] at HC
  rw [hpc]
  clear hpc
  have hg := H.lt
  obtain ⟨wa, hwa⟩ : ∃ wa, w.alloc (.cells #[.int .i64 0, .int .i64 0, .int .i64 0, .slice none 0 0, .slice none 0 0, .slice none 0 0] 27) = wa := ⟨_, rfl⟩
  have Ca : Chg w wa (fun _ => False) := by rw [← hwa]; exact (Chg.refl w _).alloc _
  have B2 := Box.new w 27 #[.int .i64 0, .int .i64 0, .int .i64 0, .slice none 0 0, .slice none 0 0, .slice none 0 0]
  rw [hwa] at B2
  have Ra := H.chg Ca (fun h => h) (fun h => h)
  obtain ⟨T2, hT2⟩ : ∃ T2, w.heap.size = T2 := ⟨_, rfl⟩
  rw [hT2] at B2 hr hg
  have HT := take_any wa 4 Ra
  go_enter Try.func58, Try.ntmps58
  go_wp2_with fail
  refine HT.mono ?_
  rintro e w1 (⟨k, hk, hk2, ao, rfl, L, hat, R1, C1⟩ | ⟨hn, rfl, C1⟩)
  rotate_left
  · have hpc : pc = none := by rw [HC.out]; unfold pTake; rw [if_neg hn]; rfl
    subst hpc
    exact ⟨rfl, .inr ⟨rfl, rfl, (Ca.trans C1).mono (fun _ _ h => h.elim)⟩⟩
  clear HT
  obtain rfl : k = 4 := by omega
  have HC2 : Hid (pc = if xs.take 4 = magic then pHead (xs.drop 4) else none) := by
    show _ = _
    rw [HC.out]
    unfold pTake
    rw [if_pos (by omega)]
    rfl
  have hcv := conv_src w1 L.src
  have hstr : ((strOfNums (xs.take 4)).toList == [84, 82, 67, 49]) = decide (xs.take 4 = magic) := by
    have hml : (strOfNums magic).toList = [84, 82, 67, 49] := by rw [Lib.strOfNums_toList]; rfl
    rw [← hml]
    exact str_beq (ys := magic) (bytesOk_take H.rng 4) rngB_magic
  by_cases hm : xs.take 4 = magic
  rotate_left
  · have hpc : pc = none := by rw [HC2.out, if_neg hm]
    subst hpc
    rw [decide_eq_false hm] at hstr
    go_wp2_with fail
    exact ⟨rfl, .inr ⟨rfl, rfl, (Ca.mono (fun _ _ h => h.elim)).trans C1⟩⟩
  rw [decide_eq_true hm] at hstr
  obtain ⟨t0, ht0⟩ : ∃ t, xs.drop 4 = t := ⟨_, rfl⟩
  rw [ht0] at HC2 R1
  have HC3 : Hid (pc = pHead t0) := by show _ = _; rw [HC2.out, if_pos hm]
  clear HC HC2 hm ht0 hwa hk
  have Cw1 : Chg w w1 (fun j => j = r) := (Ca.mono (fun _ _ h => h.elim)).trans C1
  have B21 := B2.chg C1 (fun h => by omega)
  clear C1 Ca B2
  go_wp2_with fail
  refine (rdnum_any _ R1).mono ?_
  rintro e w2 (⟨pg, t1, h1, rfl, R2, C2⟩ | ⟨h1, rfl, C2⟩)
  rotate_left
  · have hpc : pc = none := by rw [HC3.out]; unfold pHead; rw [h1]; rfl
    subst hpc
    exact ⟨rfl, .inr ⟨rfl, rfl, Cw1.trans C2⟩⟩
  have HC4 : Hid (pc = (pNum t1).bind fun mj => (pNum mj.2).bind fun sw => pTail1 pg mj.1 sw.1 sw.2) := by show _ = _; rw [HC3.out]; unfold pHead; rw [h1]; rfl
  clear HC3 h1 hcv hstr L R1
  go_wp2_with fail
  refine (rdnum_any _ R2).mono ?_
  rintro e w3 (⟨mj, t2, h1, rfl, R3, C3⟩ | ⟨h1, rfl, C3⟩)
  rotate_left
  · have hpc : pc = none := by rw [HC4.out, h1]; rfl
    subst hpc
    exact ⟨rfl, .inr ⟨rfl, rfl, (Cw1.trans C2).trans C3⟩⟩
  have HC5 : Hid (pc = (pNum t2).bind fun sw => pTail1 pg mj sw.1 sw.2) := by show _ = _; rw [HC4.out, h1]; rfl
  clear HC4 h1 R2
  go_wp2_with fail
  refine (rdnum_any _ R3).mono ?_
  rintro e w4 (⟨sw, t3, h1, rfl, R4, C4⟩ | ⟨h1, rfl, C4⟩)
  rotate_left
  · have hpc : pc = none := by rw [HC5.out, h1]; rfl
    subst hpc
    exact ⟨rfl, .inr ⟨rfl, rfl, ((Cw1.trans C2).trans C3).trans C4⟩⟩
  have HC6 : Hid (pc = pTail1 pg mj sw t3) := by show _ = _; rw [HC5.out, h1]; rfl
  clear HC5 h1 R3
  have Cw4 := ((Cw1.trans C2).trans C3).trans C4
  have B24 := ((B21.chg C2 (fun h => by omega)).chg C3 (fun h => by omega)).chg C4 (fun h => by omega)
  have hs4 := B24.lt
  go_upto_region 4 with fail
  obtain ⟨wb, hwb⟩ : ∃ wb, w4.alloc (.cells #[.int .i64 pg, .int .i64 mj, .int .i64 sw, .slice none 0 0, .slice none 0 0, .slice none 0 0] 27) = wb := ⟨_, rfl⟩
  have Cb : Chg w4 wb (fun _ => False) := by rw [← hwb]; exact (Chg.refl w4 _).alloc _
  have B3 := Box.new w4 27 #[.int .i64 pg, .int .i64 mj, .int .i64 sw, .slice none 0 0, .slice none 0 0, .slice none 0 0]
  rw [hwb] at B3
  obtain ⟨T3, hT3⟩ : ∃ T3, w4.heap.size = T3 := ⟨_, rfl⟩
  rw [hT3] at B3 hs4
  have S : RSt w wb r gb T2 T3 t3 #[.int .i64 pg, .int .i64 mj, .int .i64 sw, .slice none 0 0, .slice none 0 0, .slice none 0 0] := ⟨R4.chg Cb (fun h => h) (fun h => h), B24.chg Cb (fun h => h), B3, Cw4.trans' Cb (fun _ _ h => h.elim), by omega, hs4, by omega, by omega⟩
  have hbT : wb.heap.size = T3 + 1 := by rw [← hwb, World.size_alloc, hT3]
  clear Cw1 C2 C3 C4 Cw4 B21 B24 Cb B3 R4
  go_wp2_with fail
  refine (rdcount_any _ 8 S.rd).mono ?_
  rintro e w5 (⟨np, t4, h1, rfl, R5, C5⟩ | ⟨h1, rfl, C5⟩)
  rotate_left
  · have hpc : pc = none := by rw [HC6.out]; unfold pTail1; rw [h1]; rfl
    subst hpc
    exact ⟨rfl, .inr ⟨rfl, rfl, S.chg.trans C5⟩⟩
  have HC7 : Hid (pc = (pList pPart np.toNat t4).bind fun ps => pTail2 pg mj sw ps.1 ps.2) := by show _ = _; rw [HC6.out]; unfold pTail1; rw [h1]; rfl
  have hnp := pCount_le h1
  have S5 := S.num R5 C5
  have hs5 := C5.size
  clear HC6 h1 S R5 C5 hwb
  obtain ⟨N, hN⟩ : ∃ N, np.toNat = N := ⟨_, rfl⟩
  rw [hN] at HC7
  go_wp2_with fail
  go_loopg [21] N (fun g s21 wr => ∃ k : Nat, ∃ l t v, g + k = N ∧ s21 = .int .i64 k ∧ pList pPart k t4 = some (l, t) ∧ l.length = k ∧ (∀ p ∈ l, p.name.size ≤ maxLen) ∧ RSt w wr r gb T2 T3 t #[.int .i64 pg, .int .i64 mj, .int .i64 sw, v, .slice none 0 0, .slice none 0 0] ∧ wr.ownsRow (T3 + 1) 30 3 v l.length (l.flatMap partCells))
  case atStart => exact ⟨0, [], t4, _, Nat.add_zero _, rfl, rfl, rfl, fun p hp => (by cases hp), S5, World.ownsRow_nil _ _ _ _⟩
  case round =>
    obtain ⟨k, l, t, v, hk, rfl, hpl, hlk, hnm, S, O⟩ := hrel
    have HK := Lib.hid hk
    have HPL := Lib.hid hpl
    have HNM := Lib.hid hnm
    have HLK := Lib.hid hlk
    by_cases hlt : k < N
    · have hkI : (k : Int) < np := by omega
      have hk0 : (0 : Int) ≤ (k : Int) := by omega
      have HFAIL : Hid (pPart t = none → pc = none) := fun h => by rw [HC7.out, pList_fail hpl h hlt]; rfl
      have hsr := S.chg.size
      have HO := Lib.hid O
      have hl8 : l.length < 8 := by omega
      clear hk hpl hnm hlk O
      go_wp2_with fail
      refine (rdcount_any _ 20 S.rd).mono ?_
      rintro e w6 (⟨nl, ta, h1, rfl, R6, C6⟩ | ⟨h1, rfl, C6⟩)
      rotate_left
      · have hpc : pc = none := HFAIL.out (by unfold pPart; rw [h1]; rfl)
        subst hpc
        exact ⟨rfl, .inr ⟨rfl, rfl, S.chg.trans C6⟩⟩
      have S6 := S.num R6 C6
      have hnl := pCount_le h1
      clear R6
      go_wp2_with fail
      refine (rdnum_any _ S6.rd).mono ?_
      rintro e w7 (⟨pp, tb, h2, rfl, R7, C7⟩ | ⟨h2, rfl, C7⟩)
      rotate_left
      · have hpc : pc = none := HFAIL.out (by unfold pPart; rw [h1]; show (pNum ta).bind _ = _; rw [h2]; rfl)
        subst hpc
        exact ⟨rfl, .inr ⟨rfl, rfl, S6.chg.trans C7⟩⟩
      have S7 := S6.num R7 C7
      clear R7
      go_wp2_with fail
      refine (rdnum_any _ S7.rd).mono ?_
      rintro e w8 (⟨pa, tc, h3, rfl, R8, C8⟩ | ⟨h3, rfl, C8⟩)
      rotate_left
      · have hpc : pc = none := HFAIL.out (by unfold pPart; rw [h1]; show (pNum ta).bind _ = _; rw [h2]; show (pNum tb).bind _ = _; rw [h3]; rfl)
        subst hpc
        exact ⟨rfl, .inr ⟨rfl, rfl, S7.chg.trans C8⟩⟩
      have S8 := S7.num R8 C8
      clear R8
      have hs8 := S8.chg.size
      have C68 := (C6.trans C7).trans C8
      have O8 := own_chg HO.out C68 (fun j hj h => by have := (HO.out.lt j hj).1; have h0 := S8.l0; have h9 := S8.l1; have h10 := S8.lr; omega)
      have hv8 := Lib.hid (fun j hj => (O8.lt j hj).2)
      obtain ⟨wp, hwp⟩ : ∃ wp, w8.alloc (.cells #[.string { data := #[] }, .int .i64 pp, .int .i64 pa] 30) = wp := ⟨_, rfl⟩
      have Cp : Chg w8 wp (fun _ => False) := by rw [← hwp]; exact (Chg.refl w8 _).alloc _
      have BP := Box.new w8 30 #[.string { data := #[] }, .int .i64 pp, .int .i64 pa]
      rw [hwp] at BP
      have hT3w := S8.b3.lt
      have S9 := S8.keep Cp
      have HTK := take_any wp nl S9.rd
      have hlr := S8.lr
      have hl0 := S8.l0
      have hl1 := S8.l1
      clear S6 S7
      go_wp2_with fail
      refine HTK.mono ?_
      rintro e w9 (⟨k2, hk2, hk3, ao2, rfl, L2, hat2, R9, C9⟩ | ⟨hn, rfl, C9⟩)
      rotate_left
      · have hpc : pc = none := HFAIL.out (pPart_none h1 h2 h3 hn)
        subst hpc
        exact ⟨rfl, .inr ⟨rfl, rfl, S9.chg.trans (C9.mono (fun _ _ h => h.elim))⟩⟩
      have HPS := Lib.hid (pPart_some h1 h2 h3 hk2 hk3)
      have hk20 : k2 ≤ 20 := by omega
      have hnsz : (strOfNums (tc.take k2)).size ≤ maxLen := by rw [size_strOfNums, List.length_take]; unfold maxLen; omega
      have hcv := conv_src w9 L2.src
      obtain ⟨nm, hnme⟩ : ∃ nm, strOfNums (tc.take k2) = nm := ⟨_, rfl⟩
      rw [hnme] at HPS hcv hnsz
      have S9b := S9.num R9 C9
      have hPr : w8.heap.size ≠ r := by omega
      have BP9 := BP.chg C9 (fun h => hPr h)
      have u0 := BP9.cell 0
      have u1 := BP9.frozen 0
      have O9 := own_chg (own_chg O8 Cp (fun _ _ h => h)) C9 (fun j hj h => by have := (HO.out.lt j hj).1; omega)
      clear HTK hnme S9 R9
      obtain ⟨P, hP⟩ : ∃ P, w8.heap.size = P := ⟨_, rfl⟩
      rw [hP] at BP9 u0 u1
      have hPT : T3 < P := by omega
      obtain ⟨wq, hwq⟩ : ∃ wq, w9.setCell ⟨P, 0, none⟩ (.string nm) = wq := ⟨_, rfl⟩
      have Cq : Chg w9 wq (fun k => k = P) := by rw [← hwq]; exact (Chg.refl w9 (fun k => k = P)).setCell (p := ⟨P, 0, none⟩) (fun _ => rfl) _
      have BPq : Box wq P 30 #[.string nm, .int .i64 pp, .int .i64 pa] := by rw [← hwq]; exact BP9.set 0 _
      have Sq := S9b.turn Cq (fun k h => by omega)
      have Oq := own_chg O9 Cq (fun j hj h => by have := hv8.out j hj; omega)
      have p0 := BPq.cell 0
      have p1 := BPq.cell 1
      have p2 := BPq.cell 2
      have t3c := Sq.b3.cell 3
      have hsq := Sq.chg.size
      have hT3q := Sq.b3.lt
      have hN := ((Box.new wq 30 #[.string nm, .int .i64 pp, .int .i64 pa]).src 1 1 3 [.string nm, .int .i64 pp, .int .i64 pa] rfl rfl).get _ rfl
      go_wp2_with (at_builtin; go_loud (refine wpList_append_own _ rfl _ _ 23 rfl (T3 + 1) 30 i0 _ 3 32 Try.underlying23 hi0 hz0 hz1 hz2 rfl (by decide) _ _ _ rfl (own_alloc Oq _) ⟨wq.heap.size, 0, none⟩ 1 1 [.string nm, .int .i64 pp, .int .i64 pa] rfl rfl hN (by intro u hu; simp only [List.mem_cons, List.not_mem_nil, or_false] at hu; rcases hu with rfl | rfl | rfl <;> rfl) (by unfold maxLen; omega) (by omega) (by simp; omega) ?_); go_loud (intro v' wz Oz hgz _); go_loud (refine ?roundEnd))
      case roundEnd =>
        obtain ⟨az, cz, rfl, -⟩ := own_form Oz
        have Sa := Sq.keep ((Chg.refl wq (fun _ => False)).alloc (.cells #[.string nm, .int .i64 pp, .int .i64 pa] 30))
        obtain ⟨b3, Sz, Cz⟩ := Sa.grow hgz (fun j hj => (Oq.lt j hj).1) 3 (.slice az (l.length + 1) cz)
        have z3 := b3.cell 3
        have z4 := b3.frozen 3
        have Czc : Chg wz (wz.setCell ⟨T3, 3, none⟩ (.slice az (l.length + 1) cz)) (fun k => k = T3) := (Chg.refl wz (fun k => k = T3)).setCell (p := ⟨T3, 3, none⟩) (fun _ => rfl) _
        have Ozz := own_chg Oz Czc (fun j hj h => by have := (Oz.lt j hj).1; omega)
        have hl' : l.length + 1 = (l ++ [⟨nm, pp, pa⟩] : List PartD).length := by simp
        have hf' : l.flatMap partCells ++ [.string nm, .int .i64 pp, .int .i64 pa] = (l ++ [⟨nm, pp, pa⟩] : List PartD).flatMap partCells := by rw [List.flatMap_append]; rfl
        have HSZ := Lib.hid Sz
        have HOZ := Lib.hid Ozz
        have HLF := Lib.hid hf'
        clear hl' hf' Sz Ozz Cz Czc Oz hgz Sa
        go_wp2_with fail
        go_roundg (gk - 1)
        case measure => have := HK.out; omega
        case rel =>
          refine ⟨k + 1, l ++ [⟨nm, pp, pa⟩], tc.drop k2, .slice az (l.length + 1) cz, by have := HK.out; omega, by go_num, pList_step HPL.out HPS.out, by rw [List.length_append, HLK.out]; rfl, ?_, HSZ.out, ?_⟩
          · intro p hp
            rcases List.mem_append.1 hp with hp | hp
            · exact HNM.out p hp
            · rw [List.mem_singleton.1 hp]; exact hnsz
          · rw [← HLF.out, show (l ++ [⟨nm, pp, pa⟩] : List PartD).length = l.length + 1 by simp]
            exact HOZ.out
    · obtain rfl : N = k := by omega
      have HC8 : Hid (pc = pTail2 pg mj sw l t) := by show _ = _; rw [HC7.out, hpl]; rfl
      have Ov := O
      have hlr := S.lr
      have hl0 := S.l0
      have hl1 := S.l1
      clear HC7 hpl O HPL S5 hk hlk HLK
      go_wp2_with fail
      refine (rdcount_any _ 16 S.rd).mono ?_
      rintro e wc (⟨nn, t5, h1, rfl, Rc, Cc⟩ | ⟨h1, rfl, Cc⟩)
      rotate_left
      · have hpc : pc = none := by rw [HC8.out]; unfold pTail2; rw [h1]; rfl
        subst hpc
        exact ⟨rfl, .inr ⟨rfl, rfl, S.chg.trans Cc⟩⟩
      have HC9 : Hid (pc = (pList pChan nn.toNat t5).bind fun cs => pTail3 pg mj sw l cs.1 cs.2) := by show _ = _; rw [HC8.out]; unfold pTail2; rw [h1]; rfl
      have hnn := pCount_le h1
      have Sc := S.num Rc Cc
      have hlrc := Sc.lr
      have hl0c := Sc.l0
      have hl1c := Sc.l1
      have hT3c := Sc.b3.lt
      have Ovc := own_chg Ov Cc (fun j hj h => by have := (Ov.lt j hj).1; omega)
      clear HC8 h1 S Rc Cc Ov
      obtain ⟨N2, hNN⟩ : ∃ N, nn.toNat = N := ⟨_, rfl⟩
      rw [hNN] at HC9
      go_wp2_with fail
      go_loopg [44] N2 (fun g s44 wr => ∃ k : Nat, ∃ l2 t v2, g + k = N2 ∧ s44 = .int .i64 k ∧ pList pChan k t5 = some (l2, t) ∧ l2.length = k ∧ RSt w wr r gb T2 T3 t #[.int .i64 pg, .int .i64 mj, .int .i64 sw, v, v2, .slice none 0 0] ∧ wr.ownsRow (T3 + 1) 32 5 v2 l2.length (l2.flatMap chanCells) ∧ wr.ownsRow (T3 + 1) 30 3 v l.length (l.flatMap partCells))
      case atStart => exact ⟨0, [], t5, _, Nat.add_zero _, rfl, rfl, rfl, Sc, World.ownsRow_nil _ _ _ _, Ovc⟩
      case round =>
        clear Sc Ovc
        obtain ⟨k, l2, t, v2, hk, rfl, hpl, hlk, S, O, Ov⟩ := hrel
        have HK := Lib.hid hk
        have HPL := Lib.hid hpl
        have HLK := Lib.hid hlk
        by_cases hlt : k < N2
        · have hkI : (k : Int) < nn := by omega
          have hk0 : (0 : Int) ≤ (k : Int) := by omega
          have HFAIL : Hid (pChan t = none → pc = none) := fun h => by rw [HC9.out, pList_fail hpl h hlt]; rfl
          have hll : l2.length < 16 := by omega
          have Sd := S.keep ((Chg.refl wr (fun _ => False)).drew)
          have tq := S.b3.cell 4
          have HO := Lib.hid O
          have HOv := Lib.hid Ov
          clear hk hpl hlk O S Ov
          go_wp2_with fail
          refine wp_region_L 16 (fun w' => w'.cell? ⟨T3, 4, none⟩ = some v2) (by kernel_rfl) (tq) (fun hHeld => ?_)
          refine wpAnyL_take (i := 0) (oi := ?oif0) (v := ?vf0) ?hif0 (by kernel_rfl) (by kernel_rfl) (by kernel_rfl) (by kernel_rfl) ?hpf0 (Or.inl ⟨?hwf0, ?hyf0⟩) (by assumption) ?hrf0
          case hif0 => simp only [List.getElem?_toArray, List.getElem?_cons_succ, List.getElem?_cons_zero]; rfl
          case hpf0 => exact fun _ _ _ h => h
          case hwf0 => rfl
          case hyf0 => intro wq hSq; (try dsimp only at hSq); go_simp; (try with_reducible rfl)
          try simp only [Act.put, List.setIfInBounds_toArray, List.set_cons_zero, List.set_cons_succ]
          refine wpAnyL_take (i := 1) (oi := ?oif1) (v := ?vf1) ?hif1 (by kernel_rfl) (by kernel_rfl) (by kernel_rfl) (by kernel_rfl) ?hpf1 (Or.inl ⟨?hwf1, ?hyf1⟩) (by assumption) ?hrf1
          case hif1 => simp only [List.getElem?_toArray, List.getElem?_cons_succ, List.getElem?_cons_zero]; rfl
          case hpf1 => exact fun _ _ _ h => h
          case hwf1 => rfl
          case hyf1 => intro wq hSq; (try dsimp only at hSq); go_simp; (try with_reducible rfl)
          try simp only [Act.put, List.setIfInBounds_toArray, List.set_cons_zero, List.set_cons_succ]
          refine wpAnyL_take (i := 2) (oi := ?oif2) (v := ?vf2) ?hif2 (by kernel_rfl) (by kernel_rfl) (by kernel_rfl) (by kernel_rfl) ?hpf2 (Or.inl ⟨?hwf2, ?hyf2⟩) (by assumption) ?hrf2
          case hif2 => simp only [List.getElem?_toArray, List.getElem?_cons_succ, List.getElem?_cons_zero]; rfl
          case hpf2 => exact fun _ _ _ h => h
          case hwf2 => rfl
          case hyf2 => intro wq hSq; (try dsimp only at hSq); go_simp; (try with_reducible rfl)
          try simp only [Act.put, List.setIfInBounds_toArray, List.set_cons_zero, List.set_cons_succ]
          refine wpAnyL_take (i := 4) (oi := ?oif4) (v := ?vf4) ?hif4 (by kernel_rfl) (by kernel_rfl) (by kernel_rfl) (by kernel_rfl) ?hpf4 (Or.inl ⟨?hwf4, ?hyf4⟩) (by assumption) ?hrf4
          case hif4 => simp only [List.getElem?_toArray, List.getElem?_cons_succ, List.getElem?_cons_zero]; rfl
          case hpf4 => exact fun _ _ _ h => h
          case hwf4 => rfl
          case hyf4 => intro wq hSq; (try dsimp only at hSq); go_simp; (try with_reducible rfl)
          try simp only [Act.put, List.setIfInBounds_toArray, List.set_cons_zero, List.set_cons_succ]
          refine wpAnyL_take (i := 6) (oi := ?oif6) (v := ?vf6) ?hif6 (by kernel_rfl) (by kernel_rfl) (by kernel_rfl) (by kernel_rfl) ?hpf6 (Or.inl ⟨?hwf6, ?hyf6⟩) (by assumption) ?hrf6
          case hif6 => simp only [List.getElem?_toArray, List.getElem?_cons_succ, List.getElem?_cons_zero]; rfl
          case hpf6 => exact fun _ _ _ h => h
          case hwf6 => rfl
          case hyf6 => intro wq hSq; (try dsimp only at hSq); go_simp; (try with_reducible rfl)
          try simp only [Act.put, List.setIfInBounds_toArray, List.set_cons_zero, List.set_cons_succ]
          refine wpAnyL_take (i := 8) (oi := ?oif8) (v := ?vf8) ?hif8 (by kernel_rfl) (by kernel_rfl) (by kernel_rfl) (by kernel_rfl) ?hpf8 (Or.inl ⟨?hwf8, ?hyf8⟩) (by assumption) ?hrf8
          case hif8 => simp only [List.getElem?_toArray, List.getElem?_cons_succ, List.getElem?_cons_zero]; rfl
          case hpf8 => exact fun _ _ _ h => h
          case hwf8 => rfl
          case hyf8 => intro wq hSq; (try dsimp only at hSq); go_simp; (try with_reducible rfl)
          try simp only [Act.put, List.setIfInBounds_toArray, List.set_cons_zero, List.set_cons_succ]
          refine wpAnyL_take (i := 10) (oi := ?oif10) (v := ?vf10) ?hif10 (by kernel_rfl) (by kernel_rfl) (by kernel_rfl) (by kernel_rfl) ?hpf10 (Or.inl ⟨?hwf10, ?hyf10⟩) (by assumption) ?hrf10
          case hif10 => simp only [List.getElem?_toArray, List.getElem?_cons_succ, List.getElem?_cons_zero]; rfl
          case hpf10 => exact fun _ _ _ h => h
          case hwf10 => rfl
          case hyf10 => intro wq hSq; (try dsimp only at hSq); go_simp; (try with_reducible rfl)
          try simp only [Act.put, List.setIfInBounds_toArray, List.set_cons_zero, List.set_cons_succ]
          refine wpAnyL_ready (rs := [3]) (by kernel_rfl) (by simp) ?_
          refine AllReadyL.cons rfl (fun K hK => ?_) AllReadyL.nil
          go_simp
          refine (rdnum_any _ Sd.rd).mono ?_
          rintro e y0 (⟨xa, tn0, g0, rfl, Rn0, Cn0⟩ | ⟨g0, rfl, Cn0⟩)
          rotate_left
          · have hpc : pc = none := HFAIL.out (by unfold pChan; simp only [g0, Option.bind_some, Option.bind_none])
            subst hpc
            exact ⟨rfl, .inr ⟨rfl, rfl, Sd.chg.trans Cn0⟩⟩
          have Sn0 := Sd.num Rn0 Cn0
          clear Rn0
          refine hK.out _ _ (.inl (Sn0.b3.cell 4)) (fun hHeld => ?_)
          replace hHeld := SOr.stands hHeld (by kernel_rfl)
          clear hK K
          try simp only [Act.put, List.setIfInBounds_toArray, List.set_cons_zero, List.set_cons_succ]
          refine wpAnyL_ready (rs := [5]) (by kernel_rfl) (by simp) ?_
          refine AllReadyL.cons rfl (fun K hK => ?_) AllReadyL.nil
          go_simp
          refine (rdnum_any _ Sn0.rd).mono ?_
          rintro e y1 (⟨xb, tn1, g1, rfl, Rn1, Cn1⟩ | ⟨g1, rfl, Cn1⟩)
          rotate_left
          · have hpc : pc = none := HFAIL.out (by unfold pChan; simp only [g0, g1, Option.bind_some, Option.bind_none])
            subst hpc
            exact ⟨rfl, .inr ⟨rfl, rfl, Sn0.chg.trans Cn1⟩⟩
          have Sn1 := Sn0.num Rn1 Cn1
          clear Rn1
          refine hK.out _ _ (.inl (Sn1.b3.cell 4)) (fun hHeld => ?_)
          replace hHeld := SOr.stands hHeld (by kernel_rfl)
          clear hK K
          try simp only [Act.put, List.setIfInBounds_toArray, List.set_cons_zero, List.set_cons_succ]
          refine wpAnyL_ready (rs := [7]) (by kernel_rfl) (by simp) ?_
          refine AllReadyL.cons rfl (fun K hK => ?_) AllReadyL.nil
          go_simp
          refine (rdnum_any _ Sn1.rd).mono ?_
          rintro e y2 (⟨xc, tn2, g2, rfl, Rn2, Cn2⟩ | ⟨g2, rfl, Cn2⟩)
          rotate_left
          · have hpc : pc = none := HFAIL.out (by unfold pChan; simp only [g0, g1, g2, Option.bind_some, Option.bind_none])
            subst hpc
            exact ⟨rfl, .inr ⟨rfl, rfl, Sn1.chg.trans Cn2⟩⟩
          have Sn2 := Sn1.num Rn2 Cn2
          clear Rn2
          refine hK.out _ _ (.inl (Sn2.b3.cell 4)) (fun hHeld => ?_)
          replace hHeld := SOr.stands hHeld (by kernel_rfl)
          clear hK K
          try simp only [Act.put, List.setIfInBounds_toArray, List.set_cons_zero, List.set_cons_succ]
          refine wpAnyL_ready (rs := [9]) (by kernel_rfl) (by simp) ?_
          refine AllReadyL.cons rfl (fun K hK => ?_) AllReadyL.nil
          go_simp
          refine (rdnum_any _ Sn2.rd).mono ?_
          rintro e y3 (⟨xd, tn3, g3, rfl, Rn3, Cn3⟩ | ⟨g3, rfl, Cn3⟩)
          rotate_left
          · have hpc : pc = none := HFAIL.out (by unfold pChan; simp only [g0, g1, g2, g3, Option.bind_some, Option.bind_none])
            subst hpc
            exact ⟨rfl, .inr ⟨rfl, rfl, Sn2.chg.trans Cn3⟩⟩
          have Sn3 := Sn2.num Rn3 Cn3
          clear Rn3
          refine hK.out _ _ (.inl (Sn3.b3.cell 4)) (fun hHeld => ?_)
          replace hHeld := SOr.stands hHeld (by kernel_rfl)
          clear hK K
          try simp only [Act.put, List.setIfInBounds_toArray, List.set_cons_zero, List.set_cons_succ]
          refine wpAnyL_ready (rs := [11]) (by kernel_rfl) (by simp) ?_
          refine AllReadyL.cons rfl (fun K hK => ?_) AllReadyL.nil
          go_simp
          refine (rdnum_any _ Sn3.rd).mono ?_
          rintro e y4 (⟨xe, tn4, g4, rfl, Rn4, Cn4⟩ | ⟨g4, rfl, Cn4⟩)
          rotate_left
          · have hpc : pc = none := HFAIL.out (by unfold pChan; simp only [g0, g1, g2, g3, g4, Option.bind_some, Option.bind_none])
            subst hpc
            exact ⟨rfl, .inr ⟨rfl, rfl, Sn3.chg.trans Cn4⟩⟩
          have Sn4 := Sn3.num Rn4 Cn4
          clear Rn4
          refine hK.out _ _ (.inl (Sn4.b3.cell 4)) (fun hHeld => ?_)
          replace hHeld := SOr.stands hHeld (by kernel_rfl)
          clear hK K
          try simp only [Act.put, List.setIfInBounds_toArray, List.set_cons_zero, List.set_cons_succ]
          refine wpAnyL_take (i := 12) (oi := ?oih12) (v := ?vh12) ?hih12 (by kernel_rfl) (by kernel_rfl) (by kernel_rfl) (by kernel_rfl) ?hph12 (Or.inl ⟨?hwh12, ?hyh12⟩) (by assumption) ?hrh12
          case hih12 => simp only [List.getElem?_toArray, List.getElem?_cons_succ, List.getElem?_cons_zero]; rfl
          case hph12 => exact fun _ _ _ h => h
          case hwh12 => rfl
          case hyh12 => intro wq hSq; (try dsimp only at hSq); go_simp; (try with_reducible rfl)
          try simp only [Act.put, List.setIfInBounds_toArray, List.set_cons_zero, List.set_cons_succ]
          have HPS : Hid (pChan t = some (⟨xa, xb, xc, xd, xe⟩, tn4)) := by show _ = _; unfold pChan; simp only [g0, g1, g2, g3, g4, Option.bind_some]
          have Call := (((((((Chg.refl wr (fun j => j = r)).drew).trans Cn0).trans Cn1).trans Cn2).trans Cn3).trans Cn4)
          have Oq := own_chg HO.out Call (fun j hj h => by have := (HO.out.lt j hj).1; omega)
          have Ovq := own_chg HOv.out Call (fun j hj h => by have := (HOv.out.lt j hj).1; omega)
          have hsq := Sn4.chg.size
          have hT3q := Sn4.b3.lt
          have SRC := (Box.new y4 32 #[.int .i64 xa, .int .i64 xb, .int .i64 xc, .int .i64 xd, .int .i64 xe]).src 1 1 5 [.int .i64 xa, .int .i64 xb, .int .i64 xc, .int .i64 xd, .int .i64 xe] rfl rfl
          have Ca := (Chg.refl y4 (fun _ => False)).alloc (.cells #[.int .i64 xa, .int .i64 xb, .int .i64 xc, .int .i64 xd, .int .i64 xe] 32)
          have Sa := Sn4.keep Ca
          clear Sn0 Sn1 Sn2 Sn3 g0 g1 g2 g3 g4 Sd HFAIL Call Cn0 Cn1 Cn2 Cn3 Cn4
          refine wpAnyL_ready (rs := [13]) (by kernel_rfl) (by simp) ?_
          refine AllReadyL.cons rfl (fun K hK => ?_) AllReadyL.nil
          go_simp
          refine hK.out _ _ (.inl (Sa.b3.cell 4)) (fun hHeld => ?_)
          replace hHeld := SOr.stands hHeld (by kernel_rfl)
          clear hK K
          try simp only [Act.put, List.setIfInBounds_toArray, List.set_cons_zero, List.set_cons_succ]
          refine wpAnyL_ready (rs := [14]) (by kernel_rfl) (by simp) ?_
          refine AllReadyL.cons rfl (fun K hK => ?_) AllReadyL.nil
          refine op_append_src (.tmp 47) (.tmp 59) _ rfl (T3 + 1) 32 i2 _ 5 40 Try.underlying24 hi2 hy0 hy1 hy2 rfl (by decide) _ l2.length _ rfl (own_alloc Oq _) (some ⟨y4.heap.size, 0, none⟩) 1 1 [.int .i64 xa, .int .i64 xb, .int .i64 xc, .int .i64 xd, .int .i64 xe] rfl SRC (by intro u hu; simp only [List.mem_cons, List.not_mem_nil, or_false] at hu; rcases hu with rfl | rfl | rfl | rfl | rfl <;> rfl) (by unfold maxLen; omega) (by omega) (by simp; omega) ?_
          intro v' wz Oz hgz
          obtain ⟨az, cz, rfl, -⟩ := own_form Oz
          obtain ⟨b3, Sz, Cz⟩ := Sa.grow hgz (fun j hj => (Oq.lt j hj).1) 4 (.slice az (l2.length + 1) cz)
          change K (Act.put _ (some 60) _) _
          simp only [Act.put, List.setIfInBounds_toArray, List.set_cons_zero, List.set_cons_succ]
          refine hK.out _ _ (.inl (b3.cell 4)) (fun hHeld => ?_)
          replace hHeld := SOr.stands hHeld (by kernel_rfl)
          clear hK K
          try simp only [Act.put, List.setIfInBounds_toArray, List.set_cons_zero, List.set_cons_succ]
          refine wpAnyL_take (i := 15) (oi := ?oii15) (v := ?vi15) ?hii15 (by kernel_rfl) (by kernel_rfl) (by kernel_rfl) (by kernel_rfl) ?hpi15 (Or.inl ⟨?hwi15, ?hyi15⟩) (by assumption) ?hri15
          case hii15 => simp only [List.getElem?_toArray, List.getElem?_cons_succ, List.getElem?_cons_zero]; rfl
          case hpi15 => exact fun _ _ _ h => h
          case hwi15 => rfl
          case hyi15 => intro wq hSq; (try dsimp only at hSq); go_simp; (try with_reducible rfl)
          try simp only [Act.put, List.setIfInBounds_toArray, List.set_cons_zero, List.set_cons_succ]
          have z3 := b3.cell 4
          have z4 := b3.frozen 4
          refine wpAnyL_ready (rs := [16]) (by kernel_rfl) (by simp) ?_
          refine AllReadyL.cons rfl (fun K hK => ?_) AllReadyL.nil
          go_simp
          refine hK.out _ _ (.inr (by kernel_rfl)) (fun _ => ?_)
          clear hK K
          try simp only [Act.put, List.setIfInBounds_toArray, List.set_cons_zero, List.set_cons_succ]
          refine wpAnyL_done (by kernel_rfl) ?_ _
          have Czc : Chg wz (wz.setCell ⟨T3, 4, none⟩ (.slice az (l2.length + 1) cz)) (fun k => k = T3) := (Chg.refl wz (fun k => k = T3)).setCell (p := ⟨T3, 4, none⟩) (fun _ => rfl) _
          have Ozz := own_chg Oz Czc (fun j hj h => by have := (Oz.lt j hj).1; omega)
          have hf' : l2.flatMap chanCells ++ [.int .i64 xa, .int .i64 xb, .int .i64 xc, .int .i64 xd, .int .i64 xe] = (l2 ++ [⟨xa, xb, xc, xd, xe⟩] : List ChanD).flatMap chanCells := by rw [List.flatMap_append]; rfl
          have HOvz := Lib.hid (own_chg (own_chg Ovq Ca (fun _ _ h => h)) Cz (fun j hj h => by
            rcases h with h | h
            · have := (Ovq.lt j hj).1; omega
            · exact own_own_ne Ovq Oq (by decide) j hj h))
          have HSZ := Lib.hid Sz
          have HOZ := Lib.hid Ozz
          have HLF := Lib.hid hf'
          clear hf' Sz Ozz Cz Czc Oz hgz Sa Ca
          go_wp2_with fail
          go_roundg (gk - 1)
          case measure => have := HK.out; omega
          case rel =>
            refine ⟨k + 1, l2 ++ [⟨xa, xb, xc, xd, xe⟩], tn4, .slice az (l2.length + 1) cz, by have := HK.out; omega, by go_num, pList_step HPL.out HPS.out, by rw [List.length_append, HLK.out]; rfl, HSZ.out, ?_, HOvz.out⟩
            rw [← HLF.out, show (l2 ++ [⟨xa, xb, xc, xd, xe⟩] : List ChanD).length = l2.length + 1 by simp]
            exact HOZ.out
        · obtain rfl : N2 = k := by omega
          have HC10 : Hid (pc = pTail3 pg mj sw l l2 t) := by show _ = _; rw [HC9.out, hpl]; rfl
          have Ov2 := O
          clear HC9 hpl hlk HLK HPL O hk
          go_wp2_with fail
          refine (rdcount_any _ 32 S.rd).mono ?_
          rintro e wc (⟨nn, t6, h1, rfl, Rc, Cc⟩ | ⟨h1, rfl, Cc⟩)
          rotate_left
          · have hpc : pc = none := by rw [HC10.out]; unfold pTail3; rw [h1]; rfl
            subst hpc
            exact ⟨rfl, .inr ⟨rfl, rfl, S.chg.trans Cc⟩⟩
          have HC11 : Hid (pc = (pList pWin nn.toNat t6).bind fun ws => some (⟨pg, mj, sw, l, l2, ws.1⟩, ws.2)) := by show _ = _; rw [HC10.out]; unfold pTail3; rw [h1]; rfl
          have hnn := pCount_le h1
          have Sc := S.num Rc Cc
          have hlrc := Sc.lr
          have hl0c := Sc.l0
          have hl1c := Sc.l1
          have hT3c := Sc.b3.lt
          have Ovc := own_chg Ov Cc (fun j hj h => by have := (Ov.lt j hj).1; omega)
          have Ov2c := own_chg Ov2 Cc (fun j hj h => by have := (Ov2.lt j hj).1; omega)
          clear HC10 h1 S Rc Cc Ov Ov2
          obtain ⟨N3, hNN⟩ : ∃ N, nn.toNat = N := ⟨_, rfl⟩
          rw [hNN] at HC11
          go_wp2_with fail
          go_loopg [65] N3 (fun g s65 wr => ∃ k : Nat, ∃ l3 t v3, g + k = N3 ∧ s65 = .int .i64 k ∧ pList pWin k t6 = some (l3, t) ∧ l3.length = k ∧ RSt w wr r gb T2 T3 t #[.int .i64 pg, .int .i64 mj, .int .i64 sw, v, v2, v3] ∧ wr.ownsRow (T3 + 1) 34 3 v3 l3.length (l3.flatMap winCells) ∧ wr.ownsRow (T3 + 1) 30 3 v l.length (l.flatMap partCells) ∧ wr.ownsRow (T3 + 1) 32 5 v2 l2.length (l2.flatMap chanCells))
          case atStart => exact ⟨0, [], t6, _, Nat.add_zero _, rfl, rfl, rfl, Sc, World.ownsRow_nil _ _ _ _, Ovc, Ov2c⟩
          case round =>
            clear Sc Ovc Ov2c
            obtain ⟨k, l3, t, v3, hk, rfl, hpl, hlk, S, O, Ov, Ov2⟩ := hrel
            have HK := Lib.hid hk
            have HPL := Lib.hid hpl
            have HLK := Lib.hid hlk
            by_cases hlt : k < N3
            · have hkI : (k : Int) < nn := by omega
              have hk0 : (0 : Int) ≤ (k : Int) := by omega
              have HFAIL : Hid (pWin t = none → pc = none) := fun h => by rw [HC11.out, pList_fail hpl h hlt]; rfl
              have hll : l3.length < 32 := by omega
              have Sd := S.keep ((Chg.refl wr (fun _ => False)).drew)
              have tq := S.b3.cell 5
              have HO := Lib.hid O
              have HOv := Lib.hid Ov
              have HOv2 := Lib.hid Ov2
              clear hk hpl hlk O S Ov Ov2
              go_wp2_with fail
              refine wp_region_L 12 (fun w' => w'.cell? ⟨T3, 5, none⟩ = some v3) (by kernel_rfl) (tq) (fun hHeld => ?_)
              refine wpAnyL_take (i := 0) (oi := ?oig0) (v := ?vg0) ?hig0 (by kernel_rfl) (by kernel_rfl) (by kernel_rfl) (by kernel_rfl) ?hpg0 (Or.inl ⟨?hwg0, ?hyg0⟩) (by assumption) ?hrg0
              case hig0 => simp only [List.getElem?_toArray, List.getElem?_cons_succ, List.getElem?_cons_zero]; rfl
              case hpg0 => exact fun _ _ _ h => h
              case hwg0 => rfl
              case hyg0 => intro wq hSq; (try dsimp only at hSq); go_simp; (try with_reducible rfl)
              try simp only [Act.put, List.setIfInBounds_toArray, List.set_cons_zero, List.set_cons_succ]
              refine wpAnyL_take (i := 1) (oi := ?oig1) (v := ?vg1) ?hig1 (by kernel_rfl) (by kernel_rfl) (by kernel_rfl) (by kernel_rfl) ?hpg1 (Or.inl ⟨?hwg1, ?hyg1⟩) (by assumption) ?hrg1
              case hig1 => simp only [List.getElem?_toArray, List.getElem?_cons_succ, List.getElem?_cons_zero]; rfl
              case hpg1 => exact fun _ _ _ h => h
              case hwg1 => rfl
              case hyg1 => intro wq hSq; (try dsimp only at hSq); go_simp; (try with_reducible rfl)
              try simp only [Act.put, List.setIfInBounds_toArray, List.set_cons_zero, List.set_cons_succ]
              refine wpAnyL_take (i := 2) (oi := ?oig2) (v := ?vg2) ?hig2 (by kernel_rfl) (by kernel_rfl) (by kernel_rfl) (by kernel_rfl) ?hpg2 (Or.inl ⟨?hwg2, ?hyg2⟩) (by assumption) ?hrg2
              case hig2 => simp only [List.getElem?_toArray, List.getElem?_cons_succ, List.getElem?_cons_zero]; rfl
              case hpg2 => exact fun _ _ _ h => h
              case hwg2 => rfl
              case hyg2 => intro wq hSq; (try dsimp only at hSq); go_simp; (try with_reducible rfl)
              try simp only [Act.put, List.setIfInBounds_toArray, List.set_cons_zero, List.set_cons_succ]
              refine wpAnyL_take (i := 4) (oi := ?oig4) (v := ?vg4) ?hig4 (by kernel_rfl) (by kernel_rfl) (by kernel_rfl) (by kernel_rfl) ?hpg4 (Or.inl ⟨?hwg4, ?hyg4⟩) (by assumption) ?hrg4
              case hig4 => simp only [List.getElem?_toArray, List.getElem?_cons_succ, List.getElem?_cons_zero]; rfl
              case hpg4 => exact fun _ _ _ h => h
              case hwg4 => rfl
              case hyg4 => intro wq hSq; (try dsimp only at hSq); go_simp; (try with_reducible rfl)
              try simp only [Act.put, List.setIfInBounds_toArray, List.set_cons_zero, List.set_cons_succ]
              refine wpAnyL_take (i := 6) (oi := ?oig6) (v := ?vg6) ?hig6 (by kernel_rfl) (by kernel_rfl) (by kernel_rfl) (by kernel_rfl) ?hpg6 (Or.inl ⟨?hwg6, ?hyg6⟩) (by assumption) ?hrg6
              case hig6 => simp only [List.getElem?_toArray, List.getElem?_cons_succ, List.getElem?_cons_zero]; rfl
              case hpg6 => exact fun _ _ _ h => h
              case hwg6 => rfl
              case hyg6 => intro wq hSq; (try dsimp only at hSq); go_simp; (try with_reducible rfl)
              try simp only [Act.put, List.setIfInBounds_toArray, List.set_cons_zero, List.set_cons_succ]
              refine wpAnyL_ready (rs := [3]) (by kernel_rfl) (by simp) ?_
              refine AllReadyL.cons rfl (fun K hK => ?_) AllReadyL.nil
              go_simp
              refine (rdnum_any _ Sd.rd).mono ?_
              rintro e y0 (⟨xa, tn0, g0, rfl, Rn0, Cn0⟩ | ⟨g0, rfl, Cn0⟩)
              rotate_left
              · have hpc : pc = none := HFAIL.out (by unfold pWin; simp only [g0, Option.bind_some, Option.bind_none])
                subst hpc
                exact ⟨rfl, .inr ⟨rfl, rfl, Sd.chg.trans Cn0⟩⟩
              have Sn0 := Sd.num Rn0 Cn0
              clear Rn0
              refine hK.out _ _ (.inl (Sn0.b3.cell 5)) (fun hHeld => ?_)
              replace hHeld := SOr.stands hHeld (by kernel_rfl)
              clear hK K
              try simp only [Act.put, List.setIfInBounds_toArray, List.set_cons_zero, List.set_cons_succ]
              refine wpAnyL_ready (rs := [5]) (by kernel_rfl) (by simp) ?_
              refine AllReadyL.cons rfl (fun K hK => ?_) AllReadyL.nil
              go_simp
              refine (rdnum_any _ Sn0.rd).mono ?_
              rintro e y1 (⟨xb, tn1, g1, rfl, Rn1, Cn1⟩ | ⟨g1, rfl, Cn1⟩)
              rotate_left
              · have hpc : pc = none := HFAIL.out (by unfold pWin; simp only [g0, g1, Option.bind_some, Option.bind_none])
                subst hpc
                exact ⟨rfl, .inr ⟨rfl, rfl, Sn0.chg.trans Cn1⟩⟩
              have Sn1 := Sn0.num Rn1 Cn1
              clear Rn1
              refine hK.out _ _ (.inl (Sn1.b3.cell 5)) (fun hHeld => ?_)
              replace hHeld := SOr.stands hHeld (by kernel_rfl)
              clear hK K
              try simp only [Act.put, List.setIfInBounds_toArray, List.set_cons_zero, List.set_cons_succ]
              refine wpAnyL_ready (rs := [7]) (by kernel_rfl) (by simp) ?_
              refine AllReadyL.cons rfl (fun K hK => ?_) AllReadyL.nil
              go_simp
              refine (rdnum_any _ Sn1.rd).mono ?_
              rintro e y2 (⟨xc, tn2, g2, rfl, Rn2, Cn2⟩ | ⟨g2, rfl, Cn2⟩)
              rotate_left
              · have hpc : pc = none := HFAIL.out (by unfold pWin; simp only [g0, g1, g2, Option.bind_some, Option.bind_none])
                subst hpc
                exact ⟨rfl, .inr ⟨rfl, rfl, Sn1.chg.trans Cn2⟩⟩
              have Sn2 := Sn1.num Rn2 Cn2
              clear Rn2
              refine hK.out _ _ (.inl (Sn2.b3.cell 5)) (fun hHeld => ?_)
              replace hHeld := SOr.stands hHeld (by kernel_rfl)
              clear hK K
              try simp only [Act.put, List.setIfInBounds_toArray, List.set_cons_zero, List.set_cons_succ]
              refine wpAnyL_take (i := 8) (oi := ?oij8) (v := ?vj8) ?hij8 (by kernel_rfl) (by kernel_rfl) (by kernel_rfl) (by kernel_rfl) ?hpj8 (Or.inl ⟨?hwj8, ?hyj8⟩) (by assumption) ?hrj8
              case hij8 => simp only [List.getElem?_toArray, List.getElem?_cons_succ, List.getElem?_cons_zero]; rfl
              case hpj8 => exact fun _ _ _ h => h
              case hwj8 => rfl
              case hyj8 => intro wq hSq; (try dsimp only at hSq); go_simp; (try with_reducible rfl)
              try simp only [Act.put, List.setIfInBounds_toArray, List.set_cons_zero, List.set_cons_succ]
              have HPS : Hid (pWin t = some (⟨xa, xb, xc⟩, tn2)) := by show _ = _; unfold pWin; simp only [g0, g1, g2, Option.bind_some]
              have Call := (((((Chg.refl wr (fun j => j = r)).drew).trans Cn0).trans Cn1).trans Cn2)
              have Oq := own_chg HO.out Call (fun j hj h => by have := (HO.out.lt j hj).1; omega)
              have Ovq := own_chg HOv.out Call (fun j hj h => by have := (HOv.out.lt j hj).1; omega)
              have Ov2q := own_chg HOv2.out Call (fun j hj h => by have := (HOv2.out.lt j hj).1; omega)
              have hsq := Sn2.chg.size
              have hT3q := Sn2.b3.lt
              have SRC := (Box.new y2 34 #[.int .i64 xa, .int .i64 xb, .int .i64 xc]).src 1 1 3 [.int .i64 xa, .int .i64 xb, .int .i64 xc] rfl rfl
              have Ca := (Chg.refl y2 (fun _ => False)).alloc (.cells #[.int .i64 xa, .int .i64 xb, .int .i64 xc] 34)
              have Sa := Sn2.keep Ca
              clear Sn0 Sn1 g0 g1 g2 Sd HFAIL Call Cn0 Cn1 Cn2
              refine wpAnyL_ready (rs := [9]) (by kernel_rfl) (by simp) ?_
              refine AllReadyL.cons rfl (fun K hK => ?_) AllReadyL.nil
              go_simp
              refine hK.out _ _ (.inl (Sa.b3.cell 5)) (fun hHeld => ?_)
              replace hHeld := SOr.stands hHeld (by kernel_rfl)
              clear hK K
              try simp only [Act.put, List.setIfInBounds_toArray, List.set_cons_zero, List.set_cons_succ]
              refine wpAnyL_ready (rs := [10]) (by kernel_rfl) (by simp) ?_
              refine AllReadyL.cons rfl (fun K hK => ?_) AllReadyL.nil
              refine op_append_src (.tmp 68) (.tmp 76) _ rfl (T3 + 1) 34 i3 _ 3 24 Try.underlying25 hi3 hx0 hx1 hx2 rfl (by decide) _ l3.length _ rfl (own_alloc Oq _) (some ⟨y2.heap.size, 0, none⟩) 1 1 [.int .i64 xa, .int .i64 xb, .int .i64 xc] rfl SRC (by intro u hu; simp only [List.mem_cons, List.not_mem_nil, or_false] at hu; rcases hu with rfl | rfl | rfl <;> rfl) (by unfold maxLen; omega) (by omega) (by simp; omega) ?_
              intro v' wz Oz hgz
              obtain ⟨az, cz, rfl, -⟩ := own_form Oz
              obtain ⟨b3, Sz, Cz⟩ := Sa.grow hgz (fun j hj => (Oq.lt j hj).1) 5 (.slice az (l3.length + 1) cz)
              change K (Act.put _ (some 77) _) _
              simp only [Act.put, List.setIfInBounds_toArray, List.set_cons_zero, List.set_cons_succ]
              refine hK.out _ _ (.inl (b3.cell 5)) (fun hHeld => ?_)
              replace hHeld := SOr.stands hHeld (by kernel_rfl)
              clear hK K
              try simp only [Act.put, List.setIfInBounds_toArray, List.set_cons_zero, List.set_cons_succ]
              refine wpAnyL_take (i := 11) (oi := ?oik11) (v := ?vk11) ?hik11 (by kernel_rfl) (by kernel_rfl) (by kernel_rfl) (by kernel_rfl) ?hpk11 (Or.inl ⟨?hwk11, ?hyk11⟩) (by assumption) ?hrk11
              case hik11 => simp only [List.getElem?_toArray, List.getElem?_cons_succ, List.getElem?_cons_zero]; rfl
              case hpk11 => exact fun _ _ _ h => h
              case hwk11 => rfl
              case hyk11 => intro wq hSq; (try dsimp only at hSq); go_simp; (try with_reducible rfl)
              try simp only [Act.put, List.setIfInBounds_toArray, List.set_cons_zero, List.set_cons_succ]
              have z3 := b3.cell 5
              have z4 := b3.frozen 5
              refine wpAnyL_ready (rs := [12]) (by kernel_rfl) (by simp) ?_
              refine AllReadyL.cons rfl (fun K hK => ?_) AllReadyL.nil
              go_simp
              refine hK.out _ _ (.inr (by kernel_rfl)) (fun _ => ?_)
              clear hK K
              try simp only [Act.put, List.setIfInBounds_toArray, List.set_cons_zero, List.set_cons_succ]
              refine wpAnyL_done (by kernel_rfl) ?_ _
              have Czc : Chg wz (wz.setCell ⟨T3, 5, none⟩ (.slice az (l3.length + 1) cz)) (fun k => k = T3) := (Chg.refl wz (fun k => k = T3)).setCell (p := ⟨T3, 5, none⟩) (fun _ => rfl) _
              have Ozz := own_chg Oz Czc (fun j hj h => by have := (Oz.lt j hj).1; omega)
              have hf' : l3.flatMap winCells ++ [.int .i64 xa, .int .i64 xb, .int .i64 xc] = (l3 ++ [⟨xa, xb, xc⟩] : List WinD).flatMap winCells := by rw [List.flatMap_append]; rfl
              have HOvz := Lib.hid (own_chg (own_chg Ovq Ca (fun _ _ h => h)) Cz (fun j hj h => by
                rcases h with h | h
                · have := (Ovq.lt j hj).1; omega
                · exact own_own_ne Ovq Oq (by decide) j hj h))
              have HOv2z := Lib.hid (own_chg (own_chg Ov2q Ca (fun _ _ h => h)) Cz (fun j hj h => by
                rcases h with h | h
                · have := (Ov2q.lt j hj).1; omega
                · exact own_own_ne Ov2q Oq (by decide) j hj h))
              have HSZ := Lib.hid Sz
              have HOZ := Lib.hid Ozz
              have HLF := Lib.hid hf'
              clear hf' Sz Ozz Cz Czc Oz hgz Sa Ca
              go_wp2_with fail
              go_roundg (gk - 1)
              case measure => have := HK.out; omega
              case rel =>
                refine ⟨k + 1, l3 ++ [⟨xa, xb, xc⟩], tn2, .slice az (l3.length + 1) cz, by have := HK.out; omega, by go_num, pList_step HPL.out HPS.out, by rw [List.length_append, HLK.out]; rfl, HSZ.out, ?_, HOvz.out, HOv2z.out⟩
                rw [← HLF.out, show (l3 ++ [⟨xa, xb, xc⟩] : List WinD).length = l3.length + 1 by simp]
                exact HOZ.out
            · obtain rfl : N3 = k := by omega
              have HC12 : Hid (pc = some (⟨pg, mj, sw, l, l2, l3⟩, t)) := by show _ = _; rw [HC11.out, hpl]; rfl
              have Ov3 := O
              clear HC11 hpl hlk HLK HPL O hk
              obtain ⟨a1, c1, rfl, -⟩ := own_form Ov
              obtain ⟨a2, c2, rfl, -⟩ := own_form Ov2
              obtain ⟨a3, c3, rfl, -⟩ := own_form Ov3
              have hpc := HC12.out
              subst hpc
              have e0 := S.b3.cell 0
              have f0 := S.b2.cell 0
              have m0 := S.b2.frozen 0
              have e1 := S.b3.cell 1
              have f1 := S.b2.cell 1
              have m1 := S.b2.frozen 1
              have e2 := S.b3.cell 2
              have f2 := S.b2.cell 2
              have m2 := S.b2.frozen 2
              have e3 := S.b3.cell 3
              have f3 := S.b2.cell 3
              have m3 := S.b2.frozen 3
              have e4 := S.b3.cell 4
              have f4 := S.b2.cell 4
              have m4 := S.b2.frozen 4
              have e5 := S.b3.cell 5
              have f5 := S.b2.cell 5
              have m5 := S.b2.frozen 5
              have hT23 : T2 ≠ T3 := by have := S.l1; omega
              have hT32 : T3 ≠ T2 := fun h => hT23 h.symm
              have HS := Lib.hid S
              have HO1 := Lib.hid Ov
              have HO2 := Lib.hid Ov2
              have HO3 := Lib.hid Ov3
              clear S Ov Ov2 Ov3 HC12
              go_wp2_with fail
              have hl0w := HS.out.l0
              have hl1w := HS.out.l1
              have CW : Chg wr ((((((wr.setCell ⟨T2, 0, none⟩ (.int .i64 pg)).setCell ⟨T2, 1, none⟩ (.int .i64 mj)).setCell ⟨T2, 2, none⟩ (.int .i64 sw)).setCell ⟨T2, 3, none⟩ (.slice a1 l.length c1)).setCell ⟨T2, 4, none⟩ (.slice a2 l2.length c2)).setCell ⟨T2, 5, none⟩ (.slice a3 l3.length c3)) (fun k => k = T2) :=
                ((((((Chg.refl wr (fun k => k = T2)).setCell (p := ⟨T2, 0, none⟩) (fun _ => rfl) _).setCell (p := ⟨T2, 1, none⟩) (fun _ => rfl) _).setCell (p := ⟨T2, 2, none⟩) (fun _ => rfl) _).setCell (p := ⟨T2, 3, none⟩) (fun _ => rfl) _).setCell (p := ⟨T2, 4, none⟩) (fun _ => rfl) _).setCell (p := ⟨T2, 5, none⟩) (fun _ => rfl) _
              have BW := (((((HS.out.b2.set 0 (.int .i64 pg)).set 1 (.int .i64 mj)).set 2 (.int .i64 sw)).set 3 (.slice a1 l.length c1)).set 4 (.slice a2 l2.length c2)).set 5 (.slice a3 l3.length c3)
              have HW : ∀ (tm : Array Value) (W : World), tm.getD 2 undef = .pointer (some ⟨T2, 0, none⟩) → W = ((((((wr.setCell ⟨T2, 0, none⟩ (.int .i64 pg)).setCell ⟨T2, 1, none⟩ (.int .i64 mj)).setCell ⟨T2, 2, none⟩ (.int .i64 sw)).setCell ⟨T2, 3, none⟩ (.slice a1 l.length c1)).setCell ⟨T2, 4, none⟩ (.slice a2 l2.length c2)).setCell ⟨T2, 5, none⟩ (.slice a3 l3.length c3)) → (results Try.f58 tm).run Try.prog W = .ok (.agg #[.int .i64 pg, .int .i64 mj, .int .i64 sw, .slice a1 l.length c1, .slice a2 l2.length c2, .slice a3 l3.length c3]) W := fun tm W ht hW => by
                have ht2 : tm[2]?.getD undef = .pointer (some ⟨T2, 0, none⟩) := by rw [← ht]; simp
                have y0 : W.cell? ⟨T2, 0, none⟩ = some (.int .i64 pg) := by rw [hW]; exact BW.cell 0
                have y1 : W.cell? ⟨T2, 1, none⟩ = some (.int .i64 mj) := by rw [hW]; exact BW.cell 1
                have y2 : W.cell? ⟨T2, 2, none⟩ = some (.int .i64 sw) := by rw [hW]; exact BW.cell 2
                have y3 : W.cell? ⟨T2, 3, none⟩ = some (.slice a1 l.length c1) := by rw [hW]; exact BW.cell 3
                have y4 : W.cell? ⟨T2, 4, none⟩ = some (.slice a2 l2.length c2) := by rw [hW]; exact BW.cell 4
                have y5 : W.cell? ⟨T2, 5, none⟩ = some (.slice a3 l3.length c3) := by rw [hW]; exact BW.cell 5
                clear hW
                simp [results, Try.results58, go_sem, ht2, y0, y1, y2, y3, y4, y5]
              refine ⟨rfl, .agg #[.int .i64 pg, .int .i64 mj, .int .i64 sw, .slice a1 l.length c1, .slice a2 l2.length c2, .slice a3 l3.length c3], HW _ _ rfl rfl, ?_⟩
              · have q1 := own_lst (own_chg HO1.out CW (fun j hj h => by have := (HO1.out.lt j hj).1; omega))
                have q2 := own_lst (own_chg HO2.out CW (fun j hj h => by have := (HO2.out.lt j hj).1; omega))
                have q3 := own_lst (own_chg HO3.out CW (fun j hj h => by have := (HO3.out.lt j hj).1; omega))
                exact .inl ⟨⟨pg, mj, sw, l, l2, l3⟩, _, a1, a2, a3, c1, c2, c3, rfl, rfl, ⟨q1, q2, q3, hnm⟩, ⟨fun j hj => by have := (HO1.out.lt j hj).1; omega, fun j hj => by have := (HO2.out.lt j hj).1; omega, fun j hj => by have := (HO3.out.lt j hj).1; omega⟩, HS.out.chg.trans' CW (fun k hk h => by omega)⟩
end Go.Proofs.Ytdhkbephofnfdaa

/- ports: what a hypercall reads (printed by gen_pog.py). -/
import Derived.Test.YtiedfglkjkaefaaPoF
namespace Go.Proofs.Ytiedfglkjkaefaa
open Go.RowKit

theorem NMTo.net {w w' : World} {P : Nat → Prop} {n : Nat} {l : List ChanD} {Q Q' : Que} {a b N : Nat} {f f' : Nat → Int} {r : Int} (h : NM w P n l Q a b N f) (hn : NetP w' P n l Q') (hm : Mem 92 w' a b N f') (c : Chg w w' (fun k => k = b ∨ ¬ P k)) : NMTo w w' P n l Q' a b N f' r (.returned (.int .i64 r)) := ⟨rfl, ⟨hn, hm, h.pa, h.pb⟩, c⟩
theorem cr_no {l : List ChanD} {Q : Que} {N : Nat} {f : Nat → Int} {part a0 a1 a2 : Int} (h : rdOk l Q part a0 a2 = false) : crC l Q N part a0 a1 a2 = rdC l Q part a0 a2 ∧ crQ l Q N part a0 a1 a2 = Q ∧ crF l Q N f part a0 a1 a2 = f := by
  have hc : crOk l Q N part a0 a1 a2 = false := by unfold crOk; rw [h]; rfl
  refine ⟨?_, ?_, ?_⟩
  · unfold crC; rw [if_pos (.inl h)]
  · unfold crQ; rw [hc]; rfl
  · unfold crF; rw [hc]; rfl
theorem cr_bad {l : List ChanD} {Q : Que} {N : Nat} {f : Nat → Int} {part a0 a1 a2 : Int} {xs : List Int} {m : Nat} (h : rdOk l Q part a0 a2 = true) (hb : rdB l Q part a0 a2 = xs) (hm : xs.length = m) (hk : okR N a1 m = false) : crC l Q N part a0 a1 a2 = 4294967294 ∧ crQ l Q N part a0 a1 a2 = Q ∧ crF l Q N f part a0 a1 a2 = f := by
  have hc : crOk l Q N part a0 a1 a2 = false := by unfold crOk; rw [h, hb, hm, hk]; rfl
  refine ⟨?_, ?_, ?_⟩
  · unfold crC; rw [if_neg (by rw [h, hc]; simp)]
  · unfold crQ; rw [hc]; rfl
  · unfold crF; rw [hc]; rfl
theorem cr_yes {l : List ChanD} {Q : Que} {N : Nat} {f : Nat → Int} {part a0 a1 a2 : Int} {xs : List Int} {m : Nat} (h : rdOk l Q part a0 a2 = true) (hb : rdB l Q part a0 a2 = xs) (hm : xs.length = m) (hk : okR N a1 m = true) : crC l Q N part a0 a1 a2 = rdC l Q part a0 a2 ∧ crQ l Q N part a0 a1 a2 = rdQ l Q part a0 a2 ∧ crF l Q N f part a0 a1 a2 = ptV N f a1 xs := by
  have hc : crOk l Q N part a0 a1 a2 = true := by unfold crOk; rw [h, hb, hm, hk]; rfl
  refine ⟨?_, ?_, ?_⟩
  · unfold crC; rw [if_pos (.inr hc)]
  · unfold crQ; rw [if_pos hc]
  · unfold crF ptV; rw [if_pos hc, hm, if_pos hk, hb]

theorem nil_put (k : Nat) (p : Option Addr) (w : World) : (nilAhead (k + 1) 47 (.pointer p) "Put").run Try.prog w = .ok (some false) w := by kernel_rfl

set_option maxRecDepth 100000 in
set_option maxHeartbeats 8000000 in
theorem read_c {w : World} {P : Nat → Prop} {n a b N : Nat} {l : List ChanD} {Q : Que} {f : Nat → Int} (h : NM w P n l Q a b N f) (part a0 a1 a2 : Int) (h0 : 0 ≤ a0 ∧ a0 ≤ 4294967295) (h1 : 0 ≤ a1 ∧ a1 ≤ 4294967295) (h2 : 0 ≤ a2 ∧ a2 ≤ 4294967295) :
    Calls Try.prog 40 #[.pointer (some ⟨n, 0, none⟩), .int .i64 part, .agg #[.int .i64 a0, .int .i64 a1, .int .i64 a2], .iface 47 (.pointer (some ⟨a, 0, none⟩))] w
      fun e w' => NMTo w w' P n l (crQ l Q N part a0 a1 a2) a b N (crF l Q N f part a0 a1 a2) (crC l Q N part a0 a1 a2) e := by
  have C0 : Chg w (w.alloc (.cells #[.int .i64 a0, .int .i64 a1, .int .i64 a2] 50)) (fun _ => False) := (Chg.refl w _).alloc _
  have B0 := Box.new w 50 #[.int .i64 a0, .int .i64 a1, .int .i64 a2]
  have HC0 := Lib.hid C0
  have HB0 := Lib.hid B0
  have HH := Lib.hid h
  have hnet := h.net
  obtain ⟨D, F, vs, hDn, hDl, N0, h3⟩ := hnet
  subst hDn hDl
  have HNA := Lib.hid N0
  have H3 := Lib.hid h3
  have HP := peek_any (N0.chg C0 (fun _ _ h => h)) part a0 a2 (by omega) (by omega)
  have hq1 := eq_nn
  have hq2 := eq_fn
  have hq3 := nil_put 228 (some ⟨a, 0, none⟩)
  simp only [Nat.reduceAdd] at hq3
  clear C0 B0 h N0 h3
  go_enter Try.func40, Try.ntmps40
  go_wp2_with fail
  refine HP.mono ?_
  clear HP
  rintro e w1 ⟨C1, ⟨hok, rfl⟩ | ⟨hok, i, hi, ao, cap, xs, rest, hp, hq, hc, M, hkind⟩⟩
  · have HR := Lib.hid (cr_no (N := N) (f := f) (a1 := a1) hok)
    have HC1 := Lib.hid (HC0.out.trans C1)
    clear hok C1
    go_wp2_with fail
    go_ret
    rw [HR.out.1, HR.out.2.1, HR.out.2.2]
    exact NMTo.none HH.out HC1.out
  have HY := Lib.hid (rd_yes hp hi hq hok)
  have HC1 := Lib.hid (HC0.out.trans C1)
  have N1 := HNA.out.chg HC1.out (fun _ _ h => h)
  have hmr := (N1.ch i hi).qk.msg xs (by rw [hq]; simp)
  have HXB := Lib.hid hmr.1
  have hmr2 := hmr.2
  obtain ⟨m, hm⟩ : ∃ m, xs.length = m := ⟨_, rfl⟩
  have HM := Lib.hid hm
  have HMM := Lib.hid M
  obtain ⟨ad, rfl⟩ : ∃ ad, ao = some ad := by
    cases ao with
    | none => have := ((own_src M.own).nil rfl).1; omega
    | some ad => exact ⟨ad, rfl⟩
  rw [hm] at hmr2
  have HOK := Lib.hid hok
  have HC := Lib.hid (hc.trans (by rw [hm]))
  have HQ := Lib.hid hq
  have HN1 := Lib.hid N1
  have B1 := HB0.out.chg C1 (fun h => h)
  have x1 := B1.cell 1
  have HB1 := Lib.hid B1
  have hmem := HH.out.mem.lta
  clear hmr hm M hp hq hok hc N1 B1
  rcases hkind with ⟨hk, rfl⟩ | ⟨hk, t, htl, T, rfl⟩
  · have HK := Lib.hid hk
    clear hk C1
    rw [HM.out]
    go_wp2_with fail
    refine wp_region_noPanic ?_
    refine wp_region_L 8 (fun w' => w'.cell? ⟨w.heap.size, 1, none⟩ = some (.int .i64 a1)) (by kernel_rfl) (x1) (fun hHeld => ?_)
    refine wpAnyL_take (i := 0) (oi := ?ois0) (v := ?vs0) ?his0 (by kernel_rfl) (by kernel_rfl) (by kernel_rfl) (by kernel_rfl) (fun _ _ _ h => h) (Or.inl ⟨?hws0, ?hys0⟩) (by assumption) ?hrs0
    case his0 => simp only [List.getElem?_toArray, List.getElem?_cons_succ, List.getElem?_cons_zero]; rfl
    case hws0 => rfl
    case hys0 => intro wq hSq; (try dsimp only at hSq); go_simp; (try with_reducible rfl)
    try simp only [Act.put, List.setIfInBounds_toArray, List.set_cons_zero, List.set_cons_succ]
    refine wpAnyL_take (i := 1) (oi := ?ois1) (v := ?vs1) ?his1 (by kernel_rfl) (by kernel_rfl) (by kernel_rfl) (by kernel_rfl) (fun _ _ _ h => h) (Or.inl ⟨?hws1, ?hys1⟩) (by assumption) ?hrs1
    case his1 => simp only [List.getElem?_toArray, List.getElem?_cons_succ, List.getElem?_cons_zero]; rfl
    case hws1 => rfl
    case hys1 => intro wq hSq; (try dsimp only at hSq); go_simp; (try with_reducible rfl)
    try simp only [Act.put, List.setIfInBounds_toArray, List.set_cons_zero, List.set_cons_succ]
    refine wpAnyL_take (i := 2) (oi := ?ois2) (v := ?vs2) ?his2 (by kernel_rfl) (by kernel_rfl) (by kernel_rfl) (by kernel_rfl) (fun _ _ _ h => h) (Or.inl ⟨?hws2, ?hys2⟩) (by assumption) ?hrs2
    case his2 => simp only [List.getElem?_toArray, List.getElem?_cons_succ, List.getElem?_cons_zero]; rfl
    case hws2 => rfl
    case hys2 => intro wq hSq; (try dsimp only at hSq); go_simp; (try with_reducible rfl)
    try simp only [Act.put, List.setIfInBounds_toArray, List.set_cons_zero, List.set_cons_succ]
    refine wpAnyL_take (i := 3) (oi := ?ois3) (v := ?vs3) ?his3 (by kernel_rfl) (by kernel_rfl) (by kernel_rfl) (by kernel_rfl) (fun _ _ _ h => h) (Or.inl ⟨?hws3, ?hys3⟩) (by assumption) ?hrs3
    case his3 => simp only [List.getElem?_toArray, List.getElem?_cons_succ, List.getElem?_cons_zero]; rfl
    case hws3 => rfl
    case hys3 => intro wq hSq; (try dsimp only at hSq); go_simp; (try with_reducible rfl)
    try simp only [Act.put, List.setIfInBounds_toArray, List.set_cons_zero, List.set_cons_succ]
    refine wpAnyL_take (i := 5) (oi := ?ois5) (v := ?vs5) ?his5 (by kernel_rfl) (by kernel_rfl) (by kernel_rfl) (by kernel_rfl) (fun _ _ _ h => h) (Or.inl ⟨?hws5, ?hys5⟩) (by assumption) ?hrs5
    case his5 => simp only [List.getElem?_toArray, List.getElem?_cons_succ, List.getElem?_cons_zero]; rfl
    case hws5 => rfl
    case hys5 => intro wq hSq; (try dsimp only at hSq); go_simp; (try with_reducible rfl)
    try simp only [Act.put, List.setIfInBounds_toArray, List.set_cons_zero, List.set_cons_succ]
    refine wpAnyL_take (i := 6) (oi := ?ois6) (v := ?vs6) ?his6 (by kernel_rfl) (by kernel_rfl) (by kernel_rfl) (by kernel_rfl) (fun _ _ _ h => h) (Or.inl ⟨?hws6, ?hys6⟩) (by assumption) ?hrs6
    case his6 => simp only [List.getElem?_toArray, List.getElem?_cons_succ, List.getElem?_cons_zero]; rfl
    case hws6 => rfl
    case hys6 => intro wq hSq; (try dsimp only at hSq); go_simp; (try with_reducible rfl)
    try simp only [Act.put, List.setIfInBounds_toArray, List.set_cons_zero, List.set_cons_succ]
    refine wpAnyL_take (i := 7) (oi := ?ois7) (v := ?vs7) ?his7 (by kernel_rfl) (by kernel_rfl) (by kernel_rfl) (by kernel_rfl) (fun _ _ _ h => h) (Or.inl ⟨?hws7, ?hys7⟩) (by assumption) ?hrs7
    case his7 => simp only [List.getElem?_toArray, List.getElem?_cons_succ, List.getElem?_cons_zero]; rfl
    case hws7 => rfl
    case hys7 => intro wq hSq; (try dsimp only at hSq); go_simp; (try with_reducible rfl)
    try simp only [Act.put, List.setIfInBounds_toArray, List.set_cons_zero, List.set_cons_succ]
    refine wpAnyL_ready (rs := [4]) (by kernel_rfl) (by simp) ?_
    refine AllReadyL.cons rfl (fun K hK => ?_) AllReadyL.nil
    go_simp
    have S1 := own_src HMM.out.own
    rw [HM.out] at S1
    refine (clone_any (S1.chg ((Chg.refl w1 (fun _ => False)).drew) (fun _ _ h => h)) (by omega)).mono ?_
    rintro e w2 ⟨a2', c2', rfl, O2, C2⟩
    replace C2 := C2.drewL
    refine hK.out _ _ (.inl (C2.cell x1 (fun h => h))) (fun hHeld => ?_)
    replace hHeld := SOr.stands hHeld (by kernel_rfl)
    clear hK K
    try simp only [Act.put, List.setIfInBounds_toArray, List.set_cons_zero, List.set_cons_succ]
    refine wpAnyL_tail (l := [9]) (by kernel_rfl) (by kernel_rfl) ?_
    simp only [tailOps, List.filterMap_cons, List.filterMap_nil, List.getElem?_toArray, List.getElem?_cons_succ, List.getElem?_cons_zero]
    clear hHeld
    have HC2 := Lib.hid (HC1.out.trans C2)
    have HO2 := Lib.hid O2
    have HD2 := Lib.hid C2
    have HMem2 := Lib.hid (HH.out.mem.chg HC2.out (fun h => h) (fun h => h))
    have HPT := put_any HMem2.out a1 m c2' a2' xs (own_src HO2.out) HXB.out
    clear C2 O2 S1 x1
    cases hok : okR N a1 m
    · rw [hok] at HPT
      have hokf := Lib.hid hok
      have HR := Lib.hid (cr_bad (f := f) HOK.out HY.out.1 HM.out hok)
      clear hok
      go_wp2_with fail
      refine HPT.mono ?_
      clear HPT
      rintro e w3 ⟨rfl, M3, C3⟩
      have HC3 := Lib.hid C3
      have HM3 := Lib.hid M3
      clear C3 M3
      go_wp2_with fail
      refine NoPanic.normal ?_
      go_wp2_with fail
      go_ret
      rw [HR.out.1, HR.out.2.1, HR.out.2.2]
      have hpt : ptV N f a1 xs = f := by unfold ptV; rw [HM.out]; exact if_neg (by rw [hokf.out]; decide)
      have M3 := HM3.out
      rw [hpt] at M3
      exact NMTo.net HH.out ((HH.out.net.keep HC2.out).far HC3.out (fun k hk => hk ▸ HH.out.pb)) M3 ((HC2.out.mono (fun _ _ h => h.elim)).trans' HC3.out (fun k _ hk => .inl hk))
    · rw [hok] at HPT
      have HR := Lib.hid (cr_yes (f := f) HOK.out HY.out.1 HM.out hok)
      clear hok
      go_wp2_with fail
      refine HPT.mono ?_
      clear HPT
      rintro e w3 ⟨rfl, M3, C3⟩
      have HC3 := Lib.hid C3
      have HM3 := Lib.hid M3
      clear C3 M3
      go_wp2_with fail
      refine NoPanic.normal ?_
      go_wp2_with fail
      refine (take1_any w3).mono ?_
      rintro e w4 ⟨rfl, rfl⟩
      go_wp2_with fail
      go_ret
      rw [HR.out.1, HR.out.2.1, HR.out.2.2, HC.out]
      obtain ⟨e1, e2, -⟩ := HY.out
      rw [e2 HK.out]
      exact NMTo.net HH.out ((HH.out.net.keep HC2.out).far HC3.out (fun k hk => hk ▸ HH.out.pb)) HM3.out ((HC2.out.mono (fun _ _ h => h.elim)).trans' HC3.out (fun k _ hk => .inl hk))
  · have HK := Lib.hid hk
    clear hk C1
    have HT := Lib.hid T
    have HTL : Hid (w.heap.size ≤ t) := Nat.le_trans HC0.out.size htl
    clear T htl
    rw [HM.out]
    go_wp2_with fail
    refine wp_region_noPanic ?_
    refine wp_region_L 8 (fun w' => w'.cell? ⟨w.heap.size, 1, none⟩ = some (.int .i64 a1)) (by kernel_rfl) (x1) (fun hHeld => ?_)
    refine wpAnyL_take (i := 0) (oi := ?oiq0) (v := ?vq0) ?hiq0 (by kernel_rfl) (by kernel_rfl) (by kernel_rfl) (by kernel_rfl) (fun _ _ _ h => h) (Or.inl ⟨?hwq0, ?hyq0⟩) (by assumption) ?hrq0
    case hiq0 => simp only [List.getElem?_toArray, List.getElem?_cons_succ, List.getElem?_cons_zero]; rfl
    case hwq0 => rfl
    case hyq0 => intro wq hSq; (try dsimp only at hSq); go_simp; (try with_reducible rfl)
    try simp only [Act.put, List.setIfInBounds_toArray, List.set_cons_zero, List.set_cons_succ]
    refine wpAnyL_take (i := 1) (oi := ?oiq1) (v := ?vq1) ?hiq1 (by kernel_rfl) (by kernel_rfl) (by kernel_rfl) (by kernel_rfl) (fun _ _ _ h => h) (Or.inl ⟨?hwq1, ?hyq1⟩) (by assumption) ?hrq1
    case hiq1 => simp only [List.getElem?_toArray, List.getElem?_cons_succ, List.getElem?_cons_zero]; rfl
    case hwq1 => rfl
    case hyq1 => intro wq hSq; (try dsimp only at hSq); go_simp; (try with_reducible rfl)
    try simp only [Act.put, List.setIfInBounds_toArray, List.set_cons_zero, List.set_cons_succ]
    refine wpAnyL_take (i := 2) (oi := ?oiq2) (v := ?vq2) ?hiq2 (by kernel_rfl) (by kernel_rfl) (by kernel_rfl) (by kernel_rfl) (fun _ _ _ h => h) (Or.inl ⟨?hwq2, ?hyq2⟩) (by assumption) ?hrq2
    case hiq2 => simp only [List.getElem?_toArray, List.getElem?_cons_succ, List.getElem?_cons_zero]; rfl
    case hwq2 => rfl
    case hyq2 => intro wq hSq; (try dsimp only at hSq); go_simp; (try with_reducible rfl)
    try simp only [Act.put, List.setIfInBounds_toArray, List.set_cons_zero, List.set_cons_succ]
    refine wpAnyL_take (i := 3) (oi := ?oiq3) (v := ?vq3) ?hiq3 (by kernel_rfl) (by kernel_rfl) (by kernel_rfl) (by kernel_rfl) (fun _ _ _ h => h) (Or.inl ⟨?hwq3, ?hyq3⟩) (by assumption) ?hrq3
    case hiq3 => simp only [List.getElem?_toArray, List.getElem?_cons_succ, List.getElem?_cons_zero]; rfl
    case hwq3 => rfl
    case hyq3 => intro wq hSq; (try dsimp only at hSq); go_simp; (try with_reducible rfl)
    try simp only [Act.put, List.setIfInBounds_toArray, List.set_cons_zero, List.set_cons_succ]
    refine wpAnyL_take (i := 5) (oi := ?oiq5) (v := ?vq5) ?hiq5 (by kernel_rfl) (by kernel_rfl) (by kernel_rfl) (by kernel_rfl) (fun _ _ _ h => h) (Or.inl ⟨?hwq5, ?hyq5⟩) (by assumption) ?hrq5
    case hiq5 => simp only [List.getElem?_toArray, List.getElem?_cons_succ, List.getElem?_cons_zero]; rfl
    case hwq5 => rfl
    case hyq5 => intro wq hSq; (try dsimp only at hSq); go_simp; (try with_reducible rfl)
    try simp only [Act.put, List.setIfInBounds_toArray, List.set_cons_zero, List.set_cons_succ]
    refine wpAnyL_take (i := 6) (oi := ?oiq6) (v := ?vq6) ?hiq6 (by kernel_rfl) (by kernel_rfl) (by kernel_rfl) (by kernel_rfl) (fun _ _ _ h => h) (Or.inl ⟨?hwq6, ?hyq6⟩) (by assumption) ?hrq6
    case hiq6 => simp only [List.getElem?_toArray, List.getElem?_cons_succ, List.getElem?_cons_zero]; rfl
    case hwq6 => rfl
    case hyq6 => intro wq hSq; (try dsimp only at hSq); go_simp; (try with_reducible rfl)
    try simp only [Act.put, List.setIfInBounds_toArray, List.set_cons_zero, List.set_cons_succ]
    refine wpAnyL_take (i := 7) (oi := ?oiq7) (v := ?vq7) ?hiq7 (by kernel_rfl) (by kernel_rfl) (by kernel_rfl) (by kernel_rfl) (fun _ _ _ h => h) (Or.inl ⟨?hwq7, ?hyq7⟩) (by assumption) ?hrq7
    case hiq7 => simp only [List.getElem?_toArray, List.getElem?_cons_succ, List.getElem?_cons_zero]; rfl
    case hwq7 => rfl
    case hyq7 => intro wq hSq; (try dsimp only at hSq); go_simp; (try with_reducible rfl)
    try simp only [Act.put, List.setIfInBounds_toArray, List.set_cons_zero, List.set_cons_succ]
    refine wpAnyL_ready (rs := [4]) (by kernel_rfl) (by simp) ?_
    refine AllReadyL.cons rfl (fun K hK => ?_) AllReadyL.nil
    go_simp
    have S1 := own_src HMM.out.own
    rw [HM.out] at S1
    refine (clone_any (S1.chg ((Chg.refl w1 (fun _ => False)).drew) (fun _ _ h => h)) (by omega)).mono ?_
    rintro e w2 ⟨a2', c2', rfl, O2, C2⟩
    replace C2 := C2.drewL
    refine hK.out _ _ (.inl (C2.cell x1 (fun h => h))) (fun hHeld => ?_)
    replace hHeld := SOr.stands hHeld (by kernel_rfl)
    clear hK K
    try simp only [Act.put, List.setIfInBounds_toArray, List.set_cons_zero, List.set_cons_succ]
    refine wpAnyL_tail (l := [9]) (by kernel_rfl) (by kernel_rfl) ?_
    simp only [tailOps, List.filterMap_cons, List.filterMap_nil, List.getElem?_toArray, List.getElem?_cons_succ, List.getElem?_cons_zero]
    clear hHeld
    have HC2 := Lib.hid (HC1.out.trans C2)
    have HO2 := Lib.hid O2
    have HD2 := Lib.hid C2
    have HMem2 := Lib.hid (HH.out.mem.chg HC2.out (fun h => h) (fun h => h))
    have HPT := put_any HMem2.out a1 m c2' a2' xs (own_src HO2.out) HXB.out
    clear C2 O2 S1 x1
    cases hok : okR N a1 m
    · rw [hok] at HPT
      have hokf := Lib.hid hok
      have HR := Lib.hid (cr_bad (f := f) HOK.out HY.out.1 HM.out hok)
      clear hok
      go_wp2_with fail
      refine HPT.mono ?_
      clear HPT
      rintro e w3 ⟨rfl, M3, C3⟩
      have HC3 := Lib.hid C3
      have HM3 := Lib.hid M3
      clear C3 M3
      go_wp2_with fail
      refine NoPanic.normal ?_
      go_wp2_with fail
      go_ret
      rw [HR.out.1, HR.out.2.1, HR.out.2.2]
      have hpt : ptV N f a1 xs = f := by unfold ptV; rw [HM.out]; exact if_neg (by rw [hokf.out]; decide)
      have M3 := HM3.out
      rw [hpt] at M3
      exact NMTo.net HH.out ((HH.out.net.keep HC2.out).far HC3.out (fun k hk => hk ▸ HH.out.pb)) M3 ((HC2.out.mono (fun _ _ h => h.elim)).trans' HC3.out (fun k _ hk => .inl hk))
    · rw [hok] at HPT
      have HR := Lib.hid (cr_yes (f := f) HOK.out HY.out.1 HM.out hok)
      clear hok
      go_wp2_with fail
      refine HPT.mono ?_
      clear HPT
      rintro e w3 ⟨rfl, M3, C3⟩
      have HC3 := Lib.hid C3
      have HM3 := Lib.hid M3
      clear C3 M3
      go_wp2_with fail
      refine NoPanic.normal ?_
      have N3 := (HN1.out.chg HD2.out (fun _ _ h => h)).chg HC3.out (fun k hk h => (H3.out b HH.out.pb).2 (h ▸ hk))
      have T3 := (HT.out.chg HD2.out (fun h => h)).chg HC3.out (fun h => by have := HH.out.mem.ltb; have := HTL.out; omega)
      obtain ⟨B, hfp, ms, hqr, hms⟩ := (N3.ch i hi).boxQ HK.out
      obtain ⟨vo, vc, hv, hvl, hvm, hvn, hvb⟩ := hqr.form
      have hml := hms.length
      rw [HQ.out, List.length_cons] at hml
      obtain ⟨g, o, rfl, hgl⟩ : ∃ g o, vo = some ⟨g, o, none⟩ ∧ g < w3.heap.size := by
        cases vo with
        | none => have := (hvn rfl).1; rw [this] at hml; simp at hml
        | some ad => obtain ⟨g, o, rfl, hg⟩ := hvb ad rfl; exact ⟨g, o, rfl, hg⟩
      have HTK := take2_any T3 (by rw [← hv]; exact B) (by rw [← hv]; exact hqr) (by omega)
      have HV := Lib.hid hv
      have HMS := Lib.hid hms
      have HN3 := Lib.hid N3
      clear N3 T3 hms hqr B hfp hv hvn hvb hvl hvm hml
      go_wp2_with fail
      refine HTK.mono ?_
      clear HTK
      rintro e w4 ⟨rfl, T2⟩
      have HT2 := Lib.hid T2
      clear T2
      go_wp2_with fail
      go_ret
      rw [HR.out.1, HR.out.2.1, HR.out.2.2, HC.out]
      obtain ⟨e1, -, e2⟩ := HY.out
      rw [e2 HK.out]
      have hT := HT2.out
      rw [← HV.out] at hT
      have hTK := HN3.out.take hi HK.out HQ.out HMS.out hT
      obtain ⟨vs', N4⟩ := hTK.net
      have C4 := hTK.chg
      exact NMTo.net HH.out ⟨D, F, vs', rfl, rfl, N4, fun k hk => ⟨Nat.lt_of_lt_of_le (H3.out k hk).1 (Nat.le_trans HC2.out.size (Nat.le_trans HC3.out.size C4.size)), (H3.out k hk).2⟩⟩ (HM3.out.chg C4 (fun hf => (H3.out a HH.out.pa).2 hf) (fun hf => (H3.out b HH.out.pb).2 hf))
        (((HC2.out.mono (fun _ _ h => h.elim)).trans' HC3.out (fun k _ hk => .inl hk)).trans' C4 (fun k _ hf => .inr (fun hp => (H3.out k hp).2 hf)))
end Go.Proofs.Ytiedfglkjkaefaa

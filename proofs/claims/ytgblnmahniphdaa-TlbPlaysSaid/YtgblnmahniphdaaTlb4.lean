/- tlb: Put. -/
import Derived.Test.YtgblnmahniphdaaTlb3
namespace Go.Proofs.Ytgblnmahniphdaa
open Go.RowKit

/-- What Put makes of the entries. -/
def setR (r : List (KeyD × Int)) (k : KeyD) (x : Int) : List (KeyD × Int) := r.map (fun p => if p.1 = k then (p.1, x) else p)
def putR (n : Int) (r : List (KeyD × Int)) (k : KeyD) (x : Int) : List (KeyD × Int) := if (look r k).isSome = true then setR r k x else (if (r.length : Int) = n then r.eraseIdx 0 else r) ++ [(k, x)]

theorem ks_set (r : List (KeyD × Int)) (k : KeyD) (x : Int) : ks (setR r k x) = ks r := by
  unfold ks setR
  rw [List.map_map]
  apply List.map_congr_left
  intro p _
  simp only [Function.comp]
  split <;> rfl
theorem look_app {r : List (KeyD × Int)} {k : KeyD} (x : Int) (h : look r k = none) (c : KeyD) : look (r ++ [(k, x)]) c = if c = k then some x else look r c := by
  unfold look at *
  rw [List.find?_append]
  by_cases e : c = k
  · subst e
    rw [if_pos rfl]
    rw [Option.map_eq_none_iff] at h
    rw [h]
    simp
  · rw [if_neg e]
    have : ¬ k = c := fun h => e h.symm
    simp [this]
theorem look_set {r : List (KeyD × Int)} {k : KeyD} (x : Int) (h : (look r k).isSome = true) (c : KeyD) : look (setR r k x) c = if c = k then some x else look r c := by
  induction r with
  | nil => simp [look] at h
  | cons p r ih =>
    unfold setR
    rw [List.map_cons]
    unfold look
    rw [List.find?_cons]
    by_cases e : p.1 = k
    · rw [if_pos e]
      by_cases e2 : c = k
      · subst e2
        simp [e]
      · have e3 : ¬ p.1 = c := fun h => e2 (by rw [← h, e])
        simp only [e3, decide_false, if_neg e2]
        rw [List.find?_cons]
        simp only [e3, decide_false]
        by_cases h2 : (look r k).isSome = true
        · have := ih h2
          rw [if_neg e2] at this
          exact this
        · have hn : ∀ q ∈ r, q.1 ≠ k := by
            intro q hq hqk
            apply h2
            have : look r k ≠ none := fun hh => (look_none.1 hh) (List.mem_map.2 ⟨q, hq, hqk⟩)
            cases hl : look r k with
            | none => exact absurd hl this
            | some _ => rfl
          have : r.map (fun p => if p.1 = k then (p.1, x) else p) = r := by
            conv => rhs; rw [← List.map_id r]
            apply List.map_congr_left
            intro q hq
            rw [if_neg (hn q hq)]
            rfl
          rw [this]
    · rw [if_neg e]
      have h2 : (look r k).isSome = true := by
        unfold look at h ⊢
        rw [List.find?_cons] at h
        simpa [e] using h
      by_cases e3 : p.1 = c
      · have e4 : ¬ c = k := fun h => e (by rw [e3, h])
        simp only [e3, decide_true, if_neg e4]
        rw [List.find?_cons]
        simp [e3]
      · simp only [e3, decide_false]
        rw [List.find?_cons]
        simp only [e3, decide_false]
        exact ih h2

/-- Ahead of the map's update. -/
structure PMid (w : World) (base t m : Nat) (v : Value) (n : Int) (r' : List (KeyD × Int)) (k : KeyD) (x : Int) (wx : World) (v6 : Value) (f6 : KeyD → Option Int) : Prop where
  box : Box wx t 58 #[.int .i64 n, .map (some m), v6]
  map : MapFn wx m f6
  own : wx.ownsRow base 60 2 v6 r'.length ((ks r').flatMap kCells)
  fin : ∀ c, look r' c = if c = k then some x else f6 c
  chg : Chg w wx (foot t m v)
  fresh : ∀ j, v6.ownBlock = some j → v.ownBlock = some j ∨ w.heap.size ≤ j
  key : Box wx w.heap.size 60 #[.int .i64 k.1, .int .i64 k.2]
def PMidE (w : World) (base t m : Nat) (v : Value) (n : Int) (r' : List (KeyD × Int)) (k : KeyD) (x : Int) (wx : World) : Prop := ∃ v6 f6, PMid w base t m v n r' k x wx v6 f6

theorem ks_app (r : List (KeyD × Int)) (k : KeyD) (x : Int) : (ks (r ++ [(k, x)])).flatMap kCells = (ks r).flatMap kCells ++ [.int .i64 k.1, .int .i64 k.2] := by
  unfold ks
  rw [List.map_append, List.flatMap_append]
  rfl

theorem pmid_end {w w6 w7 : World} {base t m : Nat} {v v6 : Value} {n : Int} {r' : List (KeyD × Int)} {k : KeyD} {x : Int} {f6 : KeyD → Option Int} (h : PMid w base t m v n r' k x w6 v6 f6) (ap : m ≠ t ∧ True)
    (M : MapFn w7 m (fun c => if c = k then some x else f6 c)) (C : Chg w6.drew w7 (fun j => j = m)) (h1 : (ks r').Nodup) (h2 : ∀ p ∈ r', keyOk p.1) (h3 : (r'.length : Int) ≤ n) (h4 : 1 ≤ n ∧ n ≤ 256) (h5 : base ≤ t) (h6 : base ≤ m) : TDid w base t m v n r' w7 := by
  have C' := C.drewL
  refine ⟨v6, ⟨h.box.chg C' (fun e => ap.1 e.symm), M.congr (fun c => (h.fin c).symm), own_chg h.own C' (fun j hj e => map_ne_own h.map h.own (by rw [hj, e])), h1, h2, h3, h4, h5, h6⟩, h.chg.trans' C' (fun j _ e => .inr (.inl e)), h.fresh⟩
/-- Behind the append. -/
theorem pmid_app {w w5 w2 : World} {base t m g cap2 : Nat} {v : Value} {n : Int} {r5 : List (KeyD × Int)} {k : KeyD} {x : Int} {ao5 : Option Addr} {cap5 : Nat} (hw : w.heap.size < w5.heap.size) (T : TAt w5 base t m (.slice ao5 r5.length cap5) n r5) (K : Box w5 w.heap.size 60 #[.int .i64 k.1, .int .i64 k.2]) (C : Chg w w5 (foot t m v))
    (hfr : ∀ j, (Value.slice ao5 r5.length cap5).ownBlock = some j → v.ownBlock = some j ∨ w.heap.size ≤ j) (hno : look r5 k = none) (htw : t < w.heap.size) (hkb : (Value.slice ao5 r5.length cap5).ownBlock ≠ some w.heap.size)
    (hown : w2.ownsRow base 60 2 (.slice (some ⟨g, 0, none⟩) (r5.length + 1) cap2) (r5.length + 1) ((ks r5).flatMap kCells ++ [.int .i64 k.1, .int .i64 k.2]))
    (hgrow : World.grownBy (w5.alloc (.cells #[.int .i64 k.1, .int .i64 k.2] 60)).drew w2 (Value.slice ao5 r5.length cap5).ownBlock) (hat : (Value.slice ao5 r5.length cap5).ownBlock = some g ∨ g = w5.heap.size + 1) :
    PMidE w base t m v n (r5 ++ [(k, x)]) k x (w2.setCell ⟨t, 2, none⟩ (.slice (some ⟨g, 0, none⟩) (r5.length + 1) cap2)) := by
  obtain ⟨aq1, aq2, aq3⟩ := T.apart
  have CG : Chg w5 w2 (fun j => (Value.slice ao5 r5.length cap5).ownBlock = some j) := ((Chg.refl w5 _).alloc _).drew.grown hgrow (fun j hj _ => hj)
  have B2 := T.box.chg CG aq3
  have CS : Chg w2 (w2.setCell ⟨t, 2, none⟩ (.slice (some ⟨g, 0, none⟩) (r5.length + 1) cap2)) (fun j => j = t) := (Chg.refl w2 (fun j => j = t)).setCell (p := ⟨t, 2, none⟩) (fun _ => rfl) _
  refine ⟨_, look r5, ⟨box_tlb _ _ _ g cap2 0 _ _ B2 _, (T.map.chg CG aq2).chg CS aq1, ?_, fun c => look_app x hno c, ?_, ?_, ?_⟩⟩
  · rw [ks_app, List.length_append, List.length_cons, List.length_nil]
    exact own_chg hown CS (own_ne hown B2 (by decide))
  · refine (C.trans' CG (fun j hj e => ?_)).trans' CS (fun j _ e => .inl e)
    rcases hfr j e with h | h
    · exact .inr (.inr h)
    · omega
  · intro j hj
    have hj' : g = j := by injection hj
    subst hj'
    rcases hat with h | h
    · exact hfr _ h
    · right; omega
  · exact (K.chg CG (fun e => hkb e)).chg CS (fun e => by omega)

set_option maxHeartbeats 8000000 in
theorem tput_any {w : World} {base t m : Nat} {v : Value} {n : Int} {r : List (KeyD × Int)} (h : TAt w base t m v n r) (hb : base ≤ w.heap.size) (k1 k2 x : Int) (hk : keyOk (k1, k2)) :
    Calls Try.prog 12 #[.pointer (some ⟨t, 0, none⟩), .int .i64 k1, .int .i64 k2, .int .i64 x] w fun e w' => e = .returned (.tuple #[]) ∧ TDid w base t m v n (putR n r (k1, k2) x) w' := by
  obtain ⟨ao, cap, rfl, hf1, hf2, hf3, hf4⟩ := own_form h.own
  obtain ⟨i0, hi0, hz0, hz1, hz2⟩ := info_parts info_key
  have hr1 := h.len
  have hr2 := h.nn
  have hrl : r.length ≤ 256 := by omega
  have htw := h.box.lt
  have hmw := h.map.lt
  obtain ⟨w1, hw1⟩ : ∃ w1, w.alloc (.cells #[.int .i64 k1, .int .i64 k2] 60) = w1 := ⟨_, rfl⟩
  have hsz1 : w.heap.size < w1.heap.size := by rw [← hw1]; simp
  have CA : Chg w w1 (fun _ => False) := by rw [← hw1]; exact (Chg.refl _ _).alloc _
  have KB : Box w1 w.heap.size 60 #[.int .i64 k1, .int .i64 k2] := by rw [← hw1]; exact Box.new _ _ _
  have T1 : TAt w1 base t m (.slice ao r.length cap) n r := h.chg CA (fun _ _ h => h)
  have CF : Chg w w1 (foot t m (.slice ao r.length cap)) := CA.mono (fun _ _ h => h.elim)
  obtain ⟨ap1, ap2, ap3⟩ := T1.apart
  have ap0 : m ≠ t ∧ True := ⟨ap1, trivial⟩
  have hob : ∀ j, (Value.slice ao r.length cap).ownBlock = some j → j < w.heap.size := fun j hj => by
    cases ao with
    | none => cases hj
    | some ad => obtain ⟨g, rfl, h5, h6⟩ := hf4 ad rfl; have : g = j := by injection hj
                 omega
  have hlk : ∀ j, (Instr.lookup 55 (.map (some m)) (.agg #[.int .i64 k1, .int .i64 k2]) true).run Try.prog (w1.drewN j) = .ok (.tuple #[.int .i64 ((look r (k1, k2)).getD 0), .bool (look r (k1, k2)).isSome]) (w1.drewN j) := fun j => (T1.map.chg ((Chg.refl w1 (fun _ => False)).drewN j) (fun h => h)).lookup (a := (k1, k2)) hk
  have x0 := T1.box.cell 0
  have x1 := T1.box.cell 1
  have x2 := T1.box.cell 2
  have y0 := KB.cell 0
  have y1 := KB.cell 1
  go_enter Try.func12, Try.ntmps12
  cases hlv : look r (k1, k2) with
  | some lv =>
    rw [hlv] at hlk
    have HP : putR n r (k1, k2) x = setR r (k1, k2) x := by unfold putR; rw [hlv]; rfl
    have hsome : (look r (k1, k2)).isSome = true := by rw [hlv]; rfl
    have HN1 : (ks (putR n r (k1, k2) x)).Nodup := by rw [HP, ks_set]; exact h.keys
    have hsl : (setR r (k1, k2) x).length = r.length := by unfold setR; rw [List.length_map]
    have HN2 : ∀ p ∈ putR n r (k1, k2) x, keyOk p.1 := by
      rw [HP]
      intro p hp
      obtain ⟨q, hq, rfl⟩ := List.mem_map.1 hp
      have := h.ok q hq
      split <;> exact this
    have HN3 : ((putR n r (k1, k2) x).length : Int) ≤ n := by rw [HP, hsl]; exact h.len
    have HM : ∀ j, PMid w base t m (.slice ao r.length cap) n (putR n r (k1, k2) x) (k1, k2) x (w1.drewN j) (.slice ao r.length cap) (look r) := fun j => by
      have T2 := T1.chg ((Chg.refl w1 (fun _ => False)).drewN j) (fun _ _ h => h)
      rw [HP]
      exact ⟨T2.box, T2.map, by rw [ks_set, hsl]; exact T2.own, fun c => look_set x hsome c, CF.drewN j, fun j hj => .inl hj, KB⟩
    have HMH := Lib.hid HM
    have HN1' := Lib.hid HN1
    have HN2' := Lib.hid HN2
    have HN3' := Lib.hid HN3
    clear hlv HP hsome hsl HM HN1 HN2 HN3
    go_wp2_with fail
    go_quiet (fail)
    go_wp2_with fail
    obtain ⟨w6, hw6⟩ : ∃ w6, w1.drewN nq = w6 := ⟨_, rfl⟩
    have PM6 := HMH.out nq
    rw [hw6] at PM6 ⊢
    have HN1 := HN1'.out
    have HN2 := HN2'.out
    have HN3 := HN3'.out
    clear hw6 hlk x0 x1 x2 y0 y1 HMH HN1' HN2' HN3'
    have PM := PM6
    have xx1 := PM.box.cell 1
    have yy0 := PM.key.cell 0
    have yy1 := PM.key.cell 1
    obtain ⟨w7, hrun, M7, C7, F7⟩ := (PM.map.chg ((Chg.refl w6 (fun _ => False)).drew) (fun h => h)).update hk x
    have HEND := Lib.hid (pmid_end PM ap0 M7 C7 HN1 HN2 HN3 h.nn h.bt h.bm)
    unfold keyV at hrun
    clear PM M7 C7 F7
    go_region_law (fail)
    all_goals
      go_wp2_with fail
      refine bodyPost_end (results_none rfl _ _ _) rfl ?_
      exact ⟨rfl, HEND.out⟩
  | none =>
    rw [hlv] at hlk
    have hno := look_none.1 hlv
    by_cases hfull : (r.length : Int) = n
    · have hr0 : 0 < r.length := by omega
      have HP : putR n r (k1, k2) x = r.eraseIdx 0 ++ [((k1, k2), x)] := by unfold putR; rw [hlv, if_neg (by decide), if_pos hfull]
      have hev : evR r 0 = r.eraseIdx 0 := by unfold evR; rw [if_pos (by omega)]; rfl
      have q5 : ((r.length : Int) == n) = true := beq_iff_eq.2 hfull
      have hlv5 : look (r.eraseIdx 0) (k1, k2) = none := look_none.2 (by rw [ks_erase]; exact fun hm => hno (List.mem_of_mem_eraseIdx hm))
      have HNX : (ks (putR n r (k1, k2) x)).Nodup ∧ (∀ p ∈ putR n r (k1, k2) x, keyOk p.1) ∧ ((putR n r (k1, k2) x).length : Int) ≤ n := by
        rw [HP]
        refine ⟨?_, ?_, ?_⟩
        · unfold ks
          rw [List.map_append, List.nodup_append]
          refine ⟨by have := h.keys.sublist (List.eraseIdx_sublist (ks r) 0); rw [← ks_erase] at this; exact this, by simp, ?_⟩
          intro a ha b hb2 e
          have : b = (k1, k2) := by simpa using hb2
          subst this e
          exact (look_none.1 hlv5) ha
        · intro p hp
          rcases List.mem_append.1 hp with hp | hp
          · exact h.ok p (List.mem_of_mem_eraseIdx hp)
          · have : p = ((k1, k2), x) := by simpa using hp
            rw [this]; exact hk
        · rw [List.length_append, List.length_eraseIdx, if_pos hr0]
          simp
          omega
      have HNH := Lib.hid HNX
      have HPH := Lib.hid HP
      have HEV := Lib.hid hev
      have HL5 := Lib.hid hlv5
      have HT1 := Lib.hid T1
      clear hlv HP HNX hev hlv5 hno hfull
      go_wp2_with fail
      go_quiet (fail)
      go_wp2_with fail
      go_quiet (fail)
      go_wp2_with fail
      refine (tevict_any (HT1.out.chg ((Chg.refl w1 (fun _ => False)).drewN _) (fun _ _ h => h)) (by show base ≤ w1.heap.size; omega) 0).mono ?_
      rintro e w5 ⟨rfl, v5, T5, C5', hfr5⟩
      rw [HEV.out] at T5
      have hkb : v5.ownBlock ≠ some w.heap.size := fun e => by
        rcases hfr5 _ e with h1 | h1
        · have := hob _ h1; omega
        · have h1 : w1.heap.size ≤ w.heap.size := h1
          omega
      have K5 := (Box.drewN KB _).chg C5' (fun hh => by rcases hh with h1 | h1 | h1 <;> first | (have := hob _ h1; omega) | omega)
      have C5 : Chg w w5 (foot t m (.slice ao r.length cap)) := (CF.drewN _).trans C5'
      have hfr : ∀ j, v5.ownBlock = some j → (Value.slice ao r.length cap).ownBlock = some j ∨ w.heap.size ≤ j := fun j hj => by
        rcases hfr5 j hj with h1 | h1
        · exact .inl h1
        · have h1 : w1.heap.size ≤ j := h1
          right; omega
      have hw5 : w.heap.size < w5.heap.size := by
        have h1 : w1.heap.size ≤ w5.heap.size := C5'.size
        omega
      obtain ⟨r5, hr5⟩ : ∃ r5, r.eraseIdx 0 = r5 := ⟨_, rfl⟩
      have HL5' := HL5.out
      have hlr5 : r5.length ≤ 256 := by rw [← hr5, List.length_eraseIdx, if_pos hr0]; omega
      rw [hr5] at T5 HL5'
      have HPH' : putR n r (k1, k2) x = r5 ++ [((k1, k2), x)] := by rw [HPH.out, hr5]
      clear hr5 HEV HL5 hfr5 C5' x0 x1 x2 y0 y1 hlk q5
      have HMID : Hid (∀ w2 g cap2 (vv : Unit), w2.ownsRow base 60 2 (.slice (some ⟨g, 0, none⟩) (r5.length + 1) cap2) (r5.length + 1) ((ks r5).flatMap kCells ++ [.int .i64 k1, .int .i64 k2]) → World.grownBy (w5.alloc (.cells #[.int .i64 k1, .int .i64 k2] 60)).drew w2 v5.ownBlock → (v5.ownBlock = some g ∨ g = w5.heap.size + 1) →
          PMidE w base t m (.slice ao r.length cap) n (putR n r (k1, k2) x) (k1, k2) x (w2.setCell ⟨t, 2, none⟩ (.slice (some ⟨g, 0, none⟩) (r5.length + 1) cap2))) := fun w2 g cap2 _ a b c => by
        rw [HPH']
        obtain ⟨ao5, cap5, rfl, _⟩ := own_form T5.own
        exact pmid_app hw5 T5 K5 C5 hfr HL5' htw hkb a b c
      obtain ⟨HN1, HN2, HN3⟩ := HNH.out
      have HN1' := Lib.hid HN1
      have HN2' := Lib.hid HN2
      have HN3' := Lib.hid HN3
      clear HN1 HN2 HN3 HNH HL5' HPH' hkb hfr
      obtain ⟨ao5, cap5, rfl, hg1, hg2, hg3, hg4⟩ := own_form T5.own
      obtain ⟨aq1, aq2, aq3⟩ := T5.apart
      have x2 := T5.box.cell 2
      have y0 := K5.cell 0
      have y1 := K5.cell 1
      have fz := T5.box.frozen 2
      have ht5 := T5.box.lt
      have hsz5 := C5.size
      go_wp2_with fail
      go_upto_region 5 with fail
      go_cut [] (fun wx => PMidE w base t m (.slice ao r.length cap) n (putR n r (k1, k2) x) (k1, k2) x wx)
      case first =>
        go_region_law ((refine step_append_lies _ (by rfl) _ _ _ (by rfl) base 60 i0 _ 2 16 Try.underlying56 hi0 hz0 hz1 hz2 rfl (by omega) (.slice ao5 r5.length cap5) r5.length _ (by rfl) (own_drew (own_alloc T5.own _)) ⟨w5.heap.size, 0, none⟩ 1 1 [.int .i64 k1, .int .i64 k2] (by rfl) (by rfl) (World.news_of_block (cs := #[.int .i64 k1, .int .i64 k2]) (t := 60) (fr := (0, 0)) (heap_alloc_new w5 _)) (by simp [Value.oneCell']) (by omega) (by unfold maxLen; omega) (by omega) (by simp; omega) (w5.heap.size + 1) (by simp) ?_; intro gg cap2 w2 hown1 hgrow hat hlt2; have M2 := box_grown (T5.box.alloc _) hgrow (fun e => aq3 e.symm); have m2 := M2.cell 2; have fz2 := M2.frozen 2; have hz2 := M2.lt))
        all_goals
          go_wp2_with fail
          go_meet
          exact HMID.out _ _ _ () hown1 hgrow hat
      case rest =>
        obtain ⟨v6, f6, PM6⟩ := hcut
        obtain ⟨w6, hw6⟩ : ∃ w6, w6 = wc := ⟨_, rfl⟩
        subst hw6
        have HN1 := HN1'.out
        have HN2 := HN2'.out
        have HN3 := HN3'.out
        clear x2 y0 y1 fz hsz5 HMID
        go_wp2_with fail
        have PM := PM6
        have xx1 := PM.box.cell 1
        have yy0 := PM.key.cell 0
        have yy1 := PM.key.cell 1
        obtain ⟨w7, hrun, M7, C7, F7⟩ := (PM.map.chg ((Chg.refl w6 (fun _ => False)).drew) (fun h => h)).update hk x
        have HEND := Lib.hid (pmid_end PM ap0 M7 C7 HN1 HN2 HN3 h.nn h.bt h.bm)
        unfold keyV at hrun
        clear PM M7 C7 F7
        go_region_law (fail)
        all_goals
          go_wp2_with fail
          refine bodyPost_end (results_none rfl _ _ _) rfl ?_
          exact ⟨rfl, HEND.out⟩
    · have HP : putR n r (k1, k2) x = r ++ [((k1, k2), x)] := by unfold putR; rw [hlv, if_neg (by decide), if_neg hfull]
      have q5 : ((r.length : Int) == n) = false := beq_eq_false_iff_ne.2 hfull
      have HNX : (ks (putR n r (k1, k2) x)).Nodup ∧ (∀ p ∈ putR n r (k1, k2) x, keyOk p.1) ∧ ((putR n r (k1, k2) x).length : Int) ≤ n := by
        rw [HP]
        refine ⟨?_, ?_, ?_⟩
        · unfold ks
          rw [List.map_append, List.nodup_append]
          refine ⟨h.keys, by simp, ?_⟩
          intro a ha b hb2 e
          have : b = (k1, k2) := by simpa using hb2
          subst this e
          exact hno ha
        · intro p hp
          rcases List.mem_append.1 hp with hp | hp
          · exact h.ok p hp
          · have : p = ((k1, k2), x) := by simpa using hp
            rw [this]; exact hk
        · rw [List.length_append]
          simp
          omega
      have HNH := Lib.hid HNX
      have HPH := Lib.hid HP
      have HL5 := Lib.hid hlv
      have HT1 := Lib.hid T1
      clear hlv HP HNX hno hfull
      go_wp2_with fail
      go_quiet (fail)
      rename Nat => nqa
      go_wp2_with fail
      go_quiet (fail)
      go_upto_region 5 with fail
      obtain ⟨w5, hw5e⟩ : ∃ w5, (w1.drewN nqa).drewN nq = w5 := ⟨_, rfl⟩
      have T5 := HT1.out.chg (((Chg.refl w1 (fun _ => False)).drewN nqa).drewN nq) (fun _ _ h => h)
      have K5 := Box.drewN (Box.drewN KB nqa) nq
      have C5 : Chg w ((w1.drewN nqa).drewN nq) (foot t m (.slice ao r.length cap)) := (CF.drewN _).drewN _
      have hw5 : w.heap.size < ((w1.drewN nqa).drewN nq).heap.size := hsz1
      rw [hw5e] at T5 K5 C5 hw5 ⊢
      have hkb : (Value.slice ao r.length cap).ownBlock ≠ some w.heap.size := fun e => by have := hob _ e; omega
      have hfr : ∀ j, (Value.slice ao r.length cap).ownBlock = some j → (Value.slice ao r.length cap).ownBlock = some j ∨ w.heap.size ≤ j := fun j hj => .inl hj
      obtain ⟨r5, hr5⟩ : ∃ r5, r = r5 := ⟨_, rfl⟩
      have HL5' := HL5.out
      have hlr5 : r5.length ≤ 256 := by rw [← hr5]; exact hrl
      have T5' : TAt w5 base t m (.slice ao r.length cap) n r5 := by rw [← hr5]; exact T5
      rw [hr5] at HL5'
      have HPH' : putR n r (k1, k2) x = r5 ++ [((k1, k2), x)] := by rw [HPH.out, hr5]
      obtain ⟨v5, hv5⟩ : ∃ v5, Value.slice ao r.length cap = v5 := ⟨_, rfl⟩
      have T5 : TAt w5 base t m v5 n r5 := by rw [← hv5]; exact T5'
      have hkb : v5.ownBlock ≠ some w.heap.size := by rw [← hv5]; exact hkb
      have hfr : ∀ j, v5.ownBlock = some j → (Value.slice ao r.length cap).ownBlock = some j ∨ w.heap.size ≤ j := by rw [← hv5]; exact hfr
      clear HL5 x0 x1 x2 y0 y1 hlk q5 hw5e T5' hv5 hr5
      have HMID : Hid (∀ w2 g cap2 (vv : Unit), w2.ownsRow base 60 2 (.slice (some ⟨g, 0, none⟩) (r5.length + 1) cap2) (r5.length + 1) ((ks r5).flatMap kCells ++ [.int .i64 k1, .int .i64 k2]) → World.grownBy (w5.alloc (.cells #[.int .i64 k1, .int .i64 k2] 60)).drew w2 v5.ownBlock → (v5.ownBlock = some g ∨ g = w5.heap.size + 1) →
          PMidE w base t m (.slice ao r.length cap) n (putR n r (k1, k2) x) (k1, k2) x (w2.setCell ⟨t, 2, none⟩ (.slice (some ⟨g, 0, none⟩) (r5.length + 1) cap2))) := fun w2 g cap2 _ a b c => by
        rw [HPH']
        obtain ⟨ao5, cap5, rfl, _⟩ := own_form T5.own
        exact pmid_app hw5 T5 K5 C5 hfr HL5' htw hkb a b c
      obtain ⟨HN1, HN2, HN3⟩ := HNH.out
      have HN1' := Lib.hid HN1
      have HN2' := Lib.hid HN2
      have HN3' := Lib.hid HN3
      clear HN1 HN2 HN3 HNH HL5' HPH' hkb hfr
      obtain ⟨ao5, cap5, rfl, hg1, hg2, hg3, hg4⟩ := own_form T5.own
      obtain ⟨aq1, aq2, aq3⟩ := T5.apart
      have x2 := T5.box.cell 2
      have y0 := K5.cell 0
      have y1 := K5.cell 1
      have fz := T5.box.frozen 2
      have ht5 := T5.box.lt
      have hsz5 := C5.size
      
      
      go_cut [] (fun wx => PMidE w base t m (.slice ao r.length cap) n (putR n r (k1, k2) x) (k1, k2) x wx)
      case first =>
        go_region_law ((refine step_append_lies _ (by rfl) _ _ _ (by rfl) base 60 i0 _ 2 16 Try.underlying56 hi0 hz0 hz1 hz2 rfl (by omega) (.slice ao5 r5.length cap5) r5.length _ (by rfl) (own_drew (own_alloc T5.own _)) ⟨w5.heap.size, 0, none⟩ 1 1 [.int .i64 k1, .int .i64 k2] (by rfl) (by rfl) (World.news_of_block (cs := #[.int .i64 k1, .int .i64 k2]) (t := 60) (fr := (0, 0)) (heap_alloc_new w5 _)) (by simp [Value.oneCell']) (by omega) (by unfold maxLen; omega) (by omega) (by simp; omega) (w5.heap.size + 1) (by simp) ?_; intro gg cap2 w2 hown1 hgrow hat hlt2; have M2 := box_grown (T5.box.alloc _) hgrow (fun e => aq3 e.symm); have m2 := M2.cell 2; have fz2 := M2.frozen 2; have hz2 := M2.lt))
        all_goals
          go_wp2_with fail
          go_meet
          exact HMID.out _ _ _ () hown1 hgrow hat
      case rest =>
        obtain ⟨v6, f6, PM6⟩ := hcut
        obtain ⟨w6, hw6⟩ : ∃ w6, w6 = wc := ⟨_, rfl⟩
        subst hw6
        have HN1 := HN1'.out
        have HN2 := HN2'.out
        have HN3 := HN3'.out
        clear x2 y0 y1 fz hsz5 HMID
        go_wp2_with fail
        have PM := PM6
        have xx1 := PM.box.cell 1
        have yy0 := PM.key.cell 0
        have yy1 := PM.key.cell 1
        obtain ⟨w7, hrun, M7, C7, F7⟩ := (PM.map.chg ((Chg.refl w6 (fun _ => False)).drew) (fun h => h)).update hk x
        have HEND := Lib.hid (pmid_end PM ap0 M7 C7 HN1 HN2 HN3 h.nn h.bt h.bm)
        unfold keyV at hrun
        clear PM M7 C7 F7
        go_region_law (fail)
        all_goals
          go_wp2_with fail
          refine bodyPost_end (results_none rfl _ _ _) rfl ?_
          exact ⟨rfl, HEND.out⟩
end Go.Proofs.Ytgblnmahniphdaa

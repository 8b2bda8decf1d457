/- tlb: Flush's function, slices.IndexFunc, slices.DeleteFunc. -/
import Derived.Test.YtgblnmahniphdaaTlb4
namespace Go.Proofs.Ytgblnmahniphdaa
open Go.RowKit

/-- What the function needs of the memory: the two boxes, the Tlb, its map. -/
structure FCtx (w : World) (bt bp t m : Nat) (tag n : Int) (v : Value) (f : KeyD → Option Int) : Prop where
  ptag : Box w bt 3 #[.int .i64 tag]
  pt : Box w bp 23 #[.pointer (some ⟨t, 0, none⟩)]
  box : Box w t 58 #[.int .i64 n, .map (some m), v]
  map : MapFn w m f
theorem FCtx.chg {w w' : World} {bt bp t m : Nat} {tag n : Int} {v : Value} {f g : KeyD → Option Int} {P : Nat → Prop} (h : FCtx w bt bp t m tag n v f) (c : Chg w w' P) (h1 : ¬ P bt) (h2 : ¬ P bp) (h3 : ¬ P t) (M : MapFn w' m g) : FCtx w' bt bp t m tag n v g :=
  ⟨h.ptag.chg c h1, h.pt.chg c h2, h.box.chg c h3, M⟩
theorem FCtx.ne {w : World} {bt bp t m : Nat} {tag n : Int} {v : Value} {f : KeyD → Option Int} (h : FCtx w bt bp t m tag n v f) : m ≠ bt ∧ m ≠ bp ∧ m ≠ t := ⟨map_ne_box h.map h.ptag, map_ne_box h.map h.pt, map_ne_box h.map h.box⟩

def remF (f : KeyD → Option Int) (tag : Int) (k : KeyD) : KeyD → Option Int := fun c => if k.1 = tag ∧ c = k then none else f c

set_option maxHeartbeats 1000000 in
theorem fl1_any {w : World} {bt bp t m : Nat} {tag n : Int} {v : Value} {f : KeyD → Option Int} (h : FCtx w bt bp t m tag n v f) (k1 k2 : Int) (hk : keyOk (k1, k2)) :
    Calls Try.prog 27 #[.agg #[.int .i64 k1, .int .i64 k2], .pointer (some ⟨bt, 0, none⟩), .pointer (some ⟨bp, 0, none⟩)] w fun e w' => e = .returned (.bool (k1 == tag)) ∧ MapFn w' m (remF f tag (k1, k2)) ∧ Chg w w' (fun j => j = m) := by
  obtain ⟨hn1, hn2, hn3⟩ := h.ne
  obtain ⟨w1, hw1⟩ : ∃ w1, w.alloc (.cells #[.int .i64 k1, .int .i64 k2] 60) = w1 := ⟨_, rfl⟩
  have CA : Chg w w1 (fun _ => False) := by rw [← hw1]; exact (Chg.refl _ _).alloc _
  have KB : Box w1 w.heap.size 60 #[.int .i64 k1, .int .i64 k2] := by rw [← hw1]; exact Box.new _ _ _
  have H1 := h.chg CA (fun h => h) (fun h => h) (fun h => h) (h.map.chg CA (fun h => h))
  have hmw := h.map.lt
  have y0 := KB.cell 0
  have y1 := KB.cell 1
  have z0 := H1.ptag.cell 0
  have z1 := H1.pt.cell 0
  have x1 := H1.box.cell 1
  by_cases e : k1 = tag
  · subst e
    have HR : remF f k1 (k1, k2) = fun c => if c = (k1, k2) then none else f c := by funext c; unfold remF; simp
    have hdel : ∃ w', (Builtin.delete_ #[55, 60] 0 #[.map (some m), .agg #[.int .i64 k1, .int .i64 k2]]).run Try.prog w1.drew = .ok (.tuple #[]) w' ∧ MapFn w' m (remF f k1 (k1, k2)) ∧ Chg w1 w' (fun k => k = m) := by
      obtain ⟨w', a, b, c, d⟩ := (H1.map.chg ((Chg.refl w1 (fun _ => False)).drew) (fun h => h)).delete hk 0
      exact ⟨w', a, by rw [HR]; exact b, c.drewL⟩
    have HCA := Lib.hid CA
    clear CA HR
    go_enter Try.func27, Try.ntmps27
    go_wp2_with fail
    go_region_law ((refine step_delete_of (by rfl) _ _ _ _ (by rfl) _ _ _ (by rfl) (by rfl) _ hdel ?_; rintro w3 ⟨HM, HC⟩))
    all_goals
      have y0' := (KB.chg HC (fun e => by omega)).cell 0
      have z0' := (H1.ptag.chg HC (fun e => hn1 e.symm)).cell 0
      go_wp2_with fail
      go_ret
      exact ⟨ret_bool (by simp), HM, (HCA.out.mono (fun _ _ h => h.elim)).trans HC⟩
  · have q : (k1 == tag) = false := beq_eq_false_iff_ne.2 e
    have HR : Hid (remF f tag (k1, k2) = f) := by show _ = _; funext c; unfold remF; rw [if_neg (fun h => e h.1)]
    have HCA := Lib.hid CA
    clear CA e
    go_enter Try.func27, Try.ntmps27
    go_wp2_with fail
    go_ret
    exact ⟨ret_bool q.symm, by rw [HR.out]; exact H1.map, HCA.out.mono (fun _ _ h => h.elim)⟩

/-- What is left of f when the keys of l have been asked. -/
def remL (f : KeyD → Option Int) (tag : Int) (l : List KeyD) : KeyD → Option Int := l.foldl (fun f k => remF f tag k) f
theorem remL_snoc (f : KeyD → Option Int) (tag : Int) (l : List KeyD) (k : Nat) (hk : k < l.length) : remL f tag (l.take (k + 1)) = remF (remL f tag (l.take k)) tag l[k] := by
  unfold remL
  rw [List.take_succ_eq_append_getElem hk, List.foldl_append]
  rfl
theorem remL_none (f : KeyD → Option Int) (tag : Int) : ∀ (l : List KeyD), (∀ k ∈ l, k.1 ≠ tag) → remL f tag l = f
  | [], _ => rfl
  | k :: l, h => by
    show remL (remF f tag k) tag l = f
    have : remF f tag k = f := by funext c; unfold remF; rw [if_neg (fun hh => h k (by simp) hh.1)]
    rw [this]
    exact remL_none f tag l (fun x hx => h x (by simp [hx]))
/-- The first key of the tag, from the k-th on. -/
def idxV (l : List KeyD) (tag : Int) : Int := match l.findIdx? (fun k => k.1 == tag) with
  | some i => i
  | none => -1
set_option maxHeartbeats 2000000 in
theorem idx_any {w : World} {bt bp t m : Nat} {tag n : Int} {v : Value} {f : KeyD → Option Int} {b o cap : Nat} {l : List KeyD} (h : FCtx w bt bp t m tag n v f) (hL : Lst w (some ⟨b, o, none⟩) l.length cap (l.flatMap kCells) 2) (hb : b ≠ m) (hok : ∀ k ∈ l, keyOk k) :
    Calls Try.prog 37 #[.slice (some ⟨b, o, none⟩) l.length cap, .func (.func 27) #[] #[.pointer (some ⟨bt, 0, none⟩), .pointer (some ⟨bp, 0, none⟩)]] w fun e w' =>
      Chg w w' (fun j => j = m) ∧ ((e = .returned (.int .i64 (-1)) ∧ (∀ k ∈ l, k.1 ≠ tag) ∧ MapFn w' m f) ∨ ∃ i : Nat, ∃ hi : i < l.length, e = .returned (.int .i64 i) ∧ (∀ (j : Nat) (hj : j < l.length), j < i → l[j].1 ≠ tag) ∧ l[i].1 = tag ∧ MapFn w' m (remL f tag (l.take (i + 1)))) := by
  obtain ⟨hn1, hn2, hn3⟩ := h.ne
  have hm1 := hL.mx
  have hm2 := hL.le
  unfold maxLen at hm1
  go_enter Try.func37, Try.ntmps37
  go_wp2_with fail
  go_loopw [8] (fun i wr => ∃ k : Nat, k ≤ l.length ∧ i = .int .i64 k ∧ (∀ (j : Nat) (hj : j < l.length), j < k → l[j].1 ≠ tag) ∧ MapFn wr m (remL f tag (l.take k)) ∧ Chg w wr (fun j => j = m)) (fun i _ => l.length - (intOf i).toNat)
  case atStart => exact ⟨0, by omega, rfl, fun _ _ h => absurd h (by omega), h.map, Chg.refl _ _⟩
  case round =>
    obtain ⟨k, hk, rfl, hno, Mk, Ck⟩ := hrel
    by_cases hlt : k < l.length
    · have hLk := hL.chg Ck (fun ad e hh => hb (by injection e with e; rw [← e] at hh; exact hh))
      have c0 := Lst.cell0 (n := 2) (fun _ => rfl) hLk k (by decide) hlt rfl
      have c1 := Lst.cell (n := 2) (fun _ => rfl) hLk k 1 (by decide) hlt rfl
      have hkk := hok _ (List.getElem_mem hlt)
      have HRS := Lib.hid (remL_snoc f tag l k hlt)
      have FC := h.chg Ck (fun e => hn1 e.symm) (fun e => hn2 e.symm) (fun e => hn3 e.symm) Mk
      have HNO := Lib.hid hno
      obtain ⟨x, hx⟩ : ∃ x, l[k] = x := ⟨_, rfl⟩
      have HX := Lib.hid hx
      rw [hx] at c0 c1 hkk HRS
      obtain ⟨k1, k2⟩ := x
      have hk0 : (0 : Int) ≤ (k : Int) := by omega
      have hk1 : (k : Int) < (l.length : Int) := by omega
      clear hno hx hLk
      go_wp2_with fail
      refine (fl1_any FC k1 k2 hkk).mono ?_
      rintro e w4 ⟨rfl, M4, C4⟩
      cases hq : (k1 == tag)
      · go_wp2_with fail
        go_roundw
        case rel =>
          refine ⟨k + 1, by omega, by go_num, fun j hj hlt => ?_, by rw [HRS.out]; exact M4, Ck.trans C4⟩
          by_cases e : j = k
          · subst e
            rw [HX.out]
            exact beq_eq_false_iff_ne.1 hq
          · exact HNO.out j hj (by omega)
        case measure => simp [intOf]; omega
      · go_wp2_with fail
        go_ret
        exact ⟨Ck.trans C4, .inr ⟨k, hlt, rfl, HNO.out, by rw [HX.out]; exact beq_iff_eq.1 hq, by rw [HRS.out]; exact M4⟩⟩
    · have h1 : k = l.length := by omega
      subst h1
      have hall : ∀ k ∈ l, k.1 ≠ tag := fun k hk => by
        obtain ⟨j, hj, rfl⟩ := List.getElem_of_mem hk
        exact hno j hj hj
      have HALL := Lib.hid hall
      clear hall hno
      go_wp2_with fail
      go_ret
      refine ⟨Ck, .inl ⟨rfl, HALL.out, ?_⟩⟩
      rw [List.take_length, remL_none f tag l HALL.out] at Mk
      exact Mk

/-- What stays. -/
def keepL (l : List KeyD) (tag : Int) : List KeyD := l.filter (fun k => !(k.1 == tag))
theorem keepL_snoc (l : List KeyD) (tag : Int) (k : Nat) (hk : k < l.length) : keepL (l.take (k + 1)) tag = keepL (l.take k) tag ++ (if l[k].1 = tag then [] else [l[k]]) := by
  unfold keepL
  rw [List.take_succ_eq_append_getElem hk, List.filter_append]
  congr 1
  by_cases e : l[k].1 = tag
  · rw [if_pos e]; simp [e]
  · rw [if_neg e]; simp [e]
theorem keepL_all (l : List KeyD) (tag : Int) (h : ∀ k ∈ l, k.1 ≠ tag) : keepL l tag = l := by
  unfold keepL
  rw [List.filter_eq_self]
  intro k hk
  simp [h k hk]
theorem take_ext {α : Type} {l : List α} {k : Nat} {x : α} (h : l[k]? = some x) : l.take (k + 1) = l.take k ++ [x] := by
  obtain ⟨hk, rfl⟩ := List.getElem?_eq_some_iff.1 h
  exact List.take_succ_eq_append_getElem hk

/-- Two cells of a row are set. -/
theorem own_set2 {w : World} {base g cap n : Nat} {e : TypeId} {xs : List Value} (h : w.ownsRow base e 2 (.slice (some ⟨g, 0, none⟩) n cap) n xs) (j : Nat) (u : Value) :
    (w.setCell ⟨g, j, none⟩ u).ownsRow base e 2 (.slice (some ⟨g, 0, none⟩) n cap) n (xs.set j u) := by
  rcases h.2 with ⟨h0, _⟩ | ⟨b, cap', cur, hv, hb, hh, hc, hmx, hs, ht⟩
  · cases h0
  · injection hv with e1 e2 e3
    injection e1 with e1
    have : g = b := congrArg Addr.block e1
    subst this e3
    refine ⟨by rw [List.length_set]; exact h.1, .inr ⟨g, cap, cur.setIfInBounds j u, rfl, hb, ?_, hc, hmx, by simpa using hs, ?_⟩⟩
    · have := setCell_eq_setRow w g j cur e (0, 0) u hh
      rw [this]
      exact setRow_heap w g cur _ e _ hh
    · rw [Array.toList_setIfInBounds, ← ht, List.take_set]

set_option maxHeartbeats 4000000 in
theorem delf_any {w : World} {base bt bp t m : Nat} {tag n : Int} {v : Value} {f : KeyD → Option Int} {g cap : Nat} {l : List KeyD} (h : FCtx w bt bp t m tag n v f) (hO : w.ownsRow base 60 2 (.slice (some ⟨g, 0, none⟩) l.length cap) l.length (l.flatMap kCells)) (h1 : bt ≠ g) (h2 : bp ≠ g) (hok : ∀ k ∈ l, keyOk k) :
    Calls Try.prog 26 #[.slice (some ⟨g, 0, none⟩) l.length cap, .func (.func 27) #[] #[.pointer (some ⟨bt, 0, none⟩), .pointer (some ⟨bp, 0, none⟩)]] w fun e w' =>
      e = .returned (.slice (some ⟨g, 0, none⟩) (keepL l tag).length cap) ∧ w'.ownsRow base 60 2 (.slice (some ⟨g, 0, none⟩) (keepL l tag).length cap) (keepL l tag).length ((keepL l tag).flatMap kCells) ∧ MapFn w' m (remL f tag l) ∧ Chg w w' (fun j => j = m ∨ j = g) := by
  obtain ⟨hn1, hn2, hn3⟩ := h.ne
  obtain ⟨hc1, hc2, hc3, hc4⟩ := own_cap hO
  unfold maxLen at hc2
  have hgm : g ≠ m := fun e => map_ne_own h.map hO (by rw [e]; rfl)
  have hgt : g ≠ t := fun e => own_ne hO h.box (by decide) t (by rw [e]; rfl) rfl
  have HI := idx_any h (own_lst hO) hgm hok
  go_enter Try.func26, Try.ntmps26
  go_wp2_with fail
  refine HI.mono ?_
  rintro e w1 ⟨C1, ⟨rfl, hall, M1⟩ | ⟨i, hi, rfl, hno, htag, M1⟩⟩
  · have HK := Lib.hid (keepL_all l tag hall)
    have HRL := Lib.hid (remL_none f tag l hall)
    clear hall HI
    go_wp2_with fail
    go_ret
    rw [HK.out, HRL.out]
    exact ⟨rfl, own_chg hO C1 (fun j hj e => hgm (by injection hj with hj; rw [← e]; exact hj)), M1, C1.mono (fun _ _ h => .inl h)⟩
  have hno1 : ((i : Int) == -1) = false := beq_eq_false_iff_ne.2 (by omega)
  have hk0 : keepL (l.take (i + 1)) tag = l.take i := by
    rw [keepL_snoc l tag i hi, if_pos htag, List.append_nil]
    refine keepL_all _ _ (fun k hk => ?_)
    obtain ⟨j, hj, rfl⟩ := List.getElem_of_mem hk
    have hj' : j < i := by rw [List.length_take] at hj; omega
    rw [List.getElem_take]
    exact hno j (by omega) hj'
  have HK0 := Lib.hid hk0
  have O1 := own_chg hO C1 (fun j hj e => hgm (by injection hj with hj; rw [← e]; exact hj))
  have C1' : Chg w w1 (fun j => j = m ∨ j = g) := C1.mono (fun _ _ h => .inl h)
  have hlen : (l.flatMap kCells).length = l.length * 2 := flat_length kCells 2 (fun _ => rfl) l
  have HLEN := Lib.hid hlen
  clear HI hno htag hk0 hlen
  go_wp2_with fail
  go_loopw [5, 6] (fun i j wr => ∃ (a q : Nat) (L : List Value), q ≤ l.length ∧ a < q ∧ j = .int .i64 q ∧ i = .int .i64 a ∧ a = (keepL (l.take q) tag).length ∧ wr.ownsRow base 60 2 (.slice (some ⟨g, 0, none⟩) l.length cap) l.length L ∧ L.take (a * 2) = (keepL (l.take q) tag).flatMap kCells ∧ L.drop (q * 2) = (l.drop q).flatMap kCells ∧ MapFn wr m (remL f tag (l.take q)) ∧ Chg w wr (fun j => j = m ∨ j = g)) (fun _ j _ => l.length - (intOf j).toNat)
  case atStart =>
    refine ⟨i, i + 1, _, by omega, by omega, by go_num, rfl, ?_, O1, ?_, flat_drop _ _, M1, C1'⟩
    · rw [HK0.out, List.length_take]; omega
    · rw [HK0.out, flat_take]
  case round =>
    obtain ⟨a, q, L, hq, haq, rfl, rfl, ha, Oq, hT, hD, Mq, Cq⟩ := hrel
    have HA := Lib.hid ha
    have HT := Lib.hid hT
    have HD := Lib.hid hD
    have hLl := Oq.1
    clear ha hT hD
    by_cases hlt : q < l.length
    · have hcq : ∀ (z : Nat) (u : Value), z < 2 → (kCells l[q])[z]? = some u → L[q * 2 + z]? = some u := fun z u hz hu => by
        have h1 := flat_get kCells 2 (fun _ => rfl) (l.drop q) 0 z hz (by rw [List.length_drop]; omega)
        rw [← HD.out, List.getElem?_drop, Nat.zero_mul, Nat.zero_add, List.getElem_drop] at h1
        rw [h1]
        exact hu
      have e0 : L[q * 2]? = some (.int .i64 l[q].1) := hcq 0 _ (by decide) rfl
      have e1 : L[q * 2 + 1]? = some (.int .i64 l[q].2) := hcq 1 _ (by decide) rfl
      have c0 := own_cells Oq _ _ e0
      have c1 := own_cells Oq _ _ e1
      have hkk := hok _ (List.getElem_mem hlt)
      have HRS := Lib.hid (remL_snoc f tag l q hlt)
      have HKS := Lib.hid (keepL_snoc l tag q hlt)
      have HDR : Hid ((l.drop q).flatMap kCells = kCells l[q] ++ (l.drop (q + 1)).flatMap kCells) := by show _ = _; rw [List.drop_eq_getElem_cons hlt, List.flatMap_cons]
      have C2 : Chg wr (wr.alloc (.cells #[.int .i64 l[q].1, .int .i64 l[q].2] 60)) (fun _ => False) := (Chg.refl _ _).alloc _
      have CW := Cq.alloc (.cells #[.int .i64 l[q].1, .int .i64 l[q].2] 60)
      have KB := Box.new wr 60 #[.int .i64 l[q].1, .int .i64 l[q].2]
      have M2 := Mq.chg C2 (fun h => h)
      have FC := h.chg CW (fun e => e.elim (fun e => hn1 e.symm) (fun e => h1 e)) (fun e => e.elim (fun e => hn2 e.symm) (fun e => h2 e)) (fun e => e.elim (fun e => hn3 e.symm) (fun e => hgt e.symm)) M2
      have O2 := own_chg Oq C2 (fun _ _ h => h)
      have hmw := Mq.lt
      have hgw := (own_cap Oq).2.2.2
      obtain ⟨x, hx⟩ : ∃ x, l[q] = x := ⟨_, rfl⟩
      rw [hx] at c0 c1 hkk HRS HKS HDR CW KB M2 FC O2 C2
      obtain ⟨k1, k2⟩ := x
      have hq0 : (0 : Int) ≤ (q : Int) := by omega
      have hq1 : (q : Int) < (l.length : Int) := by omega
      have y0 := KB.cell 0
      have y1 := KB.cell 1
      clear e0 e1 hcq hx
      go_wp2_with fail
      refine (fl1_any FC k1 k2 hkk).mono ?_
      rintro e w4 ⟨rfl, M4, C4⟩
      have O4 := own_chg O2 C4 (fun j hj e => hgm (by injection hj with hj; rw [← e]; exact hj))
      have KB4 := KB.chg C4 (fun e => by omega)
      have z0 := KB4.cell 0
      have z1 := KB4.cell 1
      have CW4 := CW.trans' C4 (fun j _ e => .inl e)
      clear y0 y1 c0 c1
      cases hqt : (k1 == tag)
      · have htg : ¬ k1 = tag := beq_eq_false_iff_ne.1 hqt
        have hab : a * 2 + 1 < L.length := by rw [hLl]; omega
        have d0 : w4.cell? ⟨g, a * 2, none⟩ = some L[a * 2] := own_cells O4 _ _ (List.getElem?_eq_getElem (by omega))
        have d1 : w4.cell? ⟨g, a * 2 + 1, none⟩ = some L[a * 2 + 1] := own_cells O4 _ _ (List.getElem?_eq_getElem hab)
        have g0 := own_frozen O4 (a * 2)
        have g1 := own_frozen O4 (a * 2 + 1)
        have hal : (a : Int) < (l.length : Int) := by omega
        have ha0 : (0 : Int) ≤ (a : Int) := by omega
        have O5 := own_set2 (own_set2 O4 (a * 2) (.int .i64 k1)) (a * 2 + 1) (.int .i64 k2)
        have C5 : Chg w ((w4.setCell ⟨g, a * 2, none⟩ (.int .i64 k1)).setCell ⟨g, a * 2 + 1, none⟩ (.int .i64 k2)) (fun j => j = m ∨ j = g) := (CW4.setCell (fun _ => .inr rfl) _).setCell (fun _ => .inr rfl) _
        have M5 : MapFn ((w4.setCell ⟨g, a * 2, none⟩ (.int .i64 k1)).setCell ⟨g, a * 2 + 1, none⟩ (.int .i64 k2)) m (remL f tag (l.take (q + 1))) := by
          rw [HRS.out]
          exact M4.chg (((Chg.refl w4 (fun j => j = g)).setCell (p := ⟨g, a * 2, none⟩) (fun _ => rfl) _).setCell (p := ⟨g, a * 2 + 1, none⟩) (fun _ => rfl) _) (fun e => hgm e.symm)
        have HQT := Lib.hid hqt
        clear htg
        go_wp2_with fail
        go_roundw
        case rel =>
          have hks : keepL (l.take (q + 1)) tag = keepL (l.take q) tag ++ [(k1, k2)] := by rw [HKS.out, if_neg (by exact beq_eq_false_iff_ne.1 HQT.out)]
          refine ⟨a + 1, q + 1, (L.set (a * 2) (.int .i64 k1)).set (a * 2 + 1) (.int .i64 k2), by omega, by omega, by go_num, by go_num, ?_, O5, ?_, ?_, M5, C5⟩
          · rw [hks, List.length_append, ← HA.out]; rfl
          · rw [hks, List.flatMap_append, ← HT.out]
            apply List.ext_getElem?
            intro z
            rw [List.getElem?_take, List.getElem?_set, List.getElem?_set, List.getElem?_append]
            have hz : (L.take (a * 2)).length = a * 2 := by rw [List.length_take]; omega
            rw [hz]
            by_cases z1 : z < a * 2
            · rw [if_pos (by omega), if_neg (by omega), if_neg (by omega), if_pos z1, List.getElem?_take, if_pos z1]
            · rw [if_neg z1]
              by_cases z2 : z = a * 2
              · subst z2
                rw [if_pos (by omega), if_neg (by omega), if_pos rfl, if_pos (by omega), Nat.sub_self]
                rfl
              · by_cases z3 : z = a * 2 + 1
                · subst z3
                  rw [if_pos (by omega), if_pos rfl, if_pos (by rw [List.length_set]; exact hab), show a * 2 + 1 - a * 2 = 1 by omega]
                  rfl
                · rw [if_neg (by omega)]
                  symm
                  apply List.getElem?_eq_none
                  show 2 ≤ z - a * 2
                  omega
          · rw [List.drop_set_of_lt (by omega), List.drop_set_of_lt (by omega), show (q + 1) * 2 = q * 2 + 2 by omega, ← List.drop_drop, HD.out, HDR.out]
            rfl
        case measure => simp [intOf]; omega
      · have htg : k1 = tag := beq_iff_eq.1 hqt
        go_wp2_with fail
        go_roundw
        case rel =>
          have hks : keepL (l.take (q + 1)) tag = keepL (l.take q) tag := by rw [HKS.out, if_pos (by exact htg), List.append_nil]
          refine ⟨a, q + 1, L, by omega, by omega, by go_num, rfl, by rw [hks]; exact HA.out, O4, by rw [hks]; exact HT.out, ?_, by rw [HRS.out]; exact M4, CW4⟩
          rw [show (q + 1) * 2 = q * 2 + 2 by omega, ← List.drop_drop, HD.out, HDR.out]
          rfl
        case measure => simp [intOf]; omega
    · have h1 : q = l.length := by omega
      subst h1
      have hcut := own_take Oq a (by omega)
      rw [HT.out] at hcut
      have hac : ¬ cap = a := by omega
      have hac2 : a ≤ cap := by omega
      have hac3 : a ≤ l.length := by omega
      have hac4 : (a : Int) ≤ (l.length : Int) := by omega
      rw [List.take_length] at Mq
      have HTT : Hid (keepL (l.take l.length) tag = keepL l tag) := by show _ = _; rw [List.take_length]
      have HA2 : Hid (a = (keepL l tag).length) := by show _ = _; rw [← HTT.out]; exact HA.out
      go_wp2_with (with_reducible refine wpList_clear_of rfl _ 56 rfl _ (.tuple #[]) rfl _ (run_clear_own Try.underlying56 (zero_key _) rfl (by decide) (by decide) hcut (m := l.length - a) (c := cap - a) (by omega) (by omega)) ?_; rintro w4 ⟨HO4, HC4⟩)
      go_ret
      rw [HTT.out] at HO4
      rw [← HA2.out]
      exact ⟨rfl, HO4, Mq.chg HC4 (fun e => hgm e.symm), Cq.trans' HC4 (fun j _ e => .inr e)⟩
end Go.Proofs.Ytgblnmahniphdaa

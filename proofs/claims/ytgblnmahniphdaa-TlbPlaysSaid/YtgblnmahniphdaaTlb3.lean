/- tlb: Evict, Put. -/
import Derived.Test.YtgblnmahniphdaaTlb2
namespace Go.Proofs.Ytgblnmahniphdaa
open Go.RowKit

theorem ks_len (r : List (KeyD × Int)) : (ks r).length = r.length := by simp [ks]
theorem flat_take (l : List KeyD) (i : Nat) : (l.flatMap kCells).take (i * 2) = (l.take i).flatMap kCells := by
  induction l generalizing i with
  | nil => simp
  | cons x l ih =>
    cases i with
    | zero => simp
    | succ i =>
      rw [List.flatMap_cons, List.take_succ_cons, List.flatMap_cons, ← ih i]
      show (([.int .i64 x.1, .int .i64 x.2] : List Value) ++ l.flatMap kCells).take ((i + 1) * 2) = _
      rw [show (i + 1) * 2 = i * 2 + 1 + 1 by omega]
      rfl
theorem flat_drop (l : List KeyD) (i : Nat) : (l.flatMap kCells).drop (i * 2) = (l.drop i).flatMap kCells := by
  induction l generalizing i with
  | nil => simp
  | cons x l ih =>
    cases i with
    | zero => simp
    | succ i =>
      rw [List.flatMap_cons, List.drop_succ_cons, ← ih i]
      show (([.int .i64 x.1, .int .i64 x.2] : List Value) ++ l.flatMap kCells).drop ((i + 1) * 2) = _
      rw [show (i + 1) * 2 = i * 2 + 1 + 1 by omega]
      rfl
theorem flat_erase (l : List KeyD) (i : Nat) : (l.flatMap kCells).take (i * 2) ++ (l.flatMap kCells).drop ((i + 1) * 2) = (l.eraseIdx i).flatMap kCells := by
  rw [flat_take, flat_drop, List.eraseIdx_eq_take_drop_succ, List.flatMap_append]
theorem ks_erase (r : List (KeyD × Int)) (i : Nat) : ks (r.eraseIdx i) = (ks r).eraseIdx i := by
  unfold ks
  rw [List.eraseIdx_eq_take_drop_succ, List.eraseIdx_eq_take_drop_succ, List.map_append, List.map_take, List.map_drop]
theorem look_none {r : List (KeyD × Int)} {k : KeyD} : look r k = none ↔ k ∉ ks r := by
  unfold look ks
  rw [Option.map_eq_none_iff, List.find?_eq_none]
  simp only [decide_eq_true_eq, List.mem_map, not_exists, not_and]
theorem look_mem {r : List (KeyD × Int)} (hk : (ks r).Nodup) {k : KeyD} {x : Int} : look r k = some x ↔ (k, x) ∈ r := by
  induction r with
  | nil => simp [look]
  | cons p r ih =>
    unfold ks at hk
    rw [List.map_cons, List.nodup_cons] at hk
    unfold look
    rw [List.find?_cons]
    by_cases e : p.1 = k
    · simp only [e, decide_true, Option.map_some, Option.some.injEq]
      constructor
      · rintro rfl; subst e; simp
      · intro h
        rcases List.mem_cons.1 h with h | h
        · rw [← h]
        · exact absurd (List.mem_map.2 ⟨_, h, rfl⟩) (e ▸ hk.1)
    · simp only [e, decide_false]
      rw [show (r.find? (fun p => decide (p.1 = k))).map (·.2) = look r k from rfl, ih hk.2]
      constructor
      · intro h; exact List.mem_cons.2 (.inr h)
      · intro h
        rcases List.mem_cons.1 h with h | h
        · exact absurd (by rw [← h]) e
        · exact h
theorem look_erase {r : List (KeyD × Int)} (hk : (ks r).Nodup) {i : Nat} (hi : i < r.length) (c : KeyD) : look (r.eraseIdx i) c = if c = r[i].1 then none else look r c := by
  have hk2 : (ks (r.eraseIdx i)).Nodup := by rw [ks_erase]; exact hk.sublist (List.eraseIdx_sublist _ _)
  have hdist : ∀ (j : Nat) (hj : j < r.length), r[j].1 = r[i].1 → j = i := by
    intro j hj he
    have hp := List.pairwise_iff_getElem.1 hk
    have h1 : j < (ks r).length := by rw [ks_len]; exact hj
    have h2 : i < (ks r).length := by rw [ks_len]; exact hi
    have e1 : (ks r)[j] = (ks r)[i] := by simpa [ks] using he
    refine Decidable.byContradiction fun hne => ?_
    by_cases hlt : j < i
    · exact hp j i h1 h2 hlt e1
    · exact hp i j h2 h1 (by omega) e1.symm
  by_cases e : c = r[i].1
  · rw [if_pos e, look_none, ks_erase]
    intro hm
    rw [List.mem_eraseIdx_iff_getElem] at hm
    obtain ⟨j, hj, hji, hc⟩ := hm
    rw [ks_len] at hj
    apply hji
    apply hdist j hj
    rw [← e, ← hc]
    simp [ks]
  · rw [if_neg e]
    cases h : look r c with
    | none =>
      rw [look_none] at h ⊢
      rw [ks_erase]
      exact fun hm => h (List.mem_of_mem_eraseIdx hm)
    | some x =>
      rw [look_mem hk] at h
      rw [look_mem hk2, List.mem_eraseIdx_iff_getElem]
      obtain ⟨j, hj, hjx⟩ := List.getElem_of_mem h
      exact ⟨j, hj, fun hji => by subst hji; exact e (by rw [hjx]), hjx⟩

theorem del_len {w : World} {base g cap n : Nat} {xs : List Value} (h : w.ownsRow base 60 2 (.slice (some ⟨g, 0, none⟩) n cap) n xs) (hx : ∀ u ∈ xs, u.oneCell' = true) (i : Nat) (hi : i < n) :
    Calls Try.prog 25 #[.slice (some ⟨g, 0, none⟩) n cap, .int .i64 i, .int .i64 ((i : Int) + 1)] w fun e w' =>
      e = .returned (.slice (some ⟨g, 0, none⟩) (n - 1) cap) ∧ w'.ownsRow base 60 2 (.slice (some ⟨g, 0, none⟩) (n - 1) cap) (n - 1) (xs.take (i * 2) ++ xs.drop ((i + 1) * 2)) ∧ Chg w w' (fun k => k = g) := by
  obtain ⟨n1, rfl⟩ : ∃ n1, n = n1 + 1 := ⟨n - 1, by omega⟩
  exact del_any h hx i (by omega)
theorem box_tlb (w : World) (t m g cap n1 : Nat) (n : Int) (v : Value) (h : Box w t 58 #[.int .i64 n, .map (some m), v]) (u : Value) : Box (w.setCell ⟨t, 2, none⟩ u) t 58 #[.int .i64 n, .map (some m), u] := h.set 2 u
/-- Where the pieces lie apart. -/
theorem TAt.apart {w : World} {base t m : Nat} {v : Value} {n : Int} {r : List (KeyD × Int)} (h : TAt w base t m v n r) : m ≠ t ∧ v.ownBlock ≠ some m ∧ v.ownBlock ≠ some t :=
  ⟨map_ne_box h.map h.box, map_ne_own h.map h.own, fun e => own_ne h.own h.box (by decide) t e rfl⟩

def evR (r : List (KeyD × Int)) (k : Int) : List (KeyD × Int) := if 0 ≤ k ∧ k < r.length then r.eraseIdx k.toNat else r
/-- What a call on a Tlb leaves. -/
def TDid (w : World) (base t m : Nat) (v : Value) (n : Int) (r' : List (KeyD × Int)) (w' : World) : Prop :=
  ∃ v', TAt w' base t m v' n r' ∧ Chg w w' (foot t m v) ∧ ∀ k, v'.ownBlock = some k → v.ownBlock = some k ∨ w.heap.size ≤ k

set_option maxHeartbeats 1000000 in
theorem tevict_any {w : World} {base t m : Nat} {v : Value} {n : Int} {r : List (KeyD × Int)} (h : TAt w base t m v n r) (hb : base ≤ w.heap.size) (k : Int) :
    Calls Try.prog 14 #[.pointer (some ⟨t, 0, none⟩), .int .i64 k] w fun e w' => e = .returned (.tuple #[]) ∧ TDid w base t m v n (evR r k) w' := by
  have x2 := h.box.cell 2
  obtain ⟨ao, cap, rfl, hf1, hf2, hf3, hf4⟩ := own_form h.own
  by_cases h1 : k < 0
  · have d1 : decide (k < 0) = true := decide_eq_true h1
    have HR : Hid (evR r k = r) := by show _ = _; unfold evR; rw [if_neg (by omega)]
    clear h1
    go_enter Try.func14, Try.ntmps14
    go_wp2_with fail
    refine bodyPost_ret (results_none rfl _ _ _) rfl ?_
    exact ⟨rfl, by rw [HR.out]; exact ⟨_, h, Chg.refl _ _, fun k hk => .inl hk⟩⟩
  have d1 : decide (k < 0) = false := decide_eq_false h1
  by_cases h2 : (r.length : Int) ≤ k
  · have d2 : decide ((r.length : Int) ≤ k) = true := decide_eq_true h2
    have HR : Hid (evR r k = r) := by show _ = _; unfold evR; rw [if_neg (by omega)]
    clear h1 h2
    go_enter Try.func14, Try.ntmps14
    go_wp2_with fail
    refine bodyPost_ret (results_none rfl _ _ _) rfl ?_
    exact ⟨rfl, by rw [HR.out]; exact ⟨_, h, Chg.refl _ _, fun k hk => .inl hk⟩⟩
  have d2 : decide ((r.length : Int) ≤ k) = false := decide_eq_false h2
  obtain ⟨i, rfl⟩ := Int.eq_ofNat_of_zero_le (show 0 ≤ k by omega)
  have hi : i < r.length := by omega
  have HR : Hid (evR r i = r.eraseIdx i) := by show _ = _; unfold evR; rw [if_pos (by omega)]; rfl
  obtain ⟨g, cap, hv, hb2, hg, _, _⟩ := own_block h.own (by omega)
  injection hv with e1 e2 e3
  subst e1 e3
  obtain ⟨ap1, ap2, ap3⟩ := h.apart
  have hki : (ks r)[i]'(by rw [ks_len]; exact hi) = r[i].1 := by simp [ks]
  have hkk := h.ok _ (List.getElem_mem hi)
  have hcell : ∀ (j : Nat) (u : Value), j < 2 → (kCells r[i].1)[j]? = some u → w.cell? ⟨g, i * 2 + j, none⟩ = some u := fun j u hj hu => own_cells h.own _ _ (by
    rw [flat_get kCells 2 (fun _ => rfl) (ks r) i j hj (by rw [ks_len]; exact hi), hki]
    exact hu)
  have c0 : w.cell? ⟨g, i * 2, none⟩ = some (.int .i64 r[i].1.1) := hcell 0 _ (by decide) rfl
  have c1 : w.cell? ⟨g, i * 2 + 1, none⟩ = some (.int .i64 r[i].1.2) := hcell 1 _ (by decide) rfl
  have x1 := h.box.cell 1
  have hdel : ∃ w', (Builtin.delete_ #[55, 60] 0 #[.map (some m), .agg #[.int .i64 r[i].1.1, .int .i64 r[i].1.2]]).run Try.prog w.drew = .ok (.tuple #[]) w' ∧ MapFn w' m (fun c => if c = r[i].1 then none else look r c) ∧ Chg w w' (fun k => k = m) ∧ (∀ x, w'.frozen? x = w.frozen? x) := by
    obtain ⟨w', a, b, c, d⟩ := (h.map.chg ((Chg.refl w (fun _ => False)).drew) (fun h => h)).delete hkk 0
    exact ⟨w', a, b, c.drewL, d⟩
  have hle := fun c => look_erase h.keys hi c
  obtain ⟨kk, hkv⟩ : ∃ kk, r[i].1 = kk := ⟨_, rfl⟩
  rw [hkv] at c0 c1 hdel hle
  obtain ⟨k1, k2⟩ := kk
  clear hcell hki hkk hkv x2 h1 h2
  have hr1 := h.len
  have hr2 := h.nn
  have hrl : r.length ≤ 256 := by omega
  clear hr1 hr2
  go_enter Try.func14, Try.ntmps14
  have x2 := h.box.cell 2
  go_wp2_with fail
  go_region_law ((refine step_delete_of (by rfl) _ _ _ _ (by rfl) _ _ _ (by rfl) (by rfl) _ hdel ?_; rintro w3 ⟨HM, HC, HFZ⟩))
  all_goals
    have C3 := HC
    have y2 : w3.cell? ⟨t, 2, none⟩ = some (.slice (some ⟨g, 0, none⟩) r.length cap) := C3.cell x2 (fun e => ap1 e.symm)
    have O3 := own_chg h.own C3 (fun j hj e => ap2 (by rw [hj, e]))
    go_wp2_with fail
    refine (del_len O3 (k_one _) i hi).mono ?_
    rintro e w4 ⟨rfl, O4, C4⟩
    have C34 : Chg w w4 (fun j => j = m ∨ j = g) := (C3.mono (fun j _ h => .inl h)).trans' C4 (fun j _ h => .inr h)
    have B4 := h.box.chg C34 (fun hh => hh.elim (fun e => ap1 e.symm) (fun e => ap3 (by rw [e]; rfl)))
    have z2 : w4.cell? ⟨t, 2, none⟩ = some (.slice (some ⟨g, 0, none⟩) r.length cap) := B4.cell 2
    have fz2 := B4.frozen 2
    have M4 := HM.chg C4 (fun e => ap2 (by rw [e]; rfl))
    go_wp2_with fail
    refine bodyPost_end (results_none rfl _ _ _) rfl ?_
    refine ⟨rfl, ?_⟩
    rw [HR.out]
    refine ⟨.slice (some ⟨g, 0, none⟩) (r.length - 1) cap, ⟨box_tlb _ _ _ g cap 0 _ _ B4 _, ?_, ?_, ?_, ?_, ?_, h.nn, h.bt, h.bm⟩, ?_, ?_⟩
    · exact (M4.congr (fun c => (hle c).symm)).chg ((Chg.refl w4 (fun j => j = t)).setCell (fun _ => rfl) _) ap1
    · have hl : (r.eraseIdx i).length = r.length - 1 := by rw [List.length_eraseIdx, if_pos hi]
      rw [hl, ks_erase, ← flat_erase]
      exact own_chg O4 ((Chg.refl w4 (fun j => j = t)).setCell (fun _ => rfl) _) (fun j hj e => ap3 (by rw [← e]; exact hj))
    · rw [ks_erase]; exact h.keys.sublist (List.eraseIdx_sublist _ _)
    · intro p hp; exact h.ok p (List.mem_of_mem_eraseIdx hp)
    · have := h.len
      rw [List.length_eraseIdx, if_pos hi]
      omega
    · refine (C34.mono (fun j _ hj => ?_)).setCell (fun _ => .inl rfl) _
      rcases hj with rfl | rfl
      · exact .inr (.inl rfl)
      · exact .inr (.inr rfl)
    · intro j hj
      exact .inl hj
end Go.Proofs.Ytgblnmahniphdaa

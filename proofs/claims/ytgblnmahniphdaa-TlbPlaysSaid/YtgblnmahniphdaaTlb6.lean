/- tlb: Flush; a Tlb behind a row of calls. -/
import Derived.Test.YtgblnmahniphdaaTlb5
namespace Go.Proofs.Ytgblnmahniphdaa
open Go.RowKit

def flR (r : List (KeyD × Int)) (tag : Int) : List (KeyD × Int) := r.filter (fun p => !(p.1.1 == tag))
theorem ks_fl (r : List (KeyD × Int)) (tag : Int) : ks (flR r tag) = keepL (ks r) tag := by
  unfold ks flR keepL
  rw [List.filter_map]
  rfl
theorem remL_eq (tag : Int) : ∀ (l : List KeyD) (f : KeyD → Option Int) (c : KeyD), remL f tag l c = if c ∈ l ∧ c.1 = tag then none else f c
  | [], f, c => by simp [remL]
  | k :: l, f, c => by
    show remL (remF f tag k) tag l c = _
    rw [remL_eq tag l]
    unfold remF
    by_cases h1 : c ∈ l ∧ c.1 = tag
    · rw [if_pos h1, if_pos ⟨List.mem_cons.2 (.inr h1.1), h1.2⟩]
    · rw [if_neg h1]
      by_cases h2 : k.1 = tag ∧ c = k
      · rw [if_pos h2, if_pos ⟨List.mem_cons.2 (.inl h2.2), by rw [h2.2]; exact h2.1⟩]
      · rw [if_neg h2, if_neg]
        rintro ⟨h3, h4⟩
        rcases List.mem_cons.1 h3 with h5 | h5
        · exact h2 ⟨by rw [← h5]; exact h4, h5⟩
        · exact h1 ⟨h5, h4⟩
theorem look_fl {r : List (KeyD × Int)} (hk : (ks r).Nodup) (tag : Int) (c : KeyD) : look (flR r tag) c = remL (look r) tag (ks r) c := by
  have hk2 : (ks (flR r tag)).Nodup := by rw [ks_fl]; exact hk.sublist List.filter_sublist
  rw [remL_eq]
  by_cases h : c ∈ ks r ∧ c.1 = tag
  · rw [if_pos h, look_none, ks_fl]
    intro hm
    unfold keepL at hm
    have := (List.mem_filter.1 hm).2
    simp [h.2] at this
  · rw [if_neg h]
    cases hl : look r c with
    | none =>
      rw [look_none] at hl ⊢
      rw [ks_fl]
      exact fun hm => hl (List.mem_filter.1 hm).1
    | some x =>
      rw [look_mem hk] at hl
      rw [look_mem hk2]
      refine List.mem_filter.2 ⟨hl, ?_⟩
      have : ¬ c.1 = tag := fun e => h ⟨List.mem_map.2 ⟨_, hl, rfl⟩, e⟩
      simpa using this

set_option maxHeartbeats 1000000 in
theorem delf_nil (w : World) (fv : Value) : Calls Try.prog 26 #[.slice none 0 0, fv] w fun e w' => e = .returned (.slice none 0 0) ∧ w = w' := by
  have HI : Calls Try.prog 37 #[.slice none 0 0, fv] w fun e w' => e = .returned (.int .i64 (-1)) ∧ w = w' := by
    go_enter Try.func37, Try.ntmps37
    go_wp2_with fail
    go_loop [8] (fun i => i = .int .i64 0) (fun _ => 0)
    case atStart => rfl
    case round =>
      subst hrel
      go_wp2_with fail
      go_ret
      exact ⟨rfl, rfl⟩
  go_enter Try.func26, Try.ntmps26
  go_wp2_with fail
  refine HI.mono ?_
  rintro e w1 ⟨rfl, rfl⟩
  go_wp2_with fail
  go_ret
  exact ⟨rfl, rfl⟩

/-- DeleteFunc on what a Tlb holds. -/
theorem delf_t {w : World} {base bt bp t m : Nat} {tag n : Int} {v : Value} {r : List (KeyD × Int)} (h : TAt w base t m v n r) (hpt : Box w bt 3 #[.int .i64 tag]) (hpp : Box w bp 23 #[.pointer (some ⟨t, 0, none⟩)]) :
    Calls Try.prog 26 #[v, .func (.func 27) #[] #[.pointer (some ⟨bt, 0, none⟩), .pointer (some ⟨bp, 0, none⟩)]] w fun e w' =>
      ∃ v', e = .returned v' ∧ w'.ownsRow base 60 2 v' (flR r tag).length ((ks (flR r tag)).flatMap kCells) ∧ MapFn w' m (look (flR r tag)) ∧ Chg w w' (fun j => j = m ∨ v.ownBlock = some j) ∧ v'.ownBlock = v.ownBlock := by
  have hkl : (flR r tag).length = (keepL (ks r) tag).length := by rw [← ks_fl, ks_len]
  obtain ⟨ao, cap, rfl, hf1, hf2, hf3, hf4⟩ := own_form h.own
  cases ao with
  | none =>
    obtain ⟨h1, h2⟩ := hf3 rfl
    have hr : r = [] := List.eq_nil_of_length_eq_zero h1
    subst hr
    subst h2
    refine (delf_nil w _).mono ?_
    rintro e w' ⟨rfl, rfl⟩
    exact ⟨_, rfl, h.own, h.map, Chg.refl _ _, rfl⟩
  | some ad =>
    obtain ⟨g, rfl, h5, h6⟩ := hf4 ad rfl
    have hO := h.own
    rw [← ks_len r] at hO ⊢
    have hok : ∀ k ∈ ks r, keyOk k := fun k hk => by
      obtain ⟨p, hp, rfl⟩ := List.mem_map.1 hk
      exact h.ok p hp
    have h1 : bt ≠ g := fun e => own_ne hO hpt (by decide) bt (by rw [e]; rfl) rfl
    have h2 : bp ≠ g := fun e => own_ne hO hpp (by decide) bp (by rw [e]; rfl) rfl
    have hbox := h.box
    rw [← ks_len r] at hbox
    refine (delf_any (⟨hpt, hpp, hbox, h.map⟩ : FCtx w bt bp t m tag n _ _) hO h1 h2 hok).mono ?_
    rintro e w' ⟨rfl, O, M, C⟩
    refine ⟨_, rfl, by rw [hkl, ks_fl]; exact O, M.congr (fun c => (look_fl h.keys tag c).symm), C.mono (fun j _ e => ?_), rfl⟩
    rcases e with rfl | rfl
    · exact .inl rfl
    · exact .inr rfl

theorem flush_end {w w1 w3 : World} {base t m : Nat} {v v3 : Value} {n : Int} {r : List (KeyD × Int)} {tag : Int} (h : TAt w base t m v n r) (CA : Chg w w1 (fun _ => False)) (B3 : Box w3 t 58 #[.int .i64 n, .map (some m), v])
    (O3 : w3.ownsRow base 60 2 v3 (flR r tag).length ((ks (flR r tag)).flatMap kCells)) (M3 : MapFn w3 m (look (flR r tag))) (C3 : Chg w1 w3 (fun j => j = m ∨ v.ownBlock = some j)) (hv : v3.ownBlock = v.ownBlock) (ap1 : m ≠ t) (ap3 : v.ownBlock ≠ some t) :
    TDid w base t m v n (flR r tag) (w3.setCell ⟨t, 2, none⟩ v3) := by
  have CS : Chg w3 (w3.setCell ⟨t, 2, none⟩ v3) (fun j => j = t) := (Chg.refl w3 (fun j => j = t)).setCell (p := ⟨t, 2, none⟩) (fun _ => rfl) _
  refine ⟨v3, ⟨box_tlb _ _ _ 0 0 0 _ _ B3 _, M3.chg CS ap1, own_chg O3 CS (fun j hj e => ap3 (by rw [← hv, hj, e])), ?_, ?_, ?_, h.nn, h.bt, h.bm⟩, ?_, fun j hj => .inl (by rw [← hv]; exact hj)⟩
  · rw [ks_fl]; exact h.keys.sublist List.filter_sublist
  · intro p hp; exact h.ok p (List.mem_filter.1 hp).1
  · have := List.length_filter_le (fun p : KeyD × Int => !(p.1.1 == tag)) r
    have h2 := h.len
    unfold flR
    omega
  · refine (CA.mono (fun _ _ h => h.elim)).trans ((C3.mono (fun j _ hj => ?_)).trans' CS (fun j _ e => .inl e))
    rcases hj with rfl | hj
    · exact .inr (.inl rfl)
    · exact .inr (.inr hj)

/-- A Tlb that the call itself has made. -/
def TS (w0 : World) (t m : Nat) (n : Int) (r : List (KeyD × Int)) (w : World) : Prop := ∃ v, TAt w w0.heap.size t m v n r ∧ Chg w0 w (fun _ => False)
theorem TS.step {w0 w w' : World} {t m : Nat} {n : Int} {r r' : List (KeyD × Int)} {v : Value} (h : TAt w w0.heap.size t m v n r) (C : Chg w0 w (fun _ => False)) (d : TDid w w0.heap.size t m v n r' w') : TS w0 t m n r' w' := by
  obtain ⟨v', T, C2, _⟩ := d
  refine ⟨v', T, C.trans' C2 (fun k hk hf => ?_)⟩
  rcases hf with rfl | rfl | hf
  · have := h.bt; omega
  · have := h.bm; omega
  · have := (h.own.lt k hf).1; omega
theorem TS.size {w0 w : World} {t m : Nat} {n : Int} {r : List (KeyD × Int)} (h : TS w0 t m n r w) : w0.heap.size ≤ w.heap.size := by
  obtain ⟨v, T, C⟩ := h
  exact C.size
theorem TS.new {w0 w : World} (C : Chg w0 w (fun _ => False)) (n : Int) :
    Calls Try.prog 11 #[.int .i64 n] w fun e w' => ∃ t m, e = .returned (.pointer (some ⟨t, 0, none⟩)) ∧ TS w0 t m (min (max 1 n) 256) [] w' := by
  refine (tnew_any n w).mono ?_
  rintro e w' ⟨rfl, T, C2⟩
  have hs := C.size
  refine ⟨_, _, rfl, _, ⟨T.box, T.map, ?_, T.keys, T.ok, T.len, T.nn, by omega, by omega⟩, C.trans C2⟩
  exact ⟨T.own.1, .inl ⟨rfl, rfl⟩⟩
theorem TS.put {w0 w : World} {t m : Nat} {n : Int} {r : List (KeyD × Int)} (h : TS w0 t m n r w) (k1 k2 x : Int) (h1 : i64ok k1) (h2 : i64ok k2) :
    Calls Try.prog 12 #[.pointer (some ⟨t, 0, none⟩), .int .i64 k1, .int .i64 k2, .int .i64 x] w fun e w' => e = .returned (.tuple #[]) ∧ TS w0 t m n (putR n r (k1, k2) x) w' := by
  obtain ⟨v, T, C⟩ := h
  exact (tput_any T C.size k1 k2 x ⟨h1, h2⟩).mono (fun e w' hh => ⟨hh.1, TS.step T C hh.2⟩)
theorem TS.evict {w0 w : World} {t m : Nat} {n : Int} {r : List (KeyD × Int)} (h : TS w0 t m n r w) (k : Int) :
    Calls Try.prog 14 #[.pointer (some ⟨t, 0, none⟩), .int .i64 k] w fun e w' => e = .returned (.tuple #[]) ∧ TS w0 t m n (evR r k) w' := by
  obtain ⟨v, T, C⟩ := h
  exact (tevict_any T C.size k).mono (fun e w' hh => ⟨hh.1, TS.step T C hh.2⟩)
theorem TS.look {w0 w : World} {t m : Nat} {n : Int} {r : List (KeyD × Int)} (h : TS w0 t m n r w) (k1 k2 : Int) (h1 : i64ok k1) (h2 : i64ok k2) :
    Calls Try.prog 13 #[.pointer (some ⟨t, 0, none⟩), .int .i64 k1, .int .i64 k2] w fun e w' => e = .returned (.tuple #[.int .i64 ((look r (k1, k2)).getD 0), .bool (look r (k1, k2)).isSome]) ∧ w = w' := by
  obtain ⟨v, T, C⟩ := h
  exact tlook_any T k1 k2 h1 h2
theorem TS.tlen {w0 w : World} {t m : Nat} {n : Int} {r : List (KeyD × Int)} (h : TS w0 t m n r w) :
    Calls Try.prog 15 #[.pointer (some ⟨t, 0, none⟩)] w fun e w' => e = .returned (.int .i64 r.length) ∧ w = w' := by
  obtain ⟨v, T, C⟩ := h
  exact tlen_any T
theorem TS.below {w0 w : World} {t m : Nat} {n : Int} {r : List (KeyD × Int)} (h : TS w0 t m n r w) : Below w0.heap.size w0 w := by
  obtain ⟨v, T, C⟩ := h
  exact C.below_of (Nat.le_refl _) (fun _ h => h.elim)

set_option maxHeartbeats 2000000 in
theorem tflush_any {w : World} {base t m : Nat} {v : Value} {n : Int} {r : List (KeyD × Int)} (h : TAt w base t m v n r) (tag : Int) :
    Calls Try.prog 16 #[.pointer (some ⟨t, 0, none⟩), .int .i64 tag] w fun e w' => e = .returned (.tuple #[]) ∧ TDid w base t m v n (flR r tag) w' := by
  obtain ⟨aov, capv, rfl, hv1, hv2, hv3', hv4⟩ := own_form h.own
  obtain ⟨ap1, ap2, ap3⟩ := h.apart
  have htw := h.box.lt
  have hmw := h.map.lt
  have hob : ∀ j, (Value.slice aov r.length capv).ownBlock = some j → j < w.heap.size := fun j hj => (h.own.lt j hj).2
  obtain ⟨w1, hw1⟩ : ∃ w1, (w.alloc (.cells #[.pointer (some ⟨t, 0, none⟩)] 23)).alloc (.cells #[.int .i64 tag] 3) = w1 := ⟨_, rfl⟩
  have CA : Chg w w1 (fun _ => False) := by rw [← hw1]; exact ((Chg.refl _ _).alloc _).alloc _
  have BP : Box w1 w.heap.size 23 #[.pointer (some ⟨t, 0, none⟩)] := by rw [← hw1]; exact (Box.new _ _ _).alloc _
  have BT : Box w1 (w.heap.size + 1) 3 #[.int .i64 tag] := by
    rw [← hw1]
    have := Box.new (w.alloc (.cells #[.pointer (some ⟨t, 0, none⟩)] 23)) 3 #[.int .i64 tag]
    rwa [show (w.alloc (.cells #[.pointer (some ⟨t, 0, none⟩)] 23)).heap.size = w.heap.size + 1 from by simp] at this
  have T1 := h.chg CA (fun _ _ h => h)
  have z0 := BP.cell 0
  have x2 := T1.box.cell 2
  have HC := delf_t (T1.chg ((Chg.refl w1 (fun _ => False)).drew) (fun _ _ h => h)) BT.drew BP.drew
  go_enter Try.func16, Try.ntmps16
  go_wp2_with fail
  go_region_with ((refine HC.mono ?_; rintro e w3 ⟨v3, rfl, O3, M3, C3, hv3⟩; have B3 := T1.box.chg C3.drewL (fun hh => hh.elim (fun e => ap1 e.symm) ap3); have P3 := BP.chg C3.drewL (fun hh => hh.elim (fun e => by omega) (fun e => by have := hob _ e; omega)); have q2 := B3.cell 2; have q0 := P3.cell 0; have qf := B3.frozen 2; obtain ⟨ao3, cap3, rfl, hf1, hf2, hf3, hf4⟩ := own_form O3))
  all_goals
    refine bodyPost_end (results_none rfl _ _ _) rfl ⟨rfl, ?_⟩
    exact flush_end h CA B3 O3 M3 C3.drewL hv3 ap1 ap3
theorem TS.flush {w0 w : World} {t m : Nat} {n : Int} {r : List (KeyD × Int)} (h : TS w0 t m n r w) (tag : Int) :
    Calls Try.prog 16 #[.pointer (some ⟨t, 0, none⟩), .int .i64 tag] w fun e w' => e = .returned (.tuple #[]) ∧ TS w0 t m n (flR r tag) w' := by
  obtain ⟨v, T, C⟩ := h
  exact (tflush_any T tag).mono (fun e w' hh => ⟨hh.1, TS.step T C hh.2⟩)
end Go.Proofs.Ytgblnmahniphdaa

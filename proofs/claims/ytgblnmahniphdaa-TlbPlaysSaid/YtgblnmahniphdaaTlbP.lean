/- TlbPlays: the state: two Tlbs and a row of acts. -/
import Derived.Test.YtgblnmahniphdaaAlive6
import Derived.Test.YtgblnmahniphdaaRead
import Derived.Deep.DeepCutAuto
import Derived.Deep.CutBlock
namespace Go.Proofs.Ytgblnmahniphdaa
open Go.RowKit Go.ChangeShapes Go.WideShapes Go.Deep

structure ActD where
  way : Int
  tag : Int
  vpn : Int
  entry : Int
instance : Inhabited ActD := ⟨⟨0, 0, 0, 0⟩⟩
def aCells (a : ActD) : List Value := [.int .i64 a.way, .int .i64 a.tag, .int .i64 a.vpn, .int .i64 a.entry]
def aOk (a : ActD) : Prop := i64ok a.way ∧ i64ok a.tag ∧ i64ok a.vpn ∧ i64ok a.entry
def toR (a : ActD) : KeyD × Int := ((a.tag, a.vpn), a.entry)

set_option maxRecDepth 100000 in
theorem open_acts {H : Type} {enc : TypeId × Value → H} {W : World} {base : Nat} {v : Value} {d : DataW H} {p : List MemPlace} (hv : Value.okWide Try.prog W .any base 32 v) (h : DataW.Trod enc Try.prog W 0 (fun _ => true) true 32 v d p) :
    ∃ (ao : Option Addr) (cap : Nat) (l : List ActD), v = .slice ao l.length cap ∧ Lst W ao l.length cap (l.flatMap aCells) 4 ∧ ∀ a ∈ l, aOk a := by
  obtain ⟨fuel, hf⟩ := Trod_slice Try.underlying32 hv h
  obtain ⟨ao, cap, l, h1, h2, _, h4⟩ := read_slice aCells aOk 4 (fun _ => rfl) (by decide) Try.underlying32 (by kernel_rfl) (fun fuel cs x hc ht => by
    obtain ⟨_, hs⟩ := read_struct Try.underlying34 (by kernel_rfl) (by kernel_rfl) ht
    obtain ⟨v0, y0, n0, e0, t0⟩ := hs 0 _ rfl
    obtain ⟨v1, y1, n1, e1, t1⟩ := hs 1 _ rfl
    obtain ⟨v2, y2, n2, e2, t2⟩ := hs 2 _ rfl
    obtain ⟨v3, y3, n3, e3, t3⟩ := hs 3 _ rfl
    obtain ⟨z0, rfl, w0⟩ := read_int Try.underlying3 t0
    obtain ⟨z1, rfl, w1⟩ := read_int Try.underlying3 t1
    obtain ⟨z2, rfl, w2⟩ := read_int Try.underlying3 t2
    obtain ⟨z3, rfl, w3⟩ := read_int Try.underlying3 t3
    refine ⟨⟨z0, z1, z2, z3⟩, ?_, i64_of_wf w0, i64_of_wf w1, i64_of_wf w2, i64_of_wf w3⟩
    match cs, hc with
    | [c0, c1, c2, c3], _ =>
      have e0' : c0 = .int .i64 z0 := by simpa using e0
      have e1' : c1 = .int .i64 z1 := by simpa using e1
      have e2' : c2 = .int .i64 z2 := by simpa using e2
      have e3' : c3 = .int .i64 z3 := by simpa using e3
      rw [e0', e1', e2', e3']
      rfl) hf
  exact ⟨ao, cap, l, h1, h2, h4⟩

/-- Two Tlbs that have nothing in common, and a row. -/
structure PSt (w0 : World) (n : Int) (t m u z : Nat) (r : List (KeyD × Int)) (ra : List ActD) (vr : Value) (w : World) (v vo : Value) (ro : List (KeyD × Int)) : Prop where
  a : TAt w w0.heap.size t m v n r
  b : TAt w w0.heap.size u z vo n ro
  dis : ∀ k, foot t m v k → ¬ foot u z vo k
  row : w.ownsRow w0.heap.size 34 4 vr ra.length (ra.flatMap aCells)
  chg : Chg w0 w (fun _ => False)
def PS (w0 : World) (n : Int) (t m u z : Nat) (r : List (KeyD × Int)) (ra : List ActD) (vr : Value) (w : World) : Prop := ∃ v vo ro, PSt w0 n t m u z r ra vr w v vo ro

theorem foot_lt {w : World} {base t m : Nat} {v : Value} {n : Int} {r : List (KeyD × Int)} (h : TAt w base t m v n r) {k : Nat} (hk : foot t m v k) : k < w.heap.size ∧ base ≤ k := by
  rcases hk with rfl | rfl | hk
  · exact ⟨h.box.lt, h.bt⟩
  · exact ⟨h.map.lt, h.bm⟩
  · exact ⟨(h.own.lt k hk).2, (h.own.lt k hk).1⟩
theorem foot_row {w : World} {base t m : Nat} {v : Value} {n : Int} {r : List (KeyD × Int)} (h : TAt w base t m v n r) {b2 size cnt : Nat} {vr : Value} {xs : List Value} (ho : w.ownsRow b2 34 size vr cnt xs) : ∀ k, foot t m v k → vr.ownBlock ≠ some k := by
  intro k hk e
  rcases hk with rfl | rfl | hk
  · exact own_ne ho h.box (by decide) _ e rfl
  · exact map_ne_own h.map ho e
  · exact own_own_ne ho h.own (by decide) k e hk
/-- The boxes of acts stay. -/
def KeepB (w w' : World) : Prop := ∀ ab cs, Box w ab 34 cs → Box w' ab 34 cs
theorem KeepB.of {w w' : World} {base t m : Nat} {v : Value} {n : Int} {r : List (KeyD × Int)} (h : TAt w base t m v n r) (C : Chg w w' (foot t m v)) : KeepB w w' := by
  intro ab cs hb
  refine hb.chg C ?_
  rintro (rfl | rfl | hk)
  · have := h.box
    unfold Box at this hb
    rw [this] at hb
    injection hb with hb
    injection hb with _ hb
    exact absurd hb (by decide)
  · exact map_ne_box h.map hb rfl
  · exact own_ne h.own hb (by decide) ab hk rfl
namespace PS
variable {w0 w : World} {n : Int} {t m u z : Nat} {r : List (KeyD × Int)} {ra : List ActD} {vr : Value}
/-- A call on the first one. -/
theorem opT {f : FuncId} {args : Array Value} {ret : Ending} {r' : List (KeyD × Int)} (h : PS w0 n t m u z r ra vr w)
    (hc : ∀ v, TAt w w0.heap.size t m v n r → Calls Try.prog f args w fun e w' => e = ret ∧ TDid w w0.heap.size t m v n r' w') : Calls Try.prog f args w fun e w' => e = ret ∧ PS w0 n t m u z r' ra vr w' ∧ KeepB w w' := by
  obtain ⟨v, vo, ro, h⟩ := h
  refine (hc v h.a).mono ?_
  rintro e w' ⟨rfl, v', T, C, hf⟩
  refine ⟨rfl, ?_, KeepB.of h.a C⟩
  refine ⟨v', vo, ro, T, h.b.chg C (fun k hk hf => h.dis k hf hk), fun k hk ho => ?_, own_chg h.row C (fun k hk hf => foot_row h.a h.row k hf hk), h.chg.trans' C (fun k hk hf => ?_)⟩
  · rcases hk with rfl | rfl | hk
    · exact h.dis _ (.inl rfl) ho
    · exact h.dis _ (.inr (.inl rfl)) ho
    · rcases hf k hk with h1 | h1
      · exact h.dis k (.inr (.inr h1)) ho
      · have := (foot_lt h.b ho).1
        omega
  · have := (foot_lt h.a hf).2
    omega
/-- A call on the other one. -/
theorem opO {f : FuncId} {args : Array Value} {ret : Ending} (h : PS w0 n t m u z r ra vr w)
    (hc : ∀ v ro, TAt w w0.heap.size u z v n ro → Calls Try.prog f args w fun e w' => e = ret ∧ ∃ r', TDid w w0.heap.size u z v n r' w') : Calls Try.prog f args w fun e w' => e = ret ∧ PS w0 n t m u z r ra vr w' ∧ KeepB w w' := by
  obtain ⟨v, vo, ro, h⟩ := h
  refine (hc vo ro h.b).mono ?_
  rintro e w' ⟨rfl, ro', vo', T, C, hf⟩
  refine ⟨rfl, ?_, KeepB.of h.b C⟩
  refine ⟨v, vo', ro', h.a.chg C (fun k hk hf => h.dis k hk hf), T, fun k hk ho => ?_, own_chg h.row C (fun k hk hf => foot_row h.b h.row k hf hk), h.chg.trans' C (fun k hk hf => ?_)⟩
  · rcases ho with rfl | rfl | ho
    · exact h.dis _ hk (.inl rfl)
    · exact h.dis _ hk (.inr (.inl rfl))
    · rcases hf k ho with h1 | h1
      · exact h.dis k hk (.inr (.inr h1))
      · have := (foot_lt h.a hk).1
        omega
  · have := (foot_lt h.b hf).2
    omega
/-- The row alone turns. -/
theorem rowTo {w' : World} {ra' : List ActD} {vr' : Value} (h : PS w0 n t m u z r ra vr w) (C : Chg w w' (fun k => vr.ownBlock = some k)) (O : w'.ownsRow w0.heap.size 34 4 vr' ra'.length (ra'.flatMap aCells)) : PS w0 n t m u z r ra' vr' w' := by
  obtain ⟨v, vo, ro, h⟩ := h
  exact ⟨v, vo, ro, h.a.chg C (fun k hk e => foot_row h.a h.row k hk e), h.b.chg C (fun k hk e => foot_row h.b h.row k hk e), h.dis, O, h.chg.trans' C (fun k hk e => by have := (h.row.lt k e).1; omega)⟩
theorem own (h : PS w0 n t m u z r ra vr w) : w.ownsRow w0.heap.size 34 4 vr ra.length (ra.flatMap aCells) := by
  obtain ⟨v, vo, ro, h⟩ := h; exact h.row
theorem chg0 (h : PS w0 n t m u z r ra vr w) : Chg w0 w (fun _ => False) := by
  obtain ⟨v, vo, ro, h⟩ := h; exact h.chg
theorem keep {w' : World} (h : PS w0 n t m u z r ra vr w) (C : Chg w w' (fun _ => False)) : PS w0 n t m u z r ra vr w' :=
  h.rowTo (C.mono (fun _ _ h => h.elim)) (own_chg h.own C (fun _ _ h => h))
theorem keys (h : PS w0 n t m u z r ra vr w) : (ks r).Nodup ∧ (r.length : Int) ≤ n ∧ 1 ≤ n ∧ n ≤ 256 := by
  obtain ⟨v, vo, ro, h⟩ := h; exact ⟨h.a.keys, h.a.len, h.a.nn⟩
theorem kok (h : PS w0 n t m u z r ra vr w) : ∀ p ∈ r, keyOk p.1 := by
  obtain ⟨v, vo, ro, h⟩ := h; exact h.a.ok
theorem putT (h : PS w0 n t m u z r ra vr w) (k1 k2 x : Int) (h1 : i64ok k1) (h2 : i64ok k2) :
    Calls Try.prog 12 #[.pointer (some ⟨t, 0, none⟩), .int .i64 k1, .int .i64 k2, .int .i64 x] w fun e w' => e = .returned (.tuple #[]) ∧ PS w0 n t m u z (putR n r (k1, k2) x) ra vr w' ∧ KeepB w w' :=
  h.opT (fun v T => tput_any T h.chg0.size k1 k2 x ⟨h1, h2⟩)
theorem putO (h : PS w0 n t m u z r ra vr w) (k1 k2 x : Int) (h1 : i64ok k1) (h2 : i64ok k2) :
    Calls Try.prog 12 #[.pointer (some ⟨u, 0, none⟩), .int .i64 k1, .int .i64 k2, .int .i64 x] w fun e w' => e = .returned (.tuple #[]) ∧ PS w0 n t m u z r ra vr w' ∧ KeepB w w' :=
  h.opO (fun v ro T => (tput_any T h.chg0.size k1 k2 x ⟨h1, h2⟩).mono (fun e w' hh => ⟨hh.1, _, hh.2⟩))
theorem evict (h : PS w0 n t m u z r ra vr w) (k : Int) :
    Calls Try.prog 14 #[.pointer (some ⟨t, 0, none⟩), .int .i64 k] w fun e w' => e = .returned (.tuple #[]) ∧ PS w0 n t m u z (evR r k) ra vr w' ∧ KeepB w w' :=
  h.opT (fun v T => tevict_any T h.chg0.size k)
theorem flush (h : PS w0 n t m u z r ra vr w) (tag : Int) :
    Calls Try.prog 16 #[.pointer (some ⟨t, 0, none⟩), .int .i64 tag] w fun e w' => e = .returned (.tuple #[]) ∧ PS w0 n t m u z (flR r tag) ra vr w' ∧ KeepB w w' :=
  h.opT (fun v T => tflush_any T tag)
theorem lookT (h : PS w0 n t m u z r ra vr w) (k1 k2 : Int) (h1 : i64ok k1) (h2 : i64ok k2) :
    Calls Try.prog 13 #[.pointer (some ⟨t, 0, none⟩), .int .i64 k1, .int .i64 k2] w fun e w' => e = .returned (.tuple #[.int .i64 ((look r (k1, k2)).getD 0), .bool (look r (k1, k2)).isSome]) ∧ w = w' := by
  obtain ⟨v, vo, ro, h⟩ := h; exact tlook_any h.a k1 k2 h1 h2
theorem tlen (h : PS w0 n t m u z r ra vr w) :
    Calls Try.prog 15 #[.pointer (some ⟨t, 0, none⟩)] w fun e w' => e = .returned (.int .i64 r.length) ∧ w = w' := by
  obtain ⟨v, vo, ro, h⟩ := h; exact tlen_any h.a
/-- Two are made. -/
theorem make (C : Chg w0 w (fun _ => False)) (n0 : Int) : Calls Try.prog 11 #[.int .i64 n0] w fun e w1 => ∃ t m, e = .returned (.pointer (some ⟨t, 0, none⟩)) ∧
    Calls Try.prog 11 #[.int .i64 n0] w1 fun e w2 => ∃ u z, e = .returned (.pointer (some ⟨u, 0, none⟩)) ∧ PS w0 (min (max 1 n0) 256) t m u z [] [] (.slice none 0 0) w2 := by
  refine (tnew_any n0 w).mono ?_
  rintro e w1 ⟨rfl, T, C1⟩
  have T1 : TAt w1 w0.heap.size (w.heap.size + 1) w.heap.size (.slice none 0 0) (min (max 1 n0) 256) [] := ⟨T.box, T.map, ⟨T.own.1, .inl ⟨rfl, rfl⟩⟩, T.keys, T.ok, T.len, T.nn, by have := C.size; omega, by have := C.size; omega⟩
  refine ⟨w.heap.size + 1, w.heap.size, rfl, (tnew_any n0 w1).mono ?_⟩
  rintro e w2 ⟨rfl, T2, C2⟩
  have h1 := C.size
  have h2 := C1.size
  have h3 := T1.box.lt
  refine ⟨w1.heap.size + 1, w1.heap.size, rfl, _, _, [], T1.chg C2 (fun _ _ h => h), ⟨T2.box, T2.map, ⟨T2.own.1, .inl ⟨rfl, rfl⟩⟩, T2.keys, T2.ok, T2.len, T2.nn, by omega, by omega⟩, ?_, ⟨rfl, .inl ⟨rfl, rfl⟩⟩, (C.trans C1).trans C2⟩
  intro k hk ho
  rcases hk with rfl | rfl | hk
  · rcases ho with h | h | h
    · omega
    · omega
    · cases h
  · rcases ho with h | h | h
    · omega
    · omega
    · cases h
  · cases hk
end PS

/-- The acts' row. -/
theorem toR_look {ra : List ActD} {k : Nat} {a : ActD} (hk : k ≤ ra.length) (h1 : ∀ (j : Nat) (hj : j < ra.length), j < k → (toR ra[j]).1 ≠ (toR a).1) :
    (∀ hlt : k < ra.length, (toR ra[k]).1 = (toR a).1 → look (ra.map toR) (toR a).1 = some ra[k].entry) ∧ (k = ra.length → look (ra.map toR) (toR a).1 = none) := by
  constructor
  · intro hlt he
    have : ∀ (l : List ActD) (k : Nat) (hlt : k < l.length), (∀ (j : Nat) (hj : j < l.length), j < k → (toR l[j]).1 ≠ (toR a).1) → (toR l[k]).1 = (toR a).1 → look (l.map toR) (toR a).1 = some l[k].entry := by
      intro l
      induction l with
      | nil => intro k hlt; simp at hlt
      | cons x l ih =>
        intro k hlt hno hk
        unfold look
        rw [List.map_cons, List.find?_cons]
        cases k with
        | zero =>
          have hk' : (toR x).1 = (toR a).1 := hk
          simp only [hk', decide_true]
          rfl
        | succ k =>
          have hx : (toR x).1 ≠ (toR a).1 := hno 0 (by simp) (by omega)
          simp only [hx, decide_false]
          exact ih k (by simpa using hlt) (fun j hj hjk => hno (j + 1) (by simpa using hj) (by omega)) hk
    exact this ra k hlt h1 he
  · intro he
    rw [look_none]
    intro hm
    unfold ks at hm
    rw [List.map_map, List.mem_map] at hm
    obtain ⟨x, hx, hxe⟩ := hm
    obtain ⟨j, hj, rfl⟩ := List.getElem_of_mem hx
    exact h1 j hj (by omega) hxe
/-- Its entry is set. -/
theorem toR_set {ra : List ActD} {k : Nat} {a : ActD} (hlt : k < ra.length) (hnd : (ks (ra.map toR)).Nodup) (he : (toR ra[k]).1 = (toR a).1) : (ra.set k { ra[k] with entry := a.entry }).map toR = setR (ra.map toR) (toR a).1 a.entry := by
  apply List.ext_getElem?
  intro j
  unfold setR
  rw [List.getElem?_map, List.getElem?_map, List.getElem?_map, List.getElem?_set]
  by_cases hj : j < ra.length
  · rw [List.getElem?_eq_getElem hj]
    by_cases e : k = j
    · subst e
      rw [if_pos rfl, if_pos hj]
      simp only [Option.map_some]
      rw [if_pos he]
      rfl
    · rw [if_neg e]
      simp only [Option.map_some]
      rw [if_neg]
      intro h
      have hp := List.pairwise_iff_getElem.1 hnd
      have l1 : (ks (ra.map toR)).length = ra.length := by simp [ks]
      have e1 : ∀ (i : Nat) (hi : i < ra.length), (ks (ra.map toR))[i]'(by rw [l1]; exact hi) = (toR ra[i]).1 := fun i hi => by simp [ks]
      by_cases hlt2 : k < j
      · exact hp k j (by rw [l1]; exact hlt) (by rw [l1]; exact hj) hlt2 (by rw [e1 k hlt, e1 j hj, h, he])
      · exact hp j k (by rw [l1]; exact hj) (by rw [l1]; exact hlt) (by omega) (by rw [e1 k hlt, e1 j hj, h, he])
  · rw [List.getElem?_eq_none (by omega)]
    by_cases e : k = j
    · omega
    · rw [if_neg e]
      rfl
theorem toR_erase (ra : List ActD) (i : Nat) : (ra.eraseIdx i).map toR = (ra.map toR).eraseIdx i := by
  rw [List.eraseIdx_eq_take_drop_succ, List.eraseIdx_eq_take_drop_succ, List.map_append, List.map_take, List.map_drop]
theorem toR_filter (ra : List ActD) (tag : Int) : (ra.filter (fun a => !(a.tag == tag))).map toR = flR (ra.map toR) tag := by
  unfold flR
  rw [List.filter_map]
  rfl

theorem info_act : (Try.prog.info? 34).map (fun i => (i.zero, i.size, i.bytes)) = some (some (.agg #[.int .i64 0, .int .i64 0, .int .i64 0, .int .i64 0]), 4, 32) := by kernel_rfl
theorem a_one (l : List ActD) : ∀ u ∈ l.flatMap aCells, u.oneCell' = true := by
  intro u hu
  obtain ⟨p, _, h⟩ := List.mem_flatMap.1 hu
  simp only [aCells, List.mem_cons, List.not_mem_nil, or_false] at h
  rcases h with rfl | rfl | rfl | rfl <;> rfl
/-- One cell of a row is set. -/
theorem own_setS {w : World} {base g cap n size : Nat} {e : TypeId} {xs : List Value} (h : w.ownsRow base e size (.slice (some ⟨g, 0, none⟩) n cap) n xs) (j : Nat) (u : Value) :
    (w.setCell ⟨g, j, none⟩ u).ownsRow base e size (.slice (some ⟨g, 0, none⟩) n cap) n (xs.set j u) := by
  rcases h.2 with ⟨h0, _⟩ | ⟨b, cap', cur, hv, hb, hh, hc, hmx, hs, ht⟩
  · cases h0
  · injection hv with e1 e2 e3
    injection e1 with e1
    have : g = b := congrArg Addr.block e1
    subst this e3
    refine ⟨by rw [List.length_set]; exact h.1, .inr ⟨g, cap, cur.setIfInBounds j u, rfl, hb, ?_, hc, hmx, by simpa using hs, ?_⟩⟩
    · have := setCell_eq_setRow w g j cur e (0, 0) u hh
      rw [this]
      exact setRow_heap w g cur _ e _ hh
    · rw [Array.toList_setIfInBounds, ← ht, List.take_set]
theorem flat_set (l : List ActD) (k : Nat) (hk : k < l.length) (x : Int) : (l.set k { l[k] with entry := x }).flatMap aCells = (l.flatMap aCells).set (k * 4 + 3) (.int .i64 x) := by
  induction l generalizing k with
  | nil => simp at hk
  | cons a l ih =>
    cases k with
    | zero => rfl
    | succ k =>
      rw [List.set_cons_succ, List.flatMap_cons, List.flatMap_cons]
      have := ih k (by simpa using hk)
      rw [show (a :: l)[k + 1] = l[k]'(by simpa using hk) from rfl, this]
      show _ = ([Value.int .i64 a.way, .int .i64 a.tag, .int .i64 a.vpn, .int .i64 a.entry] ++ l.flatMap aCells).set ((k + 1) * 4 + 3) (.int .i64 x)
      rw [show (k + 1) * 4 + 3 = k * 4 + 3 + 1 + 1 + 1 + 1 by omega]
      rfl
theorem aflat_drop (l : List ActD) (i : Nat) : (l.flatMap aCells).drop (i * 4) = (l.drop i).flatMap aCells := by
  induction l generalizing i with
  | nil => simp
  | cons x l ih =>
    cases i with
    | zero => simp
    | succ i =>
      rw [List.flatMap_cons, List.drop_succ_cons, ← ih i]
      show (([.int .i64 x.way, .int .i64 x.tag, .int .i64 x.vpn, .int .i64 x.entry] : List Value) ++ l.flatMap aCells).drop ((i + 1) * 4) = _
      rw [show (i + 1) * 4 = i * 4 + 1 + 1 + 1 + 1 by omega]
      rfl
theorem aflat_take (l : List ActD) (i : Nat) : (l.flatMap aCells).take (i * 4) = (l.take i).flatMap aCells := by
  induction l generalizing i with
  | nil => simp
  | cons x l ih =>
    cases i with
    | zero => simp
    | succ i =>
      rw [List.flatMap_cons, List.take_succ_cons, List.flatMap_cons, ← ih i]
      show (([.int .i64 x.way, .int .i64 x.tag, .int .i64 x.vpn, .int .i64 x.entry] : List Value) ++ l.flatMap aCells).take ((i + 1) * 4) = _
      rw [show (i + 1) * 4 = i * 4 + 1 + 1 + 1 + 1 by omega]
      rfl
/-- The rest of a row. -/
theorem own_drop {w : World} {base g cap n size : Nat} {e : TypeId} {xs : List Value} (h : w.ownsRow base e size (.slice (some ⟨g, 0, none⟩) n cap) n xs) (i : Nat) (hi : i ≤ n) (ad : Addr) (had : i = n ∨ ad = ⟨g, i * size, none⟩) : Src w (some ad) (n - i) (cap - i) (xs.drop (i * size)) size := by
  refine ⟨by rw [List.length_drop, h.1, Nat.sub_mul], fun h => (by cases h), fun a he j u hu => ?_⟩
  injection he with he
  subst he
  rw [List.getElem?_drop] at hu
  rcases had with rfl | rfl
  · have := (List.getElem?_eq_some_iff.1 hu).1
    have hl := h.1
    omega
  · rw [Addr.add_lit]
    exact own_cells h _ _ hu
theorem drop_one {w : World} {base g cap n : Nat} {l : List ActD} (h : w.ownsRow base 34 4 (.slice (some ⟨g, 0, none⟩) (n + 1) cap) l.length (l.flatMap aCells)) (hl : l.length = n + 1) : Src w (some ⟨g, 4, none⟩) n (cap - 1) ((l.drop 1).flatMap aCells) 4 := by
  rw [hl] at h
  have := own_drop h 1 (by omega) ⟨g, 1 * 4, none⟩ (.inr rfl)
  rw [← aflat_drop]
  simpa using this
theorem src_take {w : World} {base g cap : Nat} {l : List ActD} (h : w.ownsRow base 34 4 (.slice (some ⟨g, 0, none⟩) l.length cap) l.length (l.flatMap aCells)) (x : Nat) (hx : x ≤ l.length) : Src w (some ⟨g, 0, none⟩) x cap ((l.take x).flatMap aCells) 4 := by
  rw [← aflat_take]
  exact own_src (own_take h x hx)
end Go.Proofs.Ytgblnmahniphdaa

/- PortsPlay: its moves; the code's and the reference's Nets and memories, side by side; contracts on the configuration. -/
import Derived.Test.YtiedfglkjkaefaaPoR5
import Derived.Test.YtiedfglkjkaefaaPoR2
import Derived.Laws.IdiomArrays
import Derived.Test.YtiedfglkjkaefaaBig
import Derived.Test.YtiedfglkjkaefaaRChk
import Derived.Test.YtiedfglkjkaefaaCfgArg
import Derived.Deep.LoopGhost
namespace Go.Proofs.Ytiedfglkjkaefaa
open Go.RowKit

theorem pgN_one : pgN 1 = 4096 := rfl
/-- New at a number of pages whose bytes are known. -/
theorem new_at (pages : Int) (n : Nat) (h : pgN pages = n) (w : World) : Calls Try.prog 17 #[.int .i64 pages] w fun e w' => ∃ a b, MemNew 92 w n e w' a b := by
  subst h; exact new_any pages w
/-- A law's argument of bytes. -/
structure Arg (W : World) (ao : Option Addr) (m c : Nat) (xs : List Int) : Prop where
  len : xs.length = m
  src : Src W ao m c (u8s xs) 1
  old : ∀ ad, ao = some ad → 0 < m → ad.block < W.heap.size
  byt : byteL xs
section
open Go.ChangeShapes Go.WideShapes Go.ChangeAt Go.Deep

/-- One move. -/
structure PAct where
  way : Int
  part : Int
  port : Int
  mx : Int
  op : Int
  a0 : Int
  a1 : Int
  a2 : Int
  bo : Option Addr
  m : Nat
  c : Nat
  xs : List Int
instance : Inhabited PAct := ⟨⟨0, 0, 0, 0, 0, 0, 0, 0, none, 0, 0, []⟩⟩
def paCells (a : PAct) : List Value := [.int .i64 a.way, .int .i64 a.part, .int .i64 a.port, .int .i64 a.mx, .int .i64 a.op, .int .i64 a.a0, .int .i64 a.a1, .int .i64 a.a2, .slice a.bo a.m a.c]
structure PaOk (W : World) (a : PAct) : Prop where
  arg : Arg W a.bo a.m a.c a.xs
  mx : a.m ≤ maxLen
  p1 : -9223372036854775808 ≤ a.port
  p2 : a.port ≤ 9223372036854775807

section
variable {H : Type} {enc : TypeId × Value → H} {P : Program} {w : World} {base : Nat} {sp : Nat → Bool} {hd : Bool}
/-- A struct's fields, whatever their cells. -/
theorem read_parts {t : TypeId} {fs : Array Field} (ht : P.underlying t = some (.struct fs)) {fuel : Nat} {cs : List Value} {x : DataW H × List MemPlace}
    (h : DataW.trod enc P w base sp hd fuel t cs = some x) : ∀ (j : Nat) (f : Field), fs[j]? = some f → ∃ (y : DataW H × List MemPlace) (n : Nat), DataW.trod enc P w base sp hd n f.type ((cs.drop f.offset).take (P.cellsOf f.type)) = some y := by
  obtain ⟨ys, n, _, _, _, hyl, hf⟩ := DataW.trod_struct ht h
  intro j f hj
  have hjl : j < fs.size := (Array.getElem?_eq_some_iff.1 hj).1
  have h1 := hf j f hj
  rw [List.getElem?_eq_getElem (show j < ys.length by omega)] at h1
  exact ⟨_, n, h1⟩
end
theorem int_of_wf {z : Int} (h : (Lit.int .i64 z).wf = true) : -9223372036854775808 ≤ z ∧ z ≤ 9223372036854775807 := by
  simp [Lit.wf, IntKind.min, IntKind.max, IntKind.signed, IntKind.bits] at h
  omega
set_option maxRecDepth 100000 in
theorem open_pacts {H : Type} {enc : TypeId × Value → H} {W : World} {base : Nat} {v : Value} {d : DataW H} {p : List MemPlace} (hv : Value.okWide Try.prog W .any base 54 v) (h : DataW.Trod enc Try.prog W 0 (fun _ => true) true 54 v d p) :
    ∃ (ao : Option Addr) (cap : Nat) (l : List PAct), v = .slice ao l.length cap ∧ Lst W ao l.length cap (l.flatMap paCells) 9 ∧ (∀ x ∈ l, PaOk W x) ∧ (∀ ad, ao = some ad → 0 < l.length → ad.block < W.heap.size) := by
  obtain ⟨fuel, hf⟩ := Trod_slice Try.underlying54 hv h
  obtain ⟨ao, cap, l, h1, h2, h3, h4⟩ := read_slice paCells (PaOk W) 9 (fun _ => rfl) (by decide) Try.underlying54 (by kernel_rfl) (fun fuel cs x hc ht => by
    have hs := read_parts Try.underlying62 ht
    match cs, hc with
    | [c0, c1, c2, c3, c4, c5, c6, c7, c8], _ =>
      obtain ⟨y0, n0, t0⟩ := hs 0 _ rfl
      obtain ⟨y1, n1, t1⟩ := hs 1 _ rfl
      obtain ⟨y2, n2, t2⟩ := hs 2 _ rfl
      obtain ⟨y3, n3, t3⟩ := hs 3 _ rfl
      obtain ⟨y4, n4, t4⟩ := hs 4 _ rfl
      obtain ⟨y5, n5, t5⟩ := hs 5 _ rfl
      obtain ⟨y6, n6, t6⟩ := hs 6 _ rfl
      obtain ⟨z0, rfl, w0⟩ := read_int Try.underlying3 t0
      obtain ⟨z1, rfl, w1⟩ := read_int Try.underlying3 t1
      obtain ⟨z2, rfl, w2⟩ := read_int Try.underlying3 t2
      obtain ⟨z3, rfl, w3⟩ := read_int Try.underlying3 t3
      obtain ⟨z4, rfl, w4⟩ := read_int Try.underlying3 t4
      obtain ⟨u0, u1, u2, k5, -, q0, q1, q2⟩ := trod_array3 Try.underlying50 (by kernel_rfl) t5
      obtain ⟨z5, rfl, w5⟩ := read_int Try.underlying3 q0
      obtain ⟨z6, rfl, w6⟩ := read_int Try.underlying3 q1
      obtain ⟨z7, rfl, w7⟩ := read_int Try.underlying3 q2
      obtain ⟨bo, bc, xs, rfl, hL, hbl, hxs⟩ := read_slice (fun x : Int => [Value.int .u8 x]) (fun x => 0 ≤ x ∧ x < 256) 1 (fun _ => rfl) (by decide) Try.underlying22 (by kernel_rfl) (fun _ _ _ hc ht => read_u8 hc ht) t6
      exact ⟨⟨z0, z1, z2, z3, z4, z5, z6, z7, bo, xs.length, bc, xs⟩, rfl, ⟨⟨rfl, by rw [← flat_u8]; exact hL.src, hbl, hxs⟩, Nat.le_trans hL.le hL.mx, (int_of_wf w2).1, (int_of_wf w2).2⟩⟩) hf
  exact ⟨ao, cap, l, h1, h2, h4, h3⟩
end
section

/-- Both sides in one world; the blocks of X are the law's own and older ones. -/
structure Play (W w : World) (X : Nat → Prop) (n rn : Nat) (l : List ChanD) (a b va vb : Nat) (Q Q' : Que) (f f' : Nat → Int) : Prop where
  ex : ∃ (F : Nat → Prop) (D : RD) (vs : Nat → Value), D.n = rn ∧ D.l = l ∧ D.base = W.heap.size ∧ NM w (fun k => X k ∨ F k ∨ k = a ∨ k = b ∨ k = va ∨ k = vb) n l Q a b 4096 f ∧ RMem w F D Q' vs va vb 4096 f' ∧ ¬ F a ∧ ¬ F b ∧ ∀ k, X k → k < w.heap.size ∧ ¬ F k
  x : ∀ k, X k → k ≠ a ∧ k ≠ b ∧ k ≠ va ∧ k ≠ vb
  old : ∀ k, k < W.heap.size → X k
  ne : a ≠ va ∧ a ≠ vb ∧ b ≠ va ∧ b ≠ vb
  chg : Chg W w (fun k => ¬ k < W.heap.size)

section
variable {W w w' : World} {X X' R : Nat → Prop} {n rn : Nat} {l : List ChanD} {a b va vb : Nat} {Q Q' Q1 : Que} {f f' f1 : Nat → Int}
theorem Play.ok (h : Play W w X n rn l a b va vb Q Q' f f') : l.length ≤ 16 := by
  obtain ⟨F, D, vs, h1, h2, h3, N, M, ha, hb, hX⟩ := h.ex
  exact N.net.ok.1
theorem Play.size (h : Play W w X n rn l a b va vb Q Q' f f') : W.heap.size ≤ w.heap.size := h.chg.size
/-- The world goes on: what the law makes is its own, what it turns is its own. -/
theorem Play.adopt (h : Play W w X n rn l a b va vb Q Q' f f') (c : Chg w w' R) (hR : ∀ k, R k → X k ∧ W.heap.size ≤ k) (h1 : ∀ k, X' k → X k ∨ (w.heap.size ≤ k ∧ k < w'.heap.size)) (h2 : ∀ k, k < W.heap.size → X' k) : Play W w' X' n rn l a b va vb Q Q' f f' := by
  have hs := h.size
  obtain ⟨F, D, vs, e1, e2, e3, N, M, ha, hb, hX⟩ := h.ex
  have hab := h.x
  have hlt : ∀ k, (k = a ∨ k = b ∨ k = va ∨ k = vb) → k < w.heap.size := by
    rintro k (rfl | rfl | rfl | rfl)
    · exact N.mem.ptr.lt
    · exact N.mem.row.lt
    · exact M.mem.ptr.lt
    · exact M.mem.row.lt
  refine ⟨⟨F, D, vs, e1, e2, e3, ⟨N.net.adopt c (fun k hk => .inl (hR k hk).1) (fun k hk => ?_), N.mem.chg c (fun hk => (hab _ (hR _ hk).1).1 rfl) (fun hk => (hab _ (hR _ hk).1).2.1 rfl), .inr (.inr (.inl rfl)), .inr (.inr (.inr (.inl rfl)))⟩,
    ⟨M.net.chg c (fun k hk hr => (hX k (hR k hr).1).2 hk) (fun k hk => by rw [e3]; exact (hR k hk).2), M.mem.chg c (fun hk => (hab _ (hR _ hk).1).2.2.1 rfl) (fun hk => (hab _ (hR _ hk).1).2.2.2 rfl), M.na, M.nb, M.base⟩, ha, hb, fun k hk => ?_⟩, fun k hk => ?_, h2, h.ne, ?_⟩
  · rcases hk with hk | hk
    · rcases h1 k hk with hk | hk
      · exact .inl (.inl hk)
      · exact .inr hk
    · exact .inl (.inr hk)
  · rcases h1 k hk with hk | hk
    · exact ⟨Nat.lt_of_lt_of_le (hX k hk).1 c.size, (hX k hk).2⟩
    · exact ⟨hk.2, fun hf => by have := (M.net.lt k hf).1; omega⟩
  · rcases h1 k hk with hk | hk
    · exact hab k hk
    · refine ⟨fun e => ?_, fun e => ?_, fun e => ?_, fun e => ?_⟩
      · have := hlt k (.inl e); omega
      · have := hlt k (.inr (.inl e)); omega
      · have := hlt k (.inr (.inr (.inl e))); omega
      · have := hlt k (.inr (.inr (.inr e))); omega
  · exact h.chg.trans' c (fun k hk hr => by have := (hR k hr).2; omega)
theorem Play.keep (h : Play W w X n rn l a b va vb Q Q' f f') (c : Chg w w' (fun _ => False)) : Play W w' X n rn l a b va vb Q Q' f f' :=
  h.adopt c (fun _ hk => hk.elim) (fun _ hk => .inl hk) h.old
theorem Play.mono (h : Play W w X n rn l a b va vb Q Q' f f') (h1 : ∀ k, X' k → X k) (h2 : ∀ k, k < W.heap.size → X' k) : Play W w X' n rn l a b va vb Q Q' f f' :=
  h.adopt (Chg.refl w (fun _ => False)) (fun _ hk => hk.elim) (fun k hk => .inl (h1 k hk)) h2
/-- What one call leaves. -/
def PlayTo (W w w' : World) (X : Nat → Prop) (n rn : Nat) (l : List ChanD) (a b va vb : Nat) (Q Q' : Que) (f f' : Nat → Int) (r : Int) (e : Ending) : Prop :=
  e = .returned (.int .i64 r) ∧ Play W w' X n rn l a b va vb Q Q' f f' ∧ Chg w w' (fun k => ¬ X k)
/-- What a Read leaves. -/
def PlayRow (W w w' : World) (X : Nat → Prop) (n rn : Nat) (l : List ChanD) (a b va vb : Nat) (Q Q' : Que) (f f' : Nat → Int) (xs : List Int) (r : Int) (e : Ending) : Prop :=
  ∃ (ao : Option Addr) (cap : Nat), e = .returned (.tuple #[.slice ao xs.length cap, .int .i64 r]) ∧ w'.ownsRow w.heap.size 5 1 (.slice ao xs.length cap) xs.length (u8s xs) ∧
    Play W w' (fun k => X k ∨ (Value.slice ao xs.length cap).ownBlock = some k) n rn l a b va vb Q Q' f f' ∧ Chg w w' (fun k => ¬ X k)

/-- The code's side behind one of its calls. -/
theorem Play.code (h : Play W w X n rn l a b va vb Q Q' f f') (F : Nat → Prop) (D : RD) (vs : Nat → Value) (e1 : D.n = rn) (e2 : D.l = l) (e3 : D.base = W.heap.size) (N : NM w (fun k => X k ∨ F k ∨ k = a ∨ k = b ∨ k = va ∨ k = vb) n l Q a b 4096 f) (M : RMem w F D Q' vs va vb 4096 f') (ha : ¬ F a) (hb : ¬ F b) (hX : ∀ k, X k → k < w.heap.size ∧ ¬ F k)
    (h1 : ∀ k, X k → X' k) (h2 : ∀ k, X' k → X k ∨ (w.heap.size ≤ k ∧ k < w'.heap.size))
    (N' : NM w' (fun k => X' k ∨ F k ∨ k = a ∨ k = b ∨ k = va ∨ k = vb) n l Q1 a b 4096 f1) (c : Chg w w' (fun k => k = b ∨ ¬ (X k ∨ F k ∨ k = a ∨ k = b ∨ k = va ∨ k = vb))) : Play W w' X' n rn l a b va vb Q1 Q' f1 f' ∧ Chg w w' (fun k => ¬ X k) := by
  have hs := h.size
  have hv : ∀ k, k = va ∨ k = vb → ¬ (k = b ∨ ¬ (X k ∨ F k ∨ k = a ∨ k = b ∨ k = va ∨ k = vb)) := by
    rintro k hk (hb | hb)
    · obtain ⟨n1, n2, n3, n4⟩ := h.ne
      rcases hk with hk | hk
      · exact n3 (hb.symm.trans hk)
      · exact n4 (hb.symm.trans hk)
    · exact hb (.inr (.inr (.inr (.inr hk))))
  have hxb : ∀ k, X k → ¬ (k = b ∨ ¬ (X k ∨ F k ∨ k = a ∨ k = b ∨ k = va ∨ k = vb)) := fun k hk hn => hn.elim (fun e => (h.x k hk).2.1 e) (fun hn => hn (.inl hk))
  refine ⟨⟨⟨F, D, vs, e1, e2, e3, N', ⟨M.net.chg c (fun k hk hn => hn.elim (fun e => hb (e ▸ hk)) (fun hn => hn (.inr (.inl hk)))) (fun k hk => ?_), M.mem.chg c (hv va (.inl rfl)) (hv vb (.inr rfl)), M.na, M.nb, M.base⟩, ha, hb, fun k hk => ?_⟩, fun k hk => ?_, fun k hk => h1 k (h.old k hk), h.ne, ?_⟩, c.mono (fun k _ hn hk => hxb k hk hn)⟩
  · rw [e3]
    exact Nat.le_of_not_lt (fun hlt => hxb k (h.old k hlt) hk)
  · rcases h2 k hk with hk | hk
    · exact ⟨Nat.lt_of_lt_of_le (hX k hk).1 c.size, (hX k hk).2⟩
    · exact ⟨hk.2, fun hf => by have := (M.net.lt k hf).1; omega⟩
  · rcases h2 k hk with hk | hk
    · exact h.x k hk
    · have := N.mem.ptr.lt
      have := N.mem.row.lt
      have := M.mem.ptr.lt
      have := M.mem.row.lt
      exact ⟨by omega, by omega, by omega, by omega⟩
  · exact h.chg.trans' c (fun k hk hr => fun hlt => hxb k (h.old k hlt) hr)
/-- The reference's side behind one of its calls. -/
theorem Play.ref (h : Play W w X n rn l a b va vb Q Q' f f') (F : Nat → Prop) (D : RD) (vs : Nat → Value) (e1 : D.n = rn) (e2 : D.l = l) (e3 : D.base = W.heap.size) (N : NM w (fun k => X k ∨ F k ∨ k = a ∨ k = b ∨ k = va ∨ k = vb) n l Q a b 4096 f) (M : RMem w F D Q' vs va vb 4096 f') (ha : ¬ F a) (hb : ¬ F b) (hX : ∀ k, X k → k < w.heap.size ∧ ¬ F k)
    (F' : Nat → Prop) (vs' : Nat → Value) (h1 : ∀ k, X k → X' k) (h2 : ∀ k, X' k → X k ∨ (w.heap.size ≤ k ∧ k < w'.heap.size ∧ ¬ F' k)) (M' : RMem w' F' D Q1 vs' va vb 4096 f1) (hF : ∀ k, F' k → F k ∨ (w.heap.size ≤ k ∧ k < w'.heap.size)) (c : Chg w w' (fun k => k = D.gq ∨ k = vb)) : Play W w' X' n rn l a b va vb Q Q1 f f1 ∧ Chg w w' (fun k => ¬ X k) := by
  have hs := h.size
  obtain ⟨n1, n2, n3, n4⟩ := h.ne
  have hq := M.net.fq
  have hxr : ∀ k, X k → ¬ (k = D.gq ∨ k = vb) := fun k hk hn => hn.elim (fun e => (hX k hk).2 (e ▸ hq)) (fun e => (h.x k hk).2.2.2 e)
  have hal := N.mem.ptr.lt
  have hbl := N.mem.row.lt
  have hval := M.mem.ptr.lt
  have hvbl := M.mem.row.lt
  refine ⟨⟨⟨F', D, vs', e1, e2, e3, ⟨N.net.adopt c (fun k hk => ?_) (fun k hk => ?_), N.mem.chg c ?_ ?_, .inr (.inr (.inl rfl)), .inr (.inr (.inr (.inl rfl)))⟩, M', ?_, ?_, fun k hk => ?_⟩, fun k hk => ?_, fun k hk => h1 k (h.old k hk), h.ne, ?_⟩, c.mono (fun k _ hn hk => hxr k hk hn)⟩
  · rcases hk with hk | hk
    · exact .inr (.inl (hk ▸ hq))
    · exact .inr (.inr (.inr (.inr (.inr hk))))
  · rcases hk with hk | hk | hk
    · rcases h2 k hk with hk | hk
      · exact .inl (.inl hk)
      · exact .inr ⟨hk.1, hk.2.1⟩
    · rcases hF k hk with hk | hk
      · exact .inl (.inr (.inl hk))
      · exact .inr hk
    · exact .inl (.inr (.inr hk))
  · rintro (e | e)
    · exact ha (e ▸ hq)
    · exact n2 e
  · rintro (e | e)
    · exact hb (e ▸ hq)
    · exact n4 e
  · intro hf
    rcases hF _ hf with hk | hk
    · exact ha hk
    · omega
  · intro hf
    rcases hF _ hf with hk | hk
    · exact hb hk
    · omega
  · rcases h2 k hk with hk | hk
    · refine ⟨Nat.lt_of_lt_of_le (hX k hk).1 c.size, fun hf => ?_⟩
      rcases hF _ hf with hk' | hk'
      · exact (hX k hk).2 hk'
      · have := (hX k hk).1; omega
    · exact hk.2
  · rcases h2 k hk with hk | hk
    · exact h.x k hk
    · exact ⟨by omega, by omega, by omega, by omega⟩
  · exact h.chg.trans' c (fun k hk hr => fun hlt => hxr k (h.old k hlt) hr)

theorem rfar {D : RD} {F F' : Nat → Prop} {vs : Nat → Value} (M : RMem w F D Q' vs va vb 4096 f') (hF : ∀ k, F' k → F k ∨ (w.heap.size ≤ k ∧ k < w'.heap.size)) (_C : Chg w w' (fun k => k = D.gq)) : (¬ va = D.gq ∧ ¬ vb = D.gq) ∧ ¬ F' va ∧ ¬ F' vb := by
  have := M.mem.ptr.lt
  have := M.mem.row.lt
  refine ⟨⟨fun e => M.na (e ▸ M.net.fq), fun e => M.nb (e ▸ M.net.fq)⟩, fun h => ?_, fun h => ?_⟩
  · rcases hF _ h with h | h
    · exact M.na h
    · omega
  · rcases hF _ h with h | h
    · exact M.nb h
    · omega
theorem play_write (h : Play W w X n rn l a b va vb Q Q' f f') (part port : Int) (h1 : -9223372036854775808 ≤ port) (h2 : port ≤ 9223372036854775807) {ao : Option Addr} {c : Nat} {xs : List Int} (m : Nat) (hl : xs.length = m) (hS : Src w ao m c (u8s xs) 1) (hb : byteL xs) (hm : m ≤ 9223372036854775807) :
    Calls Try.prog 13 #[.pointer (some ⟨n, 0, none⟩), .int .i64 part, .int .i64 port, .slice ao m c] w fun e w' => PlayTo W w w' X n rn l a b va vb (wrQ l Q part port xs) Q' f f' (wrC l Q part port m) e := by
  obtain ⟨F, D, vs, e1, e2, e3, N, M, ha, hb', hX⟩ := h.ex
  refine (write_p N.net part port h1 h2 m hl hS hb hm rfl rfl).mono ?_
  rintro e w' ⟨rfl, N', C⟩
  rw [hl]
  exact ⟨rfl, h.code F D vs e1 e2 e3 N M ha hb' hX (fun _ h => h) (fun _ h => .inl h) (N.net_to C N') (C.mono (fun _ _ h => .inr h))⟩
theorem play_read (h : Play W w X n rn l a b va vb Q Q' f f') (part port most : Int) (h1 : -9223372036854775808 ≤ port) (h2 : port ≤ 9223372036854775807) :
    Calls Try.prog 15 #[.pointer (some ⟨n, 0, none⟩), .int .i64 part, .int .i64 port, .int .i64 most] w fun e w' => PlayRow W w w' X n rn l a b va vb (rdQ l Q part port most) Q' f f' (rdB l Q part port most) (rdC l Q part port most) e := by
  obtain ⟨F, D, vs, e1, e2, e3, N, M, ha, hb', hX⟩ := h.ex
  refine (read_p N.net part port most h1 h2 rfl rfl rfl).mono ?_
  rintro e w' ⟨ao, cap, P', rfl, O, N', C, hP, hO⟩
  have N2 := N.net_to C (N'.mono hP)
  refine ⟨ao, cap, rfl, O, h.code F D vs e1 e2 e3 N M ha hb' hX (fun _ h => .inl h) (fun k hk => hk.imp id (fun hk => O.lt k hk)) ⟨N'.mono (fun k hk => ?_), N2.mem, .inr (.inr (.inl rfl)), .inr (.inr (.inr (.inl rfl)))⟩ (C.mono (fun _ _ h => .inr h))⟩
  rcases hk with (hk | hk) | hk
  · exact hP k (.inl hk)
  · exact hO k hk
  · exact hP k (.inr hk)
theorem play_call (h : Play W w X n rn l a b va vb Q Q' f f') (part op a0 a1 a2 : Int) (h0 : 0 ≤ a0 ∧ a0 ≤ 4294967295) (h1 : 0 ≤ a1 ∧ a1 ≤ 4294967295) (h2 : 0 ≤ a2 ∧ a2 ≤ 4294967295) :
    Calls Try.prog 18 #[.pointer (some ⟨n, 0, none⟩), .int .i64 part, .int .i64 op, .agg #[.int .i64 a0, .int .i64 a1, .int .i64 a2], .iface 47 (.pointer (some ⟨a, 0, none⟩))] w
      fun e w' => PlayTo W w w' X n rn l a b va vb (caQ l Q 4096 f part op a0 a1 a2) Q' (caF l Q 4096 f part op a0 a1 a2) f' (caC l Q 4096 part op a0 a1 a2) e := by
  obtain ⟨F, D, vs, e1, e2, e3, N, M, ha, hb', hX⟩ := h.ex
  refine (call_c N part op a0 a1 a2 h0 h1 h2).mono ?_
  rintro e w' ⟨rfl, N', C⟩
  exact ⟨rfl, h.code F D vs e1 e2 e3 N M ha hb' hX (fun _ h => h) (fun _ h => .inl h) N' C⟩
theorem play_status (h : Play W w X n rn l a b va vb Q Q' f f') (part port : Int) (h1 : -9223372036854775808 ≤ port) (h2 : port ≤ 9223372036854775807) :
    Calls Try.prog 16 #[.pointer (some ⟨n, 0, none⟩), .int .i64 part, .int .i64 port] w fun e w' => e = .returned (.int .i64 (stC l Q part port)) ∧ Chg w w' (fun _ => False) := by
  obtain ⟨F, D, vs, e1, e2, e3, N, M, ha, hb', hX⟩ := h.ex
  exact (status_p N.net part port h1 h2 rfl).mono fun e w' ⟨he, _, C⟩ => ⟨he, C⟩
theorem play_messages (h : Play W w X n rn l a b va vb Q Q' f f') (part : Int) :
    Calls Try.prog 14 #[.pointer (some ⟨n, 0, none⟩), .int .i64 part] w fun e w' => e = .returned (.int .i64 (msK l Q part l.length)) ∧ Chg w w' (fun _ => False) := by
  obtain ⟨F, D, vs, e1, e2, e3, N, M, ha, hb', hX⟩ := h.ex
  exact (messages_p N.net part rfl).mono fun e w' ⟨he, _, C⟩ => ⟨he, C⟩
theorem rplay_status (h : Play W w X n rn l a b va vb Q Q' f f') (part port : Int) :
    Calls Try.prog 26 #[.pointer (some ⟨rn, 0, none⟩), .int .i64 part, .int .i64 port] w fun e w' => e = .returned (.int .i64 (stC l Q' part port)) ∧ Chg w w' (fun _ => False) := by
  obtain ⟨F, D, vs, rfl, rfl, e3, N, M, ha, hb', hX⟩ := h.ex
  exact rstatus_any M.net part port
theorem rplay_messages (h : Play W w X n rn l a b va vb Q Q' f f') (part : Int) :
    Calls Try.prog 27 #[.pointer (some ⟨rn, 0, none⟩), .int .i64 part] w fun e w' => e = .returned (.int .i64 (msK l Q' part l.length)) ∧ Chg w w' (fun _ => False) := by
  obtain ⟨F, D, vs, rfl, rfl, e3, N, M, ha, hb', hX⟩ := h.ex
  exact (rmessages_any M.net part).mono fun e w' ⟨he, hw⟩ => ⟨he, hw ▸ Chg.refl w _⟩
theorem rplay_write (h : Play W w X n rn l a b va vb Q Q' f f') (part port : Int) {ao : Option Addr} {c : Nat} {xs : List Int} (m : Nat) (hl : xs.length = m) (hS : Src w ao m c (u8s xs) 1) (hb : byteL xs) (hm : m ≤ 9223372036854775807) :
    Calls Try.prog 24 #[.pointer (some ⟨rn, 0, none⟩), .int .i64 part, .int .i64 port, .slice ao m c] w fun e w' => PlayTo W w w' X n rn l a b va vb Q (wrQ l Q' part port xs) f f' (wrC l Q' part port m) e := by
  obtain ⟨F, D, vs, rfl, rfl, e3, N, M, ha, hb', hX⟩ := h.ex
  refine (rwrite_any M.net part port m hl hS hb hm).mono ?_
  rintro e w' ⟨rfl, ⟨F', vs', N', hF1, hF2⟩, C⟩
  rw [hl]
  obtain ⟨g1, g2⟩ := rfar M hF2 C
  exact ⟨rfl, h.ref F D vs rfl rfl e3 N M ha hb' hX F' vs' (fun _ h => h) (fun _ h => .inl h) ⟨N', M.mem.chg C g1.1 g1.2, g2.1, g2.2, M.base⟩ hF2 (C.mono (fun _ _ h => .inl h))⟩
theorem rplay_read (h : Play W w X n rn l a b va vb Q Q' f f') (part port most : Int) :
    Calls Try.prog 25 #[.pointer (some ⟨rn, 0, none⟩), .int .i64 part, .int .i64 port, .int .i64 most] w fun e w' => PlayRow W w w' X n rn l a b va vb Q (rdQ l Q' part port most) f f' (rdB l Q' part port most) (rdC l Q' part port most) e := by
  obtain ⟨F, D, vs, rfl, rfl, e3, N, M, ha, hb', hX⟩ := h.ex
  refine (rread_any M.net part port most).mono ?_
  rintro e w' ⟨ao, cap, F', vs', rfl, O, N', hF1, hF2, hO, C⟩
  obtain ⟨g1, g2⟩ := rfar M hF2 C
  exact ⟨ao, cap, rfl, O, h.ref F D vs rfl rfl e3 N M ha hb' hX F' vs' (fun _ h => .inl h) (fun k hk => hk.imp id (fun hk => ⟨(O.lt k hk).1, (O.lt k hk).2, hO k hk⟩)) ⟨N', M.mem.chg C g1.1 g1.2, g2.1, g2.2, M.base⟩ hF2 (C.mono (fun _ _ h => .inl h))⟩
theorem rplay_call (h : Play W w X n rn l a b va vb Q Q' f f') (part op a0 a1 a2 : Int) (h2 : 0 ≤ a2 ∧ a2 ≤ 4294967295) :
    Calls Try.prog 29 #[.pointer (some ⟨rn, 0, none⟩), .int .i64 part, .int .i64 op, .agg #[.int .i64 a0, .int .i64 a1, .int .i64 a2], .pointer (some ⟨va, 0, none⟩)] w
      fun e w' => PlayTo W w w' X n rn l a b va vb Q (caQ l Q' 4096 f' part op a0 a1 a2) f (caF l Q' 4096 f' part op a0 a1 a2) (caC l Q' 4096 part op a0 a1 a2) e := by
  obtain ⟨F, D, vs, rfl, rfl, e3, N, M, ha, hb', hX⟩ := h.ex
  refine (rcall_any M part op a0 a1 a2 h2).mono ?_
  rintro e w' ⟨rfl, F', vs', M', hF1, hF2, C⟩
  exact ⟨rfl, h.ref F D vs rfl rfl e3 N M ha hb' hX F' vs' (fun _ h => h) (fun _ h => .inl h) M' hF2 C⟩
theorem play_get (h : Play W w X n rn l a b va vb Q Q' f f') : Mem 92 w a b 4096 f ∧ Mem 65 w va vb 4096 f' := by
  obtain ⟨F, D, vs, e1, e2, e3, N, M, ha, hb', hX⟩ := h.ex
  exact ⟨N.mem, M.mem⟩
/-- The start. -/
theorem play_start {w1 w2 w3 w4 w5 w6 : World} {P : Nat → Prop} {Q0 : Que} {e e' : Ending} {D : RD} {vs : Nat → Value} {a b va vb : Nat} (N : NetP w1 P n l Q0) (hP : ∀ k, k < W.heap.size → P k) (C0 : Chg W w1 (fun _ => False)) (C1 : Chg w1 w2 (fun _ => False))
    (R : RAt w3 (fun k => w2.heap.size ≤ k ∧ k < w3.heap.size) D Q0 vs) (hD : D.base = W.heap.size) (hl : D.l = l) (C2 : Chg w2 w3 (fun _ => False)) (C3 : Chg w3 w4 (fun _ => False)) (M : MemNew 92 w4 4096 e w5 a b) (M' : MemNew 65 w5 4096 e' w6 va vb) :
    Play W w6 (fun k => k < W.heap.size) n D.n l a b va vb Q0 Q0 (fun _ => 0) (fun _ => 0) := by
  have s0 := C0.size
  have s1 := C1.size
  have s2 := C2.size
  have s3 := C3.size
  have s4 := M.chg.size
  have s5 := M'.chg.size
  have la := M.mem.ptr.lt
  have lb := M.mem.row.lt
  have lva := M'.mem.ptr.lt
  have lvb := M'.mem.row.lt
  have ga := M.lea
  have gb := M.leb
  have gva := M'.lea
  have gvb := M'.leb
  have c3 := C3.trans (M.chg.trans M'.chg)
  have c1 := C1.trans (C2.trans c3)
  refine ⟨⟨_, D, vs, rfl, hl, hD, ⟨N.adopt c1 (fun _ h => h.elim) (fun k hk => ?_), M.mem.chg M'.chg (fun h => h) (fun h => h), .inr (.inr (.inl rfl)), .inr (.inr (.inr (.inl rfl)))⟩, ⟨R.keep c3, M'.mem, ?_, ?_, ?_⟩, ?_, ?_, fun k hk => ⟨by omega, by omega⟩⟩, fun k hk => ⟨by omega, by omega, by omega, by omega⟩, fun k hk => hk, ⟨by omega, by omega, by omega, by omega⟩, (C0.trans c1).mono (fun _ _ h => h.elim)⟩
  · rcases hk with hk | hk | hk | hk | hk | hk
    · exact .inl (hP k hk)
    · exact .inr ⟨by omega, by omega⟩
    all_goals exact .inr ⟨by omega, by omega⟩
  · omega
  · omega
  · rw [hD]; omega
  · omega
  · omega
end
end
section

section
variable {C : Cfg} {ap ac aw : Option Addr} {cp cc cw : Nat} {w : World} {pg mj sw k : Int} {np nc nw m : Nat} {xs : List Int}
theorem rcheck_atk (h : CfgAt w C ap ac aw cp cc cw) (hk : chk C = k) (h1 : C.pages = pg) (h2 : C.major = mj) (h3 : C.switch = sw) (ha : C.parts.length = np) (hb : C.chans.length = nc) (hc : C.wins.length = nw) :
    Calls Try.prog 21 #[.agg #[.int .i64 pg, .int .i64 mj, .int .i64 sw, .slice ap np cp, .slice ac nc cc, .slice aw nw cw]] w fun e w' => e = .returned (.int .i64 k) ∧ Chg w w' (fun _ => False) := by
  subst hk h1 h2 h3 ha hb hc
  exact rcheck_any w h
theorem big_atk (h : CfgAt w C ap ac aw cp cc cw) {b : Bool} (hk : bigV C = b) (h1 : C.pages = pg) (h2 : C.major = mj) (h3 : C.switch = sw) (ha : C.parts.length = np) (hb : C.chans.length = nc) (hc : C.wins.length = nw) :
    Calls Try.prog 20 #[.agg #[.int .i64 pg, .int .i64 mj, .int .i64 sw, .slice ap np cp, .slice ac nc cc, .slice aw nw cw]] w fun e w' => e = .returned (.bool b) ∧ Chg w w' (fun _ => False) := by
  subst hk h1 h2 h3 ha hb hc
  exact big_any w h
end
/-- A configuration by its numbers. -/
structure NumsOf (C : Cfg) (pg mj sw : Int) (np nc nw : Nat) : Prop where
  h1 : C.pages = pg
  h2 : C.major = mj
  h3 : C.switch = sw
  ha : C.parts.length = np
  hb : C.chans.length = nc
  hc : C.wins.length = nw
theorem conv_rule2 {ao : Option Addr} {m c : Nat} {xs : List Int} : ∀ w : World, Src w ao m c (u8s xs) 1 → (convert 22 9 (.slice ao m c)).run Try.prog w = .ok (.string (strOfNums xs)) w := fun w h => conv_src w h
theorem u8s_set (xs : List Int) (j : Nat) (y : Int) : (u8s xs).set j (.int .u8 y) = u8s (xs.set j y) := by simp [u8s]
end
end Go.Proofs.Ytiedfglkjkaefaa

/- An argument that is a configuration. -/
import Derived.Test.YtiedfglkjkaefaaCfgAt
import Derived.Test.YtiedfglkjkaefaaRead
namespace Go.Proofs.Ytiedfglkjkaefaa
open Go.RowKit Go.ChangeShapes Go.WideShapes Go.Deep

instance : Inhabited PartD := ⟨⟨⟨#[]⟩, 0, 0⟩⟩
instance : Inhabited ChanD := ⟨⟨0, 0, 0, 0, 0⟩⟩
instance : Inhabited WinD := ⟨⟨0, 0, 0⟩⟩

section
variable {H : Type} {enc : TypeId × Value → H} {W : World} {base : Nat} {sp : Nat → Bool} {hd : Bool}

theorem read_part {fuel : Nat} {cs : List Value} {x : DataW H × List MemPlace} (hc : cs.length = 3) (h : DataW.trod enc Try.prog W base sp hd fuel 70 cs = some x) : ∃ p : PartD, partCells p = cs ∧ p.name.size ≤ maxLen := by
  obtain ⟨_, hs⟩ := read_struct Try.underlying70 (by kernel_rfl) (by kernel_rfl) h
  obtain ⟨v0, y0, n0, e0, t0⟩ := hs 0 _ rfl
  obtain ⟨v1, y1, n1, e1, t1⟩ := hs 1 _ rfl
  obtain ⟨v2, y2, n2, e2, t2⟩ := hs 2 _ rfl
  obtain ⟨z0, rfl, hz⟩ := read_string Try.underlying9 t0
  obtain ⟨z1, rfl, _⟩ := read_int Try.underlying3 t1
  obtain ⟨z2, rfl, _⟩ := read_int Try.underlying3 t2
  refine ⟨⟨z0, z1, z2⟩, ?_, hz⟩
  match cs, hc with
  | [c0, c1, c2], _ =>
    have e0' : c0 = .string z0 := by simpa using e0
    have e1' : c1 = .int .i64 z1 := by simpa using e1
    have e2' : c2 = .int .i64 z2 := by simpa using e2
    rw [e0', e1', e2']
    rfl
theorem read_chan {fuel : Nat} {cs : List Value} {x : DataW H × List MemPlace} (hc : cs.length = 5) (h : DataW.trod enc Try.prog W base sp hd fuel 73 cs = some x) : ∃ p : ChanD, chanCells p = cs ∧ True := by
  obtain ⟨_, hs⟩ := read_struct Try.underlying73 (by kernel_rfl) (by kernel_rfl) h
  obtain ⟨v0, y0, n0, e0, t0⟩ := hs 0 _ rfl
  obtain ⟨v1, y1, n1, e1, t1⟩ := hs 1 _ rfl
  obtain ⟨v2, y2, n2, e2, t2⟩ := hs 2 _ rfl
  obtain ⟨v3, y3, n3, e3, t3⟩ := hs 3 _ rfl
  obtain ⟨v4, y4, n4, e4, t4⟩ := hs 4 _ rfl
  obtain ⟨z0, rfl, _⟩ := read_int Try.underlying3 t0
  obtain ⟨z1, rfl, _⟩ := read_int Try.underlying3 t1
  obtain ⟨z2, rfl, _⟩ := read_int Try.underlying3 t2
  obtain ⟨z3, rfl, _⟩ := read_int Try.underlying3 t3
  obtain ⟨z4, rfl, _⟩ := read_int Try.underlying3 t4
  refine ⟨⟨z0, z1, z2, z3, z4⟩, ?_, trivial⟩
  match cs, hc with
  | [c0, c1, c2, c3, c4], _ =>
    have e0' : c0 = .int .i64 z0 := by simpa using e0
    have e1' : c1 = .int .i64 z1 := by simpa using e1
    have e2' : c2 = .int .i64 z2 := by simpa using e2
    have e3' : c3 = .int .i64 z3 := by simpa using e3
    have e4' : c4 = .int .i64 z4 := by simpa using e4
    rw [e0', e1', e2', e3', e4']
    rfl
theorem read_win {fuel : Nat} {cs : List Value} {x : DataW H × List MemPlace} (hc : cs.length = 3) (h : DataW.trod enc Try.prog W base sp hd fuel 99 cs = some x) : ∃ p : WinD, winCells p = cs ∧ True := by
  obtain ⟨_, hs⟩ := read_struct Try.underlying99 (by kernel_rfl) (by kernel_rfl) h
  obtain ⟨v0, y0, n0, e0, t0⟩ := hs 0 _ rfl
  obtain ⟨v1, y1, n1, e1, t1⟩ := hs 1 _ rfl
  obtain ⟨v2, y2, n2, e2, t2⟩ := hs 2 _ rfl
  obtain ⟨z0, rfl, _⟩ := read_int Try.underlying3 t0
  obtain ⟨z1, rfl, _⟩ := read_int Try.underlying3 t1
  obtain ⟨z2, rfl, _⟩ := read_int Try.underlying3 t2
  refine ⟨⟨z0, z1, z2⟩, ?_, trivial⟩
  match cs, hc with
  | [c0, c1, c2], _ =>
    have e0' : c0 = .int .i64 z0 := by simpa using e0
    have e1' : c1 = .int .i64 z1 := by simpa using e1
    have e2' : c2 = .int .i64 z2 := by simpa using e2
    rw [e0', e1', e2']
    rfl
end

/-- Where the lists of a configuration lie. -/
structure CfgOld (n : Nat) (C : Cfg) (ap ac aw : Option Addr) : Prop where
  ps : ∀ ad, ap = some ad → 0 < C.parts.length → ad.block < n
  cs : ∀ ad, ac = some ad → 0 < C.chans.length → ad.block < n
  ws : ∀ ad, aw = some ad → 0 < C.wins.length → ad.block < n

set_option maxRecDepth 100000 in
theorem open_cfg {H : Type} {enc : TypeId × Value → H} {W : World} {base : Nat} {v : Value} {d : DataW H} {p : List MemPlace} (hv : Value.okWide Try.prog W .any base 32 v) (h : DataW.Trod enc Try.prog W 0 (fun _ => true) true 32 v d p) :
    ∃ (C : Cfg) (ap ac aw : Option Addr) (cp cc cw : Nat), v = .agg (cfgCells C ap ac aw cp cc cw) ∧ CfgAt W C ap ac aw cp cc cw ∧ CfgOld W.heap.size C ap ac aw := by
  obtain ⟨cs, rfl, hsz⟩ := okWide_struct Try.underlying32 hv
  obtain ⟨fuel, hf⟩ := h
  obtain ⟨hlen, hs⟩ := read_struct Try.underlying32 (by kernel_rfl) (by kernel_rfl) hf
  obtain ⟨v0, y0, n0, e0, t0⟩ := hs 0 _ rfl
  obtain ⟨v1, y1, n1, e1, t1⟩ := hs 1 _ rfl
  obtain ⟨v2, y2, n2, e2, t2⟩ := hs 2 _ rfl
  obtain ⟨v3, y3, n3, e3, t3⟩ := hs 3 _ rfl
  obtain ⟨v4, y4, n4, e4, t4⟩ := hs 4 _ rfl
  obtain ⟨v5, y5, n5, e5, t5⟩ := hs 5 _ rfl
  obtain ⟨z0, rfl, _⟩ := read_int Try.underlying3 t0
  obtain ⟨z1, rfl, _⟩ := read_int Try.underlying3 t1
  obtain ⟨z2, rfl, _⟩ := read_int Try.underlying3 t2
  obtain ⟨ap, cp, ps, rfl, h3, o3, g3⟩ := read_slice partCells (fun p => p.name.size ≤ maxLen) 3 (fun _ => rfl) (by decide) Try.underlying28 (by kernel_rfl) (fun _ _ _ hc ht => read_part hc ht) t3
  obtain ⟨ac, cc, cs', rfl, h4, o4, _⟩ := read_slice chanCells (fun _ => True) 5 (fun _ => rfl) (by decide) Try.underlying29 (by kernel_rfl) (fun _ _ _ hc ht => read_chan hc ht) t4
  obtain ⟨aw, cw, ws, rfl, h5, o5, _⟩ := read_slice winCells (fun _ => True) 3 (fun _ => rfl) (by decide) Try.underlying30 (by kernel_rfl) (fun _ _ _ hc ht => read_win hc ht) t5
  refine ⟨⟨z0, z1, z2, ps, cs', ws⟩, ap, ac, aw, cp, cc, cw, ?_, ⟨h3, h4, h5, g3⟩, ⟨o3, o4, o5⟩⟩
  obtain ⟨l⟩ := cs
  have hl : l.length = 6 := hlen
  match l, hl with
  | [c0, c1, c2, c3, c4, c5], _ =>
    have e0' : c0 = .int .i64 z0 := by simpa [Value.cells] using e0
    have e1' : c1 = .int .i64 z1 := by simpa [Value.cells] using e1
    have e2' : c2 = .int .i64 z2 := by simpa [Value.cells] using e2
    have e3' : c3 = .slice ap ps.length cp := by simpa [Value.cells] using e3
    have e4' : c4 = .slice ac cs'.length cc := by simpa [Value.cells] using e4
    have e5' : c5 = .slice aw ws.length cw := by simpa [Value.cells] using e5
    rw [e0', e1', e2', e3', e4', e5']
    rfl
end Go.Proofs.Ytiedfglkjkaefaa

/- trunnionref14.Unpack. -/
import Derived.Test.YtdhkbephofnfdaaCRNum
import Derived.Test.YtdhkbephofnfdaaTail
import Derived.Deep.DeepCutAuto
import Derived.Deep.CutBlock
import Derived.Deep.LoopGhost
namespace Go.Proofs.Ytdhkbephofnfdaa
open Go.RowKit

/-- Where the reference's Unpack is. -/
structure RuSt (w0 w : World) (r gb T2 T5 : Nat) (bs : List Int) (p : Nat) (bad : Bool) (cs : Array Value) : Prop where
  rd : RfAt w r gb bs p bad
  b2 : Box w T2 27 #[.int .i64 0, .int .i64 0, .int .i64 0, .slice none 0 0, .slice none 0 0, .slice none 0 0]
  b5 : Box w T5 27 cs
  chg : Chg w0 w (fun _ => False)
  l0 : w0.heap.size ≤ T2
  l1 : T2 < r
  l2 : r < T5
  lg : gb < w0.heap.size
section
variable {w0 w w' : World} {r gb T2 T5 : Nat} {bs : List Int} {p p' : Nat} {bad bad' : Bool} {cs : Array Value}
theorem RuSt.num (S : RuSt w0 w r gb T2 T5 bs p bad cs) (R : RfAt w' r gb bs p' bad') (c : Chg w w' (fun j => j = r)) : RuSt w0 w' r gb T2 T5 bs p' bad' cs := by
  have h0 := S.l0
  have h1 := S.l1
  have h2 := S.l2
  exact ⟨R, S.b2.chg c (fun h => by omega), S.b5.chg c (fun h => by omega), S.chg.trans' c (fun k hk h => by omega), S.l0, S.l1, S.l2, S.lg⟩
theorem RuSt.keep (S : RuSt w0 w r gb T2 T5 bs p bad cs) (c : Chg w w' (fun _ => False)) : RuSt w0 w' r gb T2 T5 bs p bad cs :=
  ⟨S.rd.chg c (fun h => h) (fun h => h), S.b2.chg c (fun h => h), S.b5.chg c (fun h => h), S.chg.trans c, S.l0, S.l1, S.l2, S.lg⟩
theorem RuSt.turn (S : RuSt w0 w r gb T2 T5 bs p bad cs) {Q : Nat → Prop} (c : Chg w w' Q) (hQ : ∀ k, Q k → T5 < k) : RuSt w0 w' r gb T2 T5 bs p bad cs := by
  have h0 := S.l0
  have h1 := S.l1
  have h2 := S.l2
  have h3 := S.lg
  exact ⟨S.rd.chg c (fun h => by have := hQ _ h; omega) (fun h => by have := hQ _ h; omega), S.b2.chg c (fun h => by have := hQ _ h; omega), S.b5.chg c (fun h => by have := hQ _ h; omega), S.chg.trans' c (fun k hk h => by have := hQ _ h; omega), S.l0, S.l1, S.l2, S.lg⟩
theorem RuSt.set (S : RuSt w0 w r gb T2 T5 bs p bad cs) (i : Nat) (u : Value) : RuSt w0 (w.setCell ⟨T5, i, none⟩ u) r gb T2 T5 bs p bad (cs.setIfInBounds i u) ∧ Chg w (w.setCell ⟨T5, i, none⟩ u) (fun k => k = T5) := by
  have h0 := S.l0
  have h1 := S.l1
  have h2 := S.l2
  have h3 := S.lg
  have C2 : Chg w (w.setCell ⟨T5, i, none⟩ u) (fun k => k = T5) := (Chg.refl w (fun k => k = T5)).setCell (p := ⟨T5, i, none⟩) (fun _ => rfl) _
  exact ⟨⟨S.rd.chg C2 (fun h => by omega) (fun h => by omega), S.b2.chg C2 (fun h => by omega), S.b5.set i u, S.chg.trans' C2 (fun k hk h => by omega), S.l0, S.l1, S.l2, S.lg⟩, C2⟩
theorem RuSt.grow (S : RuSt w0 w r gb T2 T5 bs p bad cs) {row : Option Nat} (hg : w.grownBy w' row) (hr : ∀ k, row = some k → T5 + 1 ≤ k) (i : Nat) (u : Value) :
    Box w' T5 27 cs ∧ RuSt w0 (w'.setCell ⟨T5, i, none⟩ u) r gb T2 T5 bs p bad (cs.setIfInBounds i u) ∧ Chg w (w'.setCell ⟨T5, i, none⟩ u) (fun k => k = T5 ∨ row = some k) := by
  have C1 : Chg w w' (fun k => row = some k) := (Chg.refl w _).grown hg (fun k hk _ => hk)
  have S1 := S.turn C1 (fun k h => by have := hr k h; omega)
  obtain ⟨S2, C2⟩ := S1.set i u
  exact ⟨S1.b5, S2, (C1.mono (fun _ _ h => .inr h)).trans' C2 (fun _ _ h => .inl h)⟩
end

theorem six_sets {X : World} {T : Nat} {a0 a1 a2 a3 a4 a5 : Value} (b : Box X T 27 #[a0, a1, a2, a3, a4, a5]) (b0 b1 b2 b3 b4 b5 : Value) :
    Box ((((((X.setCell ⟨T, 0, none⟩ b0).setCell ⟨T, 1, none⟩ b1).setCell ⟨T, 2, none⟩ b2).setCell ⟨T, 3, none⟩ b3).setCell ⟨T, 4, none⟩ b4).setCell ⟨T, 5, none⟩ b5) T 27 #[b0, b1, b2, b3, b4, b5] ∧
    Chg X ((((((X.setCell ⟨T, 0, none⟩ b0).setCell ⟨T, 1, none⟩ b1).setCell ⟨T, 2, none⟩ b2).setCell ⟨T, 3, none⟩ b3).setCell ⟨T, 4, none⟩ b4).setCell ⟨T, 5, none⟩ b5) (fun k => k = T) :=
  ⟨(((((b.set 0 b0).set 1 b1).set 2 b2).set 3 b3).set 4 b4).set 5 b5, ((((((Chg.refl X (fun k => k = T)).setCell (p := ⟨T, 0, none⟩) (fun _ => rfl) _).setCell (p := ⟨T, 1, none⟩) (fun _ => rfl) _).setCell (p := ⟨T, 2, none⟩) (fun _ => rfl) _).setCell (p := ⟨T, 3, none⟩) (fun _ => rfl) _).setCell (p := ⟨T, 4, none⟩) (fun _ => rfl) _).setCell (p := ⟨T, 5, none⟩) (fun _ => rfl) _⟩
theorem flat_nil_take {α : Type} (l : List α) (k : Nat) (h : l.length ≤ k) (f : α → List Int) (t : List Int) : l.take k = l ∧ (l.drop k).flatMap f ++ t = t := by
  rw [List.take_of_length_le h, List.drop_of_length_le h]
  exact ⟨rfl, rfl⟩
theorem partB_eq (p : PartD) (t : List Int) : partB p ++ t = fourB (p.name.size : Int) ++ (fourB p.pages ++ (fourB p.action ++ (nameL p.name ++ t))) := by
  unfold partB
  rw [nums_cons, nums_cons, nums_cons, show nums [] = ([] : List Int) from rfl]
  simp only [List.append_assoc, List.nil_append]
theorem chanB_eq (x : ChanD) (t : List Int) : chanB x ++ t = fourB x.kind ++ (fourB x.src ++ (fourB x.dst ++ (fourB x.size ++ (fourB x.depth ++ t)))) := by
  unfold chanB
  rw [nums_cons, nums_cons, nums_cons, nums_cons, nums_cons, show nums [] = ([] : List Int) from rfl]
  simp only [List.append_assoc, List.nil_append]
theorem winB_eq (x : WinD) (t : List Int) : winB x ++ t = fourB x.start ++ (fourB x.len ++ (fourB x.part ++ t)) := by
  unfold winB
  rw [nums_cons, nums_cons, nums_cons, show nums [] = ([] : List Int) from rfl]
  simp only [List.append_assoc, List.nil_append]
theorem rf_conv {u : World} {gb o c p k2 : Nat} {bs : List Int} (L : Lst u (some ⟨gb, o, none⟩) bs.length c (u8s bs) 1) (hp : p + k2 ≤ bs.length) : ∀ m : Nat, (convert 59 9 (.slice (some ⟨gb, o + p, none⟩) k2 (c - p))).run Try.prog (u.drewN m) = .ok (.string (strOfNums ((bs.drop p).take k2))) (u.drewN m) := fun m => by
  have sD := src_dropU L.src (show p ≤ bs.length by omega) (c - p)
  rw [← List.length_drop] at sD
  have sT := src_takeU sD (n := k2) (by rw [List.length_drop]; omega) (fun h => (by cases h)) (c - p) (fun h => (by cases h))
  exact conv_src (u.drewN m) (sT.drewN m)
theorem rf_facts {len pd k2 c : Nat} (h1 : pd ≤ len) (h2 : len ≤ 5000) (h3 : len < c) (h4 : (k2 : Int) ≤ (len : Int) - (pd : Int)) : wrap64 ((pd : Int) + (k2 : Int)) = (pd : Int) + (k2 : Int) ∧ (pd : Int) + (k2 : Int) ≤ (c : Int) ∧ ¬ c = pd ∧ pd + k2 ≤ len ∧ k2 ≤ 5000 ∧ IntKind.i64.wrap ((pd : Int) + (k2 : Int)) = (pd : Int) + (k2 : Int) ∧ (0 : Int) ≤ (pd : Int) + (k2 : Int) ∧ ((pd : Int) + (k2 : Int)).toNat = pd + k2 :=
  ⟨IntWalk.wrap64_in _ (by omega), by omega, by omega, by omega, by omega, by rw [IntKind.wrap_i64]; omega, by omega, by omega⟩
theorem rf_size {xs : List Int} {nm : ByteArray} {k : Nat} (h : strOfNums (xs.take k) = nm) (hk : k ≤ 5000) : nm.size ≤ 5000 := by
  rw [← h, size_strOfNums, List.length_take]
  omega
theorem flat_drop {α : Type} (l : List α) (k : Nat) (h : k < l.length) (f : α → List Int) (t : List Int) : (l.drop k).flatMap f ++ t = f l[k] ++ ((l.drop (k + 1)).flatMap f ++ t) := by
  rw [List.drop_eq_getElem_cons h, List.flatMap_cons, List.append_assoc]

theorem rcpack_ok_at {C : Cfg} {ap ac aw : Option Addr} {cp cc cw : Nat} {w : World} (h : CfgAt w C ap ac aw cp cc cw) (hv : chk C = 0) {pg mj sw : Int} {a b c : Nat} (h1 : C.pages = pg) (h2 : C.major = mj) (h3 : C.switch = sw) (ha : C.parts.length = a) (hb : C.chans.length = b) (hc : C.wins.length = c) {P : List Int} (hP : packC C = P) :
    Calls Try.prog 37 #[.agg #[.int .i64 pg, .int .i64 mj, .int .i64 sw, .slice ap a cp, .slice ac b cc, .slice aw c cw]] w fun e w' => ∃ ao cap, e = .returned (.tuple #[.slice ao P.length cap, .int .i64 0]) ∧ w'.ownsRow w.heap.size 5 1 (.slice ao P.length cap) P.length (u8s P) ∧ Chg w w' (fun _ => False) := by
  subst h1 h2 h3 ha hb hc hP
  exact rcpack_ok w h hv
theorem rcpack_bad_at {C : Cfg} {ap ac aw : Option Addr} {cp cc cw : Nat} {w : World} (h : CfgAt w C ap ac aw cp cc cw) {v : Int} (hv : chk C = v) (h0 : ¬ v = 0) {pg mj sw : Int} {a b c : Nat} (h1 : C.pages = pg) (h2 : C.major = mj) (h3 : C.switch = sw) (ha : C.parts.length = a) (hb : C.chans.length = b) (hc : C.wins.length = c) :
    Calls Try.prog 37 #[.agg #[.int .i64 pg, .int .i64 mj, .int .i64 sw, .slice ap a cp, .slice ac b cc, .slice aw c cw]] w fun e w' => e = .returned (.tuple #[.slice none 0 0, .int .i64 v]) ∧ Chg w w' (fun _ => False) := by
  subst h1 h2 h3 ha hb hc hv
  exact rcpack_bad w h h0

/-- What the bytes say, if they are a configuration's. -/
theorem good_of (xs : List Int) : ∃ (g : Bool) (K : Cfg), (g = true → chk K = 0 ∧ packC K = xs) ∧ (g = false → ∀ C, chk C = 0 → packC C ≠ xs) := by
  rcases unV_form xs with ⟨C, h1, h2, _⟩ | h
  · exact ⟨true, C, fun _ => ⟨h1, h2⟩, fun h => by cases h⟩
  · refine ⟨false, zeroC, fun h => (by cases h), fun _ C h1 h2 => ?_⟩
    have := unV_pack h1
    rw [h2, h] at this
    injection this with _ h3
    exact absurd h3 (by decide)
theorem unV_no {xs : List Int} (h : ∀ C, chk C = 0 → packC C ≠ xs) : unV xs = (zeroC, 4) := by
  rcases unV_form xs with ⟨C, h1, h2, _⟩ | h'
  · exact absurd h2 (h C h1)
  · exact h'
theorem good_head {K : Cfg} {xs : List Int} (h : packC K = xs) : xs.take (xs.length - 4) = headC K ∧ 24 ≤ xs.length := by
  have e : xs = headC K ++ fourB (sumI (headC K) % 4294967296) := h.symm
  have hl : xs.length = (headC K).length + 4 := by rw [e, List.length_append, fourB_len]
  have h2 : 20 ≤ (headC K).length := by
    have := congrArg List.length (headC_eq K [])
    rw [List.append_nil] at this
    rw [this]
    simp only [List.length_append, fourB_len]
    simp [magic]
    omega
  refine ⟨?_, by omega⟩
  rw [hl, Nat.add_sub_cancel, e, List.take_left]

def URst (w w' : World) (xs : List Int) (e : Ending) : Prop :=
  ∃ C x ap ac aw cp cc cw, unV xs = (C, x) ∧ e = .returned (.tuple #[.agg (cfgCells C ap ac aw cp cc cw), .int .i64 x]) ∧ CfgAt w' C ap ac aw cp cc cw ∧ Chg w w' (fun _ => False)


set_option maxRecDepth 100000 in
set_option maxHeartbeats 16000000 in
theorem runpack_any {ao : Option Addr} {c : Nat} {xs : List Int} (w : World) (hs : Lst w ao xs.length c (u8s xs) 1) (hx : bytesOk xs) (ha : ∀ ad, ao = some ad → 0 < xs.length → ad.block < w.heap.size) (hxl : xs.length ≤ 5000) :
    Calls Try.prog 41 #[.slice ao xs.length c] w fun e w' => URst w w' xs e := by
  obtain ⟨i0, hi0, hz0, hz1, hz2⟩ := info_parts info_part
  obtain ⟨i2, hi2, hy0, hy1, hy2⟩ := info_parts info_chan
  obtain ⟨i3, hi3, hx0, hx1, hx2⟩ := info_parts info_win
  obtain ⟨g, K, hg1, hg2⟩ := good_of xs
  have hmx := hs.mx
  have hle := hs.le
  unfold maxLen at hmx
  obtain ⟨wa, hwa⟩ : ∃ wa, w.alloc (.cells #[.int .i64 0, .int .i64 0, .int .i64 0, .slice none 0 0, .slice none 0 0, .slice none 0 0] 27) = wa := ⟨_, rfl⟩
  have Ca : Chg w wa (fun _ => False) := by rw [← hwa]; exact (Chg.refl w _).alloc _
  have B2 := Box.new w 27 #[.int .i64 0, .int .i64 0, .int .i64 0, .slice none 0 0, .slice none 0 0, .slice none 0 0]
  rw [hwa] at B2
  have HRES : Hid (∀ (tm : Array Value) (W : World) (n : Int) (a0 a1 a2 a3 a4 a5 : Value), tm.getD 2 undef = .pointer (some ⟨w.heap.size, 0, none⟩) → tm.getD 3 undef = .int .i64 n → Box W w.heap.size 27 #[a0, a1, a2, a3, a4, a5] → (results Try.f41 tm).run Try.prog W = .ok (.tuple #[.agg #[a0, a1, a2, a3, a4, a5], .int .i64 n]) W) := fun tm W n a0 a1 a2 a3 a4 a5 ht hn bx => by
    have ht2 : tm[2]?.getD undef = .pointer (some ⟨w.heap.size, 0, none⟩) := by rw [← ht]; simp
    have ht3 : tm[3]?.getD undef = .int .i64 n := by rw [← hn]; simp
    have y0 : W.cell? ⟨w.heap.size, 0, none⟩ = some a0 := bx.cell 0
    have y1 : W.cell? ⟨w.heap.size, 1, none⟩ = some a1 := bx.cell 1
    have y2 : W.cell? ⟨w.heap.size, 2, none⟩ = some a2 := bx.cell 2
    have y3 : W.cell? ⟨w.heap.size, 3, none⟩ = some a3 := bx.cell 3
    have y4 : W.cell? ⟨w.heap.size, 4, none⟩ = some a4 := bx.cell 4
    have y5 : W.cell? ⟨w.heap.size, 5, none⟩ = some a5 := bx.cell 5
    simp [results, Try.results41, go_sem, ht2, ht3, y0, y1, y2, y3, y4, y5]
  have SA := hs.chg Ca (fun _ _ h => h)
  have z0 := B2.frozen 0
  have z1 := B2.frozen 1
  have z2 := B2.frozen 2
  have z3 := B2.frozen 3
  have z4 := B2.frozen 4
  have z5 := B2.frozen 5
  have q0 := B2.cell 0
  have q1 := B2.cell 1
  have q2 := B2.cell 2
  have q3 := B2.cell 3
  have q4 := B2.cell 4
  have q5 := B2.cell 5
  -- the ends that tell nothing
  have HEND : Hid (∀ (W : World) (tm : Array Value), Box W w.heap.size 27 #[.int .i64 0, .int .i64 0, .int .i64 0, .slice none 0 0, .slice none 0 0, .slice none 0 0] → Chg w W (fun _ => False) → tm.getD 2 undef = .pointer (some ⟨w.heap.size, 0, none⟩) → tm.getD 3 undef = .int .i64 4 → g = false → bodyPost Try.prog Try.f41 (fun e w' => URst w w' xs e) Exit.ret { tmps := tm, defers := [] } W) := fun W tm bx C ht hn hgf =>
    ⟨rfl, _, HRES.out tm W 4 _ _ _ _ _ _ ht hn bx, zeroC, 4, none, none, none, 0, 0, 0, unV_no (hg2 hgf), rfl, ⟨Lst.none _ _, Lst.none _ _, Lst.none _ _, fun p hp => (by cases hp)⟩, C⟩
  by_cases hshort : xs.length < 8
  · have hgf : g = false := by
      cases g with
      | false => rfl
      | true => have := (good_head (hg1 rfl).2).2; omega
    go_enter Try.func41, Try.ntmps41
    go_wp2_with fail
    obtain ⟨E1, E2⟩ := six_sets B2 (.int .i64 0) (.int .i64 0) (.int .i64 0) (.slice none 0 0) (.slice none 0 0) (.slice none 0 0)
    exact HEND.out _ _ E1 (Ca.trans' E2 (fun k hk h => by omega)) rfl rfl hgf
  obtain ⟨gb, ob, rfl⟩ := hs.pos (by omega)
  have hgw : gb < w.heap.size := ha _ rfl (by omega)
  have hI8 : ¬ ((xs.length : Int) < 8) := by omega
  have h4l : (4 : Int) ≤ (xs.length : Int) := by omega
  have s4 := src_takeU (n := 4) SA.src (by omega) (fun h => (by cases h)) c (fun h => (by cases h))
  have hcv := conv_src wa s4
  have hml : (strOfNums magic).toList = [84, 82, 67, 49] := by rw [Lib.strOfNums_toList]; rfl
  have hstr : ((strOfNums (xs.take 4)).toList == [84, 82, 67, 49]) = decide (xs.take 4 = magic) := by
    rw [← hml]
    exact str_beq (ys := magic) (bytesOk_take hx 4) rngB_magic
  by_cases hm : xs.take 4 = magic
  rotate_left
  · rw [decide_eq_false hm] at hstr
    go_enter Try.func41, Try.ntmps41
    go_wp2_with fail
    have hgf : g = false := by
      cases g with
      | false => rfl
      | true =>
        exfalso
        have h1 := (good_head (hg1 rfl).2).1
        have h2 : xs.take 4 = (xs.take (xs.length - 4)).take 4 := by rw [List.take_take]; congr 1; omega
        rw [h1, ← List.append_nil (headC K), headC_eq] at h2
        exact hm (h2.trans rfl)
    obtain ⟨E1, E2⟩ := six_sets B2 (.int .i64 0) (.int .i64 0) (.int .i64 0) (.slice none 0 0) (.slice none 0 0) (.slice none 0 0)
    exact HEND.out _ _ E1 (Ca.trans' E2 (fun k hk h => by omega)) rfl rfl hgf
  rw [decide_eq_true hm] at hstr
  go_enter Try.func41, Try.ntmps41
  go_upto_region 5 with fail
  have h8x : 8 ≤ xs.length := by omega
  clear hcv hstr s4 hml hI8 h4l hwa q0 q1 q2 q3 q4 q5 z0 z1 z2 z3 z4 z5 hshort hm
  obtain ⟨wb, hwb⟩ : ∃ W, (wa.alloc (.cells #[.slice (some ⟨gb, ob, none⟩) (xs.length - 4) c, .int .i64 4, .bool false] 115)).alloc (.cells #[.int .i64 0, .int .i64 0, .int .i64 0, .slice none 0 0, .slice none 0 0, .slice none 0 0] 27) = W := ⟨_, rfl⟩
  have Cb : Chg wa wb (fun _ => False) := by rw [← hwb]; exact ((Chg.refl wa _).alloc _).alloc _
  have BR : Box wb wa.heap.size 115 #[.slice (some ⟨gb, ob, none⟩) (xs.length - 4) c, .int .i64 4, .bool false] := by rw [← hwb]; exact (Box.new wa _ _).alloc _
  have B5 : Box wb (wa.heap.size + 1) 27 #[.int .i64 0, .int .i64 0, .int .i64 0, .slice none 0 0, .slice none 0 0, .slice none 0 0] := by
    have := Box.new (wa.alloc (.cells #[.slice (some ⟨gb, ob, none⟩) (xs.length - 4) c, .int .i64 4, .bool false] 115)) 27 #[.int .i64 0, .int .i64 0, .int .i64 0, .slice none 0 0, .slice none 0 0, .slice none 0 0]
    rw [World.size_alloc, hwb] at this
    exact this
  have hws : w.heap.size < wa.heap.size := B2.lt
  have hsa4 := SA
  obtain ⟨bs, hbs⟩ : ∃ bs, xs.take (xs.length - 4) = bs := ⟨_, rfl⟩
  have hbl : bs.length = xs.length - 4 := by rw [← hbs, List.length_take]; omega
  have LB : Lst wb (some ⟨gb, ob, none⟩) bs.length c (u8s bs) 1 := by
    have h1 := src_takeU (n := xs.length - 4) (hs.chg (Ca.trans Cb) (fun _ _ h => h)).src (by omega) (fun h => (by cases h)) c (fun h => (by cases h))
    rw [hbs] at h1
    rw [hbl]
    exact ⟨h1, fun _ => ⟨gb, ob, rfl⟩, by omega, hs.mx⟩
  have S : RuSt w wb wa.heap.size gb w.heap.size (wa.heap.size + 1) bs 4 false #[.int .i64 0, .int .i64 0, .int .i64 0, .slice none 0 0, .slice none 0 0, .slice none 0 0] := by
    refine ⟨⟨⟨ob, c, by rw [hbl]; exact BR, LB, by omega⟩, by omega, by omega, by omega, ?_, ?_⟩, B2.chg Cb (fun h => h), B5, Ca.trans Cb, Nat.le_refl _, hws, Nat.lt_succ_self _, hgw⟩
    · have := (Ca.trans Cb).size; omega
    · rw [← hbs]; exact bytesOk_take hx _
  -- what is to be read
  obtain ⟨t8, ht8⟩ : ∃ t, K.wins.flatMap winB ++ ([] : List Int) = t := ⟨_, rfl⟩
  obtain ⟨t7, ht7⟩ : ∃ t, fourB (K.wins.length : Int) ++ t8 = t := ⟨_, rfl⟩
  obtain ⟨t6, ht6⟩ : ∃ t, K.chans.flatMap chanB ++ t7 = t := ⟨_, rfl⟩
  obtain ⟨t5, ht5⟩ : ∃ t, fourB (K.chans.length : Int) ++ t6 = t := ⟨_, rfl⟩
  obtain ⟨t4, ht4⟩ : ∃ t, K.parts.flatMap partB ++ t5 = t := ⟨_, rfl⟩
  obtain ⟨t3, ht3⟩ : ∃ t, fourB (K.parts.length : Int) ++ t4 = t := ⟨_, rfl⟩
  obtain ⟨t2, ht2⟩ : ∃ t, fourB K.switch ++ t3 = t := ⟨_, rfl⟩
  obtain ⟨t1, ht1⟩ : ∃ t, fourB K.major ++ t2 = t := ⟨_, rfl⟩
  obtain ⟨bad0, hb0⟩ : ∃ b, false = b := ⟨_, rfl⟩
  rw [hb0] at S
  have HG0 : Hid (g = true → bad0 = false ∧ bs.drop 4 = fourB K.pages ++ t1) := fun hg => by
    refine ⟨hb0.symm, ?_⟩
    rw [← hbs, (good_head (hg1 hg).2).1, ← List.append_nil (headC K), headC_eq, ht8, ht7, ht6, ht5, ht4, ht3, ht2, ht1]
    rfl
  have HNK : Hid (g = true → Nums K) := fun hg => nums_of (hg1 hg).1
  have H1 := Lib.hid ht1
  have H2 := Lib.hid ht2
  have H3 := Lib.hid ht3
  have H4 := Lib.hid ht4
  have H5 := Lib.hid ht5
  have H6 := Lib.hid ht6
  have H7 := Lib.hid ht7
  have H8 := Lib.hid ht8
  have HG1 := Lib.hid hg1
  have HG2 := Lib.hid hg2
  obtain ⟨r, hr⟩ : ∃ r, wa.heap.size = r := ⟨_, rfl⟩
  rw [hr] at S
  obtain ⟨T5, hT5⟩ : ∃ T, r + 1 = T := ⟨_, rfl⟩
  rw [hT5] at S
  obtain ⟨T2, hT2⟩ : ∃ T, w.heap.size = T := ⟨_, rfl⟩
  rw [hT2] at S HRES HEND
  simp only [hwb, hr, hT5, hT2]
  have HSZ := Lib.hid hT2
  have HSX := Lib.hid hs
  clear ht1 ht2 ht3 ht4 ht5 ht6 ht7 ht8 hg1 hg2 BR B5 LB hsa4 Cb Ca B2 SA hwb hws hr hT5 hT2 hs ha hb0
  go_wp2_with fail
  refine (rn_any _ S.rd).mono ?_
  rintro e w1 ⟨pg, p1, bad1, rfl, hwpg, Rnpg, Cnpg, hgnpg⟩
  have Sa := S.num Rnpg Cnpg
  have HA1 : Hid (g = true → pg = K.pages ∧ bad1 = false ∧ bs.drop p1 = t1) := fun hg => hgnpg _ _ ((HNK.out hg).pg) (HG0.out hg).1 (HG0.out hg).2
  clear Rnpg hgnpg
  have fz := Sa.b5.frozen 0
  have fc := Sa.b5.cell 0
  have Sb : RuSt w (w1.setCell ⟨T5, 0, none⟩ (.int .i64 pg)) r gb T2 T5 bs _ _ #[.int .i64 pg, .int .i64 0, .int .i64 0, .slice none 0 0, .slice none 0 0, .slice none 0 0] := (Sa.set 0 _).1
  have HB1 : Hid (g = true → bad1 = false ∧ bs.drop p1 = fourB K.major ++ t2) := fun hg => ⟨(HA1.out hg).2.1, by rw [(HA1.out hg).2.2, ← H1.out]⟩
  clear S Sa HG0 Cnpg
  go_wp2_with fail
  refine (rn_any _ Sb.rd).mono ?_
  rintro e w2 ⟨mj, p2, bad2, rfl, hwmj, Rnmj, Cnmj, hgnmj⟩
  have Sc := Sb.num Rnmj Cnmj
  have HA2 : Hid (g = true → mj = K.major ∧ bad2 = false ∧ bs.drop p2 = t2) := fun hg => hgnmj _ _ ((HNK.out hg).mj) (HB1.out hg).1 (HB1.out hg).2
  clear Rnmj hgnmj
  clear fz fc
  have fz := Sc.b5.frozen 1
  have fc := Sc.b5.cell 1
  have Sd : RuSt w (w2.setCell ⟨T5, 1, none⟩ (.int .i64 mj)) r gb T2 T5 bs _ _ #[.int .i64 pg, .int .i64 mj, .int .i64 0, .slice none 0 0, .slice none 0 0, .slice none 0 0] := (Sc.set 1 _).1
  have HB2 : Hid (g = true → bad2 = false ∧ bs.drop p2 = fourB K.switch ++ t3) := fun hg => ⟨(HA2.out hg).2.1, by rw [(HA2.out hg).2.2, ← H2.out]⟩
  clear Sb Sc HB1 Cnmj
  go_wp2_with fail
  refine (rn_any _ Sd.rd).mono ?_
  rintro e w3 ⟨sw, p3, bad3, rfl, hwsw, Rnsw, Cnsw, hgnsw⟩
  have Se := Sd.num Rnsw Cnsw
  have HA3 : Hid (g = true → sw = K.switch ∧ bad3 = false ∧ bs.drop p3 = t3) := fun hg => hgnsw _ _ ((HNK.out hg).sw) (HB2.out hg).1 (HB2.out hg).2
  clear Rnsw hgnsw
  clear fz fc
  have fz := Se.b5.frozen 2
  have fc := Se.b5.cell 2
  have Sf : RuSt w (w3.setCell ⟨T5, 2, none⟩ (.int .i64 sw)) r gb T2 T5 bs _ _ #[.int .i64 pg, .int .i64 mj, .int .i64 sw, .slice none 0 0, .slice none 0 0, .slice none 0 0] := (Se.set 2 _).1
  have HB3 : Hid (g = true → bad3 = false ∧ bs.drop p3 = fourB (K.parts.length : Int) ++ t4) := fun hg => ⟨(HA3.out hg).2.1, by rw [(HA3.out hg).2.2, ← H3.out]⟩
  clear Sd Se HB2 Cnsw
  go_wp2_with fail
  refine (rn_any _ Sf.rd).mono ?_
  rintro e w4 ⟨n1, p4, bad4, rfl, hwn1, Rnn1, Cnn1, hgnn1⟩
  have Sg := Sf.num Rnn1 Cnn1
  have HA4 : Hid (g = true → n1 = (K.parts.length : Int) ∧ bad4 = false ∧ bs.drop p4 = t4) := fun hg => hgnn1 _ _ (by have := (HNK.out hg).np; exact ⟨by omega, by omega⟩) (HB3.out hg).1 (HB3.out hg).2
  clear Rnn1 hgnn1
  have HKP : Hid (g = true → pg = K.pages ∧ mj = K.major ∧ sw = K.switch) := fun hg => ⟨(HA1.out hg).1, (HA2.out hg).1, (HA3.out hg).1⟩
  clear fz fc Sf HB3 Cnn1 HA1 HA2 HA3
  have H1LR : T5 = T5 ∧ T2 < r ∧ r < T5 ∧ gb < r := ⟨rfl, Sg.l1, Sg.l2, by have := Sg.l0; have := Sg.l1; have := Sg.lg; omega⟩
  obtain ⟨-, hlA1, hlB1, hlC1⟩ := H1LR
  go_upto_block 0 with fail
  go_cut [7] (fun sX wx => ∃ l p bad v, RuSt w wx r gb T2 T5 bs p bad #[.int .i64 pg, .int .i64 mj, .int .i64 sw, v, .slice none 0 0, .slice none 0 0] ∧ wx.ownsRow (T5 + 1) 30 3 v l.length (l.flatMap partCells) ∧ l.length ≤ 9 ∧ (∀ p ∈ l, p.name.size ≤ 5000) ∧ Hid (g = true → bad = false ∧ l = K.parts ∧ bs.drop p = t5))
  case first =>
    go_wp2_with fail
    go_loopg [7] 9 (fun gg s wx => ∃ k : Nat, ∃ l p bad v, gg + k = 9 ∧ s = .int .i64 k ∧ l.length = k ∧ RuSt w wx r gb T2 T5 bs p bad #[.int .i64 pg, .int .i64 mj, .int .i64 sw, v, .slice none 0 0, .slice none 0 0] ∧ wx.ownsRow (T5 + 1) 30 3 v l.length (l.flatMap partCells) ∧ (∀ p ∈ l, p.name.size ≤ 5000) ∧ Hid (g = true → bad = false ∧ k ≤ K.parts.length ∧ l = K.parts.take k ∧ bs.drop p = (K.parts.drop k).flatMap partB ++ t5))
    case atStart => exact ⟨0, [], _, _, _, rfl, rfl, rfl, Sg, World.ownsRow_nil _ _ _ _, fun p hp => (by cases hp), fun hg => ⟨(HA4.out hg).2.1, Nat.zero_le _, rfl, by rw [(HA4.out hg).2.2, ← H4.out]; rfl⟩⟩
    case round =>
      obtain ⟨k, l, p, bad, v, hk, rfl, hlk, S, O, hnm, HX⟩ := hrel
      have HK := Lib.hid hk
      obtain ⟨oR, cR, bxR, LR, hcR⟩ := S.rd.st
      have y2 := bxR.cell 2
      have hpl := S.rd.le
      have hpm := S.rd.max
      have hk0 : (0 : Int) ≤ (k : Int) := by omega
      have hl9 : l.length ≤ 9 := by omega
      by_cases hc : (k : Int) < n1 ∧ bad = false ∧ k < 9
      rotate_left
      · have HXX : Hid (g = true → bad = false ∧ l = K.parts ∧ bs.drop p = t5) := fun hg => by
          obtain ⟨e1, e2, e3, e4⟩ := HX.out hg
          have e5 := (HA4.out hg).1
          have e6 := (HNK.out hg).np
          have e7 : K.parts.length ≤ k := by
            rcases Nat.lt_or_ge k K.parts.length with h | h
            · exact absurd ⟨by omega, e1, by omega⟩ hc
            · exact h
          obtain ⟨f1, f2⟩ := flat_nil_take K.parts k e7 partB t5
          exact ⟨e1, by rw [e3, f1], by rw [e4, f2]⟩
        clear LR
        by_cases c1 : (k : Int) < n1
        · cases bad with
          | true =>
            clear hc HX hk
            go_wp2_with fail
            go_meet
            exact ⟨l, p, true, v, S, O, hl9, hnm, HXX⟩
          | false =>
            have c3 : ¬ k < 9 := fun h => hc ⟨c1, rfl, h⟩
            have c4 : ¬ ((k : Int) < 9) := by omega
            clear hc HX hk c3
            go_wp2_with fail
            go_meet
            exact ⟨l, p, false, v, S, O, hl9, hnm, fun hg => ⟨rfl, (HXX.out hg).2⟩⟩
        · clear hc HX hk
          go_wp2_with fail
          go_meet
          exact ⟨l, p, bad, v, S, O, hl9, hnm, HXX⟩
      obtain ⟨c1, rfl, c3⟩ := hc
      have c4 : (k : Int) < 9 := by omega
      have hl9s : l.length < 9 := by omega
      have HOO := Lib.hid O
      have HLK := Lib.hid hlk
      have HNM := Lib.hid hnm
      obtain ⟨pk, HPK⟩ : ∃ pk, Hid (g = true → pk ∈ K.parts ∧ bs.drop p = partB pk ++ ((K.parts.drop (k + 1)).flatMap partB ++ t5) ∧ K.parts.take (k + 1) = K.parts.take k ++ [pk] ∧ k + 1 ≤ K.parts.length ∧ l = K.parts.take k) := ⟨K.parts.getD k ⟨ByteArray.empty, 0, 0⟩, fun hg => by
        have e5 := (HA4.out hg).1
        obtain ⟨-, -, e7, e6⟩ := HX.out hg
        have h : k < K.parts.length := by omega
        have e8 : K.parts.getD k ⟨ByteArray.empty, 0, 0⟩ = K.parts[k] := by rw [List.getD_eq_getElem?_getD, List.getElem?_eq_getElem h]; rfl
        rw [e8]
        exact ⟨List.getElem_mem h, by rw [e6, flat_drop K.parts k h], by rw [List.take_succ_eq_append_getElem h], h, e7⟩⟩
      obtain ⟨tn, htn⟩ : ∃ t, (K.parts.drop (k + 1)).flatMap partB ++ t5 = t := ⟨_, rfl⟩
      rw [htn] at HPK
      have HTN := Lib.hid htn
      have hS := S.l0
      clear hk hlk LR O hnm  bxR HX htn
      go_wp2_with fail
      refine (rn_any _ S.rd).mono ?_
      rintro e u1 ⟨nl, pa, ba, rfl, hwnl, Rnnl, Cnnl, hgnnl⟩
      have S1 := S.num Rnnl Cnnl
      have E1 : Hid (g = true → nl = (pk.name.size : Int) ∧ ba = false ∧ bs.drop pa = fourB pk.pages ++ (fourB pk.action ++ (nameL pk.name ++ tn))) := fun hg => hgnnl _ _ (by have := ((HNK.out hg).ps pk (HPK.out hg).1).1; exact ⟨by omega, by omega⟩) (rfl) (by rw [(HPK.out hg).2.1, partB_eq])
      clear Rnnl hgnnl
      obtain ⟨v1, hv1⟩ : ∃ W, u1.alloc (.cells #[.string ⟨#[]⟩, .int .i64 0, .int .i64 0] 30) = W := ⟨_, rfl⟩
      have Cv : Chg u1 v1 (fun _ => False) := by rw [← hv1]; exact (Chg.refl u1 _).alloc _
      have BP := Box.new u1 30 #[.string ⟨#[]⟩, .int .i64 0, .int .i64 0]
      rw [hv1] at BP
      have S1v := S1.keep Cv
      have hPT := S1.b5.lt
      have hO1 := Lib.hid (own_chg HOO.out Cnnl (fun j hj h => by have := (HOO.out.lt j hj).1; omega))
      have hPO : Hid (∀ j, v.ownBlock = some j → j < u1.heap.size) := fun j hj => (hO1.out.lt j hj).2
      go_wp2_with fail
      refine (rn_any _ S1v.rd).mono ?_
      rintro e u2 ⟨pp, pb, bb, rfl, hwpp, Rnpp, Cnpp, hgnpp⟩
      have S2 := S1v.num Rnpp Cnpp
      have E2 : Hid (g = true → pp = pk.pages ∧ bb = false ∧ bs.drop pb = fourB pk.action ++ (nameL pk.name ++ tn)) := fun hg => hgnpp _ _ (((HNK.out hg).ps pk (HPK.out hg).1).2.1) ((E1.out hg).2.1) ((E1.out hg).2.2)
      clear Rnpp hgnpp
      obtain ⟨P, hP⟩ : ∃ P, u1.heap.size = P := ⟨_, rfl⟩
      rw [hP] at BP hPT hPO
      have hPr : ¬ P = r := by omega
      have BP2 := BP.chg Cnpp hPr
      have k1 := BP2.cell 1
      have k2 := BP2.frozen 1
      have CP2 : Chg u2 (u2.setCell ⟨P, 1, none⟩ (.int .i64 pp)) (fun j => j = P) := (Chg.refl u2 (fun j => j = P)).setCell (p := ⟨P, 1, none⟩) (fun _ => rfl) _
      have BP2s : Box _ P 30 #[.string ⟨#[]⟩, .int .i64 pp, .int .i64 0] := BP2.set 1 (.int .i64 pp)
      have S2s := S2.turn CP2 (fun j h => by omega)
      clear hv1
      go_wp2_with fail
      refine (rn_any _ S2s.rd).mono ?_
      rintro e u3 ⟨pc, pd, bc, rfl, hwpc, Rnpc, Cnpc, hgnpc⟩
      have S3 := S2s.num Rnpc Cnpc
      have E3 : Hid (g = true → pc = pk.action ∧ bc = false ∧ bs.drop pd = nameL pk.name ++ tn) := fun hg => hgnpc _ _ (((HNK.out hg).ps pk (HPK.out hg).1).2.2) ((E2.out hg).2.1) ((E2.out hg).2.2)
      clear Rnpc hgnpc
      clear k1 k2
      have BP3 := BP2s.chg Cnpc hPr
      have k1 := BP3.cell 2
      have k2 := BP3.frozen 2
      have CP3 : Chg u3 (u3.setCell ⟨P, 2, none⟩ (.int .i64 pc)) (fun j => j = P) := (Chg.refl u3 (fun j => j = P)).setCell (p := ⟨P, 2, none⟩) (fun _ => rfl) _
      have BP3s : Box _ P 30 #[.string ⟨#[]⟩, .int .i64 pp, .int .i64 pc] := BP3.set 2 (.int .i64 pc)
      have S3s := S3.turn CP3 (fun j h => by omega)
      go_upto_region 16 with fail
      obtain ⟨u4, hu4⟩ : ∃ W, u3.setCell ⟨P, 2, none⟩ (.int .i64 pc) = W := ⟨_, rfl⟩
      rw [hu4] at CP3 BP3s S3s
      rw [hu4]
      have O4 := own_chg (own_chg (own_chg (own_chg (own_chg hO1.out Cv (fun _ _ h => h)) Cnpp (fun j hj h => by have := (HOO.out.lt j hj).1; omega)) CP2 (fun j hj h => by have := hPO.out j hj; omega)) Cnpc (fun j hj h => by have := (HOO.out.lt j hj).1; omega)) CP3 (fun j hj h => by have := hPO.out j hj; omega)
      have HO4 := Lib.hid O4
      clear hu4 k1 k2 BP BP2 BP2s BP3 S S1 S1v S2 S2s S3 Cnnl Cv Cnpp CP2 Cnpc CP3 O4 hO1 HOO hwpp hwpc
      obtain ⟨k2, rfl⟩ := Int.eq_ofNat_of_zero_le hwnl.1
      obtain ⟨o4, c4', bx4, L4, hc4⟩ := S3s.rd.st
      have hp4 := S3s.rd.le
      have r0 := bx4.cell 0
      have r1 := bx4.cell 1
      have r2 := bx4.frozen 2
      have hsub : wrap64 ((bs.length : Int) - (pd : Int)) = (bs.length : Int) - (pd : Int) := IntWalk.wrap64_in _ (by omega)
      by_cases hfit : (bs.length : Int) - (pd : Int) < (k2 : Int)
      · have rc2 := bx4.cell 2
        have HNO : g = true → False := fun hg => by
          have e1 := (E1.out hg).1
          have e2 := congrArg List.length (E3.out hg).2.2
          rw [List.length_drop, List.length_append, nameL_len] at e2
          omega
        have HNOH := Lib.hid HNO
        clear HNO
        go_wp2_with fail
        go_quiet (fail)
        go_wp2_with fail
        go_meet
        have Cq : Chg u4 ((u4.drewN nq).setCell ⟨r, 2, none⟩ (.bool true)) (fun j => j = r) := ((Chg.refl u4 (fun j => j = r)).drewN nq).setCell (p := ⟨r, 2, none⟩) (fun _ => rfl) _
        have Rq : RfAt ((u4.drewN nq).setCell ⟨r, 2, none⟩ (.bool true)) r gb bs pd true := ⟨⟨o4, c4', (bx4.drewN nq).set 2 _, L4.chg Cq (fun ad e h => by cases e; exact S3s.rd.ne h), hc4⟩, hp4, S3s.rd.max, S3s.rd.ne, Nat.lt_of_lt_of_le S3s.rd.lt Cq.size, S3s.rd.rng⟩
        exact ⟨l, pd, true, v, S3s.num Rq Cq, own_chg HO4.out Cq (fun j hj h => by have := (HO4.out.lt j hj).1; omega), hl9, HNM.out, fun hg => (HNOH.out hg).elim⟩
      · have hfit2 : (k2 : Int) ≤ (bs.length : Int) - (pd : Int) := by omega
        have HF2 := Lib.hid hfit2
        clear hfit
        go_wp2_with fail
        go_quiet (fail)
        go_wp2_with fail
        rename Nat => nqa
        clear hfit2 hsub
        obtain ⟨hadd, hpc4, hnc, hpk, hk5, haddN, hA0, hTN⟩ := rf_facts hp4 hpm hc4 HF2.out
        obtain ⟨nm, hnm⟩ : ∃ nm, strOfNums ((bs.drop pd).take k2) = nm := ⟨_, rfl⟩
        have hcv := rf_conv L4 (p := pd) (k2 := k2) hpk
        rw [hnm] at hcv
        have hnsz : nm.size ≤ 5000 := rf_size hnm hk5
        have HNMX := Lib.hid hnm
        have k3 := BP3s.cell 0
        have k4 := BP3s.frozen 0
        have r3 := bx4.frozen 1
        have hPr2 : ¬ r = P := fun h => hPr h.symm
        clear hnm
        clear hpk hk5 hPr hpl hpm hlA1 hlB1 hlC1 hS
        have HLS := Lib.hid (And.intro hl9s (And.intro c1 (And.intro c3 c4)))
        have HPT := Lib.hid hPT
        have HP4 := Lib.hid hp4
        clear c1 c3 c4 hl9 hl9s hwnl hPT hp4 hc4
        try clear hxl
        try clear h8x
        try clear hbl
        try clear hmx
        try clear hle
        try clear hgw
        try clear hw1
        try clear hI8
        try clear rc2
        try clear r2
        try clear hwpg
        try clear hwmj
        try clear hwsw
        try clear hwn1
        try clear hcR
        try clear y2
        refine wp_region_noPanic ?_
        refine wp_region_L 14 (fun w' => w'.cell? ⟨r, 0, none⟩ = some (.slice (some ⟨gb, o4, none⟩) bs.length c4') ∧ w'.cell? ⟨r, 1, none⟩ = some (.int .i64 (pd : Int))) (by kernel_rfl) (⟨r0, r1⟩) (fun hHeld => ?_)
        refine wpAnyL_take (i := 0) (oi := ?oim0) (v := ?vm0) ?him0 (by kernel_rfl) (by kernel_rfl) (by kernel_rfl) (by kernel_rfl) (fun _ _ _ h => h) (Or.inl ⟨?hwm0, ?hym0⟩) (by assumption) ?hrm0
        case him0 => simp only [List.getElem?_toArray, List.getElem?_cons_succ, List.getElem?_cons_zero]; rfl
        case hwm0 => rfl
        case hym0 => intro wq hSq; (try dsimp only at hSq); go_simp; (try with_reducible rfl)
        try simp only [Act.put, List.setIfInBounds_toArray, List.set_cons_zero, List.set_cons_succ]
        refine wpAnyL_take (i := 1) (oi := ?oim1) (v := ?vm1) ?him1 (by kernel_rfl) (by kernel_rfl) (by kernel_rfl) (by kernel_rfl) (fun _ _ _ h => h) (Or.inl ⟨?hwm1, ?hym1⟩) (by assumption) ?hrm1
        case him1 => simp only [List.getElem?_toArray, List.getElem?_cons_succ, List.getElem?_cons_zero]; rfl
        case hwm1 => rfl
        case hym1 => intro wq hSq; (try dsimp only at hSq); go_simp; (try with_reducible rfl)
        try simp only [Act.put, List.setIfInBounds_toArray, List.set_cons_zero, List.set_cons_succ]
        refine wpAnyL_take (i := 2) (oi := ?oim2) (v := ?vm2) ?him2 (by kernel_rfl) (by kernel_rfl) (by kernel_rfl) (by kernel_rfl) (fun _ _ _ h => h) (Or.inl ⟨?hwm2, ?hym2⟩) (by assumption) ?hrm2
        case him2 => simp only [List.getElem?_toArray, List.getElem?_cons_succ, List.getElem?_cons_zero]; rfl
        case hwm2 => rfl
        case hym2 => intro wq hSq; (try dsimp only at hSq); go_simp; (try with_reducible rfl)
        try simp only [Act.put, List.setIfInBounds_toArray, List.set_cons_zero, List.set_cons_succ]
        refine wpAnyL_take (i := 3) (oi := ?oim3) (v := ?vm3) ?him3 (by kernel_rfl) (by kernel_rfl) (by kernel_rfl) (by kernel_rfl) (fun _ _ _ h => h) (Or.inl ⟨?hwm3, ?hym3⟩) (by assumption) ?hrm3
        case him3 => simp only [List.getElem?_toArray, List.getElem?_cons_succ, List.getElem?_cons_zero]; rfl
        case hwm3 => rfl
        case hym3 => intro wq hSq; (try dsimp only at hSq); go_simp; (try with_reducible rfl)
        try simp only [Act.put, List.setIfInBounds_toArray, List.set_cons_zero, List.set_cons_succ]
        refine wpAnyL_take (i := 4) (oi := ?oim4) (v := ?vm4) ?him4 (by kernel_rfl) (by kernel_rfl) (by kernel_rfl) (by kernel_rfl) (fun _ _ _ h => h) (Or.inl ⟨?hwm4, ?hym4⟩) (by assumption) ?hrm4
        case him4 => simp only [List.getElem?_toArray, List.getElem?_cons_succ, List.getElem?_cons_zero]; rfl
        case hwm4 => rfl
        case hym4 => intro wq hSq; (try dsimp only at hSq); go_simp; (try with_reducible rfl)
        try simp only [Act.put, List.setIfInBounds_toArray, List.set_cons_zero, List.set_cons_succ]
        refine wpAnyL_take (i := 5) (oi := ?oim5) (v := ?vm5) ?him5 (by kernel_rfl) (by kernel_rfl) (by kernel_rfl) (by kernel_rfl) (fun _ _ _ h => h) (Or.inl ⟨?hwm5, ?hym5⟩) (by assumption) ?hrm5
        case him5 => simp only [List.getElem?_toArray, List.getElem?_cons_succ, List.getElem?_cons_zero]; rfl
        case hwm5 => rfl
        case hym5 => intro wq hSq; (try dsimp only at hSq); go_simp; (try with_reducible rfl)
        try simp only [Act.put, List.setIfInBounds_toArray, List.set_cons_zero, List.set_cons_succ]
        refine wpAnyL_take (i := 6) (oi := ?oim6) (v := ?vm6) ?him6 (by kernel_rfl) (by kernel_rfl) (by kernel_rfl) (by kernel_rfl) (fun _ _ _ h => h) (Or.inl ⟨?hwm6, ?hym6⟩) (by assumption) ?hrm6
        case him6 => simp only [List.getElem?_toArray, List.getElem?_cons_succ, List.getElem?_cons_zero]; rfl
        case hwm6 => rfl
        case hym6 => intro wq hSq; (try dsimp only at hSq); go_simp; (try with_reducible rfl)
        try simp only [Act.put, List.setIfInBounds_toArray, List.set_cons_zero, List.set_cons_succ]
        refine wpAnyL_take (i := 7) (oi := ?oim7) (v := ?vm7) ?him7 (by kernel_rfl) (by kernel_rfl) (by kernel_rfl) (by kernel_rfl) (fun _ _ _ h => h) (Or.inl ⟨?hwm7, ?hym7⟩) (by assumption) ?hrm7
        case him7 => simp only [List.getElem?_toArray, List.getElem?_cons_succ, List.getElem?_cons_zero]; rfl
        case hwm7 => rfl
        case hym7 => intro wq hSq; (try dsimp only at hSq); go_simp; (try with_reducible rfl)
        try simp only [Act.put, List.setIfInBounds_toArray, List.set_cons_zero, List.set_cons_succ]
        refine wpAnyL_take (i := 8) (oi := ?oim8) (v := ?vm8) ?him8 (by kernel_rfl) (by kernel_rfl) (by kernel_rfl) (by kernel_rfl) (fun _ _ _ h => h) (Or.inl ⟨?hwm8, ?hym8⟩) (by assumption) ?hrm8
        case him8 => simp only [List.getElem?_toArray, List.getElem?_cons_succ, List.getElem?_cons_zero]; rfl
        case hwm8 => rfl
        case hym8 => intro wq hSq; (try dsimp only at hSq); go_simp; (try with_reducible rfl)
        try simp only [Act.put, List.setIfInBounds_toArray, List.set_cons_zero, List.set_cons_succ]
        refine wpAnyL_take (i := 9) (oi := ?oim9) (v := ?vm9) ?him9 (by kernel_rfl) (by kernel_rfl) (by kernel_rfl) (by kernel_rfl) (fun _ _ _ h => h) (Or.inl ⟨?hwm9, ?hym9⟩) (by assumption) ?hrm9
        case him9 => simp only [List.getElem?_toArray, List.getElem?_cons_succ, List.getElem?_cons_zero]; rfl
        case hwm9 => rfl
        case hym9 => intro wq hSq; (try dsimp only at hSq); go_simp; (try with_reducible rfl)
        try simp only [Act.put, List.setIfInBounds_toArray, List.set_cons_zero, List.set_cons_succ]
        refine wpAnyL_take (i := 10) (oi := ?oim10) (v := ?vm10) ?him10 (by kernel_rfl) (by kernel_rfl) (by kernel_rfl) (by kernel_rfl) (fun _ _ _ h => h) (Or.inl ⟨?hwm10, ?hym10⟩) (by assumption) ?hrm10
        case him10 => simp only [List.getElem?_toArray, List.getElem?_cons_succ, List.getElem?_cons_zero]; rfl
        case hwm10 => rfl
        case hym10 => intro wq hSq; (try dsimp only at hSq); go_simp; (try with_reducible rfl)
        try simp only [Act.put, List.setIfInBounds_toArray, List.set_cons_zero, List.set_cons_succ]
        refine wpAnyL_take (i := 11) (oi := ?oim11) (v := ?vm11) ?him11 (by kernel_rfl) (by kernel_rfl) (by kernel_rfl) (by kernel_rfl) (fun _ _ _ h => h) (Or.inl ⟨?hwm11, ?hym11⟩) (by assumption) ?hrm11
        case him11 => simp only [List.getElem?_toArray, List.getElem?_cons_succ, List.getElem?_cons_zero]; rfl
        case hwm11 => rfl
        case hym11 => intro wq hSq; (try dsimp only at hSq); go_simp; (try with_reducible rfl)
        try simp only [Act.put, List.setIfInBounds_toArray, List.set_cons_zero, List.set_cons_succ]
        refine wpAnyL_take (i := 12) (oi := ?oim12) (v := ?vm12) ?him12 (by kernel_rfl) (by kernel_rfl) (by kernel_rfl) (by kernel_rfl) (fun _ _ _ h => h) (Or.inl ⟨?hwm12, ?hym12⟩) (by assumption) ?hrm12
        case him12 => simp only [List.getElem?_toArray, List.getElem?_cons_succ, List.getElem?_cons_zero]; rfl
        case hwm12 => rfl
        case hym12 => intro wq hSq; (try dsimp only at hSq); go_simp; (try with_reducible rfl)
        try simp only [Act.put, List.setIfInBounds_toArray, List.set_cons_zero, List.set_cons_succ]
        refine wpAnyL_take (i := 13) (oi := ?oim13) (v := ?vm13) ?him13 (by kernel_rfl) (by kernel_rfl) (by kernel_rfl) (by kernel_rfl) (fun _ _ _ h => h) (Or.inl ⟨?hwm13, ?hym13⟩) (by assumption) ?hrm13
        case him13 => simp only [List.getElem?_toArray, List.getElem?_cons_succ, List.getElem?_cons_zero]; rfl
        case hwm13 => rfl
        case hym13 => intro wq hSq; (try dsimp only at hSq); go_simp; (try with_reducible rfl)
        try simp only [Act.put, List.setIfInBounds_toArray, List.set_cons_zero, List.set_cons_succ]
        refine wpAnyL_tail (l := [15, 16, 17]) (by kernel_rfl) (by kernel_rfl) ?_
        simp only [tailOps, List.filterMap_cons, List.filterMap_nil, List.getElem?_toArray, List.getElem?_cons_succ, List.getElem?_cons_zero]
        clear hHeld
        try simp only [haddN]
        go_upto_region 19 with fail
        refine NoPanic.normal ?_
        go_upto_region 19 with fail
        obtain ⟨U5, hU5⟩ : ∃ W, (u4.drewN (nqa + 1)).setCell ⟨P, 0, none⟩ (.string nm) = W := ⟨_, rfl⟩
        have C5 : Chg u4 U5 (fun j => j = P) := by rw [← hU5]; exact ((Chg.refl u4 (fun j => j = P)).drewN _).setCell (p := ⟨P, 0, none⟩) (fun _ => rfl) _
        have BP5 : Box U5 P 30 #[.string nm, .int .i64 pp, .int .i64 pc] := by rw [← hU5]; exact (BP3s.drewN _).set 0 _
        have S5 := S3s.turn C5 (fun j h => by have := HPT.out; omega)
        have O5 := own_chg HO4.out C5 (fun j hj h => by have := hPO.out j hj; omega)
        rw [hU5]
        obtain ⟨o5, c5, bx5, L5, hc5⟩ := S5.rd.st
        have hle5 := Lib.hid (show pd + k2 ≤ bs.length from (rf_facts HP4.out S3s.rd.max hc5 HF2.out).2.2.2.1)
        clear r0 r1 r3 k3 k4 hcv hU5 bx4 L4 S3s haddN hA0 hTN hpc4 hnc hPr2 BP3s
        have r1 := bx5.cell 1
        have r3 := bx5.frozen 1
        go_upto_region 20 with fail
        obtain ⟨U6, hU6⟩ : ∃ W, U5.setCell ⟨r, 1, none⟩ (.int .i64 ((pd : Int) + (k2 : Int))) = W := ⟨_, rfl⟩
        have C6 : Chg U5 U6 (fun j => j = r) := by rw [← hU6]; exact (Chg.refl U5 (fun j => j = r)).setCell (p := ⟨r, 1, none⟩) (fun _ => rfl) _
        have R6 : RfAt U6 r gb bs (pd + k2) bc := ⟨⟨o5, c5, by rw [← hU6]; exact bx5.set 1 _, L5.chg C6 (fun ad e h => by cases e; exact S5.rd.ne h), hc5⟩, hle5.out, S5.rd.max, S5.rd.ne, Nat.lt_of_lt_of_le S5.rd.lt C6.size, S5.rd.rng⟩
        have S6 := S5.num R6 C6
        have hT5r := S5.l2
        have O6 := own_chg O5 C6 (fun j hj h => by have := (O5.lt j hj).1; omega)
        have BP6 := BP5.chg C6 (fun h => by have := HPT.out; omega)
        rw [hU6]
        clear r1 r3 hU6 bx5 L5 S5 O5 BP5 R6 C5 C6 hadd
        have q3 := S6.b5.cell 3
        have p0 := BP6.cell 0
        have p1 := BP6.cell 1
        have p2 := BP6.cell 2
        have hsq := S6.b5.lt
        have hl9s := HLS.out.1
        have hN := ((Box.new U6 30 #[.string nm, .int .i64 pp, .int .i64 pc]).src 1 1 3 [.string nm, .int .i64 pp, .int .i64 pc] rfl rfl).get _ rfl
        go_wp2_with (at_builtin; go_loud (refine wpList_append_own _ rfl _ _ 23 rfl (T5 + 1) 30 i0 _ 3 32 Try.underlying23 hi0 hz0 hz1 hz2 rfl (by decide) _ _ _ rfl (own_alloc O6 _) ⟨U6.heap.size, 0, none⟩ 1 1 [.string nm, .int .i64 pp, .int .i64 pc] rfl rfl hN (by intro u hu; simp only [List.mem_cons, List.not_mem_nil, or_false] at hu; rcases hu with rfl | rfl | rfl <;> rfl) (by unfold maxLen; omega) (by omega) (by simp; omega) ?_); go_loud (intro v' wz Oz hgz _); go_loud (refine ?roundEnd))
        case roundEnd =>
          obtain ⟨az, cz, rfl, -⟩ := own_form Oz
          have Sa := S6.keep ((Chg.refl U6 (fun _ => False)).alloc (.cells #[.string nm, .int .i64 pp, .int .i64 pc] 30))
          obtain ⟨b3, Sz, Cz⟩ := Sa.grow hgz (fun j hj => (O6.lt j hj).1) 3 (.slice az (l.length + 1) cz)
          have z3 := b3.cell 3
          have z4 := b3.frozen 3
          have Czc : Chg wz (wz.setCell ⟨T5, 3, none⟩ (.slice az (l.length + 1) cz)) (fun k => k = T5) := (Chg.refl wz (fun k => k = T5)).setCell (p := ⟨T5, 3, none⟩) (fun _ => rfl) _
          have Ozz := own_chg Oz Czc (fun j hj h => by have := (Oz.lt j hj).1; omega)
          have HPK2 : Hid (g = true → (⟨nm, pp, pc⟩ : PartD) = pk) := fun hg => by
            have e1 := (E1.out hg).1
            have e4 := (E3.out hg).2.2
            have e5 : nm = pk.name := by
              rw [← HNMX.out, e4, show k2 = (nameL pk.name).length by rw [nameL_len]; omega, List.take_left, str_name]
            rw [e5, (E2.out hg).1, (E3.out hg).1]
          have HDR : Hid (g = true → bs.drop (pd + k2) = tn) := fun hg => by
            have e1 := (E1.out hg).1
            rw [← List.drop_drop, (E3.out hg).2.2, show k2 = (nameL pk.name).length by rw [nameL_len]; omega, List.drop_left]
          have HSZ2 := Lib.hid Sz
          have HOZ := Lib.hid Ozz
          have HLF := Lib.hid (show l.flatMap partCells ++ [.string nm, .int .i64 pp, .int .i64 pc] = (l ++ [⟨nm, pp, pc⟩] : List PartD).flatMap partCells by rw [List.flatMap_append]; rfl)
          have HNS := Lib.hid hnsz
          clear Sz Ozz Cz Czc Oz hgz Sa hnsz hl9s
          go_wp2_with fail
          go_roundg (gk - 1)
          case measure => have := HK.out; have := HLS.out.2.2.1; omega
          case rel =>
            have hc9 := HLS.out.2.2.2
            have hk9 := HLS.out.2.2.1
            refine ⟨k + 1, l ++ [⟨nm, pp, pc⟩], pd + k2, bc, .slice az (l.length + 1) cz, by have := HK.out; omega, congrArg (Value.int .i64) ((IntWalk.wrap64_in _ (by omega)).trans (by omega)), by rw [List.length_append, HLK.out]; rfl, HSZ2.out, ?_, ?_, ?_⟩
            · rw [← HLF.out, show (l ++ [⟨nm, pp, pc⟩] : List PartD).length = l.length + 1 by simp]
              exact HOZ.out
            · intro q hq
              rcases List.mem_append.1 hq with hq | hq
              · exact HNM.out q hq
              · rw [List.mem_singleton.1 hq]; exact HNS.out
            · intro hg
              obtain ⟨f1, f2, f3, f4, f5⟩ := HPK.out hg
              exact ⟨(E3.out hg).2.1, f4, by rw [HPK2.out hg, f3, f5], by rw [HDR.out hg, ← HTN.out]⟩

  case rest =>
    obtain ⟨l, p, bad, v, S, O, hl9, hnm, HX⟩ := hcut
    clear Sg
    obtain ⟨S', hS'⟩ : ∃ x, x = 0 := ⟨0, rfl⟩
    clear hS' S'
    have HN1 := Lib.hid hnm
    have HL1 := Lib.hid hl9
    clear hnm hl9
    have HXa : Hid (g = true → bad = false ∧ bs.drop p = fourB (K.chans.length : Int) ++ t6) := fun hg => ⟨(HX.out hg).1, by rw [(HX.out hg).2.2, ← H5.out]⟩
    have HXl : Hid (g = true → l = K.parts) := fun hg => (HX.out hg).2.1
    clear HX
    go_wp2_with fail
    refine (rn_any _ S.rd).mono ?_
    rintro e w5 ⟨n2, p5, bad5, rfl, hwn2, Rnn2, Cnn2, hgnn2⟩
    have S2a := S.num Rnn2 Cnn2
    have HA5 : Hid (g = true → n2 = (K.chans.length : Int) ∧ bad5 = false ∧ bs.drop p5 = t6) := fun hg => hgnn2 _ _ (by have := (HNK.out hg).nc; exact ⟨by omega, by omega⟩) (HXa.out hg).1 (HXa.out hg).2
    clear Rnn2 hgnn2
    have Orv := own_chg O Cnn2 (fun j hj h => by have := (O.lt j hj).1; omega)
    clear S O HXa Cnn2
    have H2LR : T5 = T5 ∧ T2 < r ∧ r < T5 ∧ gb < r := ⟨rfl, S2a.l1, S2a.l2, by have := S2a.l0; have := S2a.l1; have := S2a.lg; omega⟩
    obtain ⟨-, hlA2, hlB2, hlC2⟩ := H2LR
    go_upto_block 2 with fail
    go_cut [10] (fun sX wx => ∃ l2 p bad v2, RuSt w wx r gb T2 T5 bs p bad #[.int .i64 pg, .int .i64 mj, .int .i64 sw, v, v2, .slice none 0 0] ∧ wx.ownsRow (T5 + 1) 32 5 v2 l2.length (l2.flatMap chanCells) ∧ l2.length ≤ 17 ∧ wx.ownsRow (T5 + 1) 30 3 v l.length (l.flatMap partCells) ∧ Hid (g = true → bad = false ∧ l2 = K.chans ∧ bs.drop p = t7))
    case first =>
      go_wp2_with fail
      go_loopg [10] 17 (fun gg s wx => ∃ k : Nat, ∃ l2 p bad v2, gg + k = 17 ∧ s = .int .i64 k ∧ l2.length = k ∧ RuSt w wx r gb T2 T5 bs p bad #[.int .i64 pg, .int .i64 mj, .int .i64 sw, v, v2, .slice none 0 0] ∧ wx.ownsRow (T5 + 1) 32 5 v2 l2.length (l2.flatMap chanCells) ∧ wx.ownsRow (T5 + 1) 30 3 v l.length (l.flatMap partCells) ∧ Hid (g = true → bad = false ∧ k ≤ K.chans.length ∧ l2 = K.chans.take k ∧ bs.drop p = (K.chans.drop k).flatMap chanB ++ t7))
      case atStart => exact ⟨0, [], _, _, _, rfl, rfl, rfl, S2a, World.ownsRow_nil _ _ _ _, Orv, fun hg => ⟨(HA5.out hg).2.1, Nat.zero_le _, rfl, by rw [(HA5.out hg).2.2, ← H6.out]; rfl⟩⟩
      case round =>
        obtain ⟨k, l2, p, bad, v2, hk, rfl, hlk, S, O, Orv, HX⟩ := hrel
        have HK := Lib.hid hk
        obtain ⟨oR, cR, bxR, LR, hcR⟩ := S.rd.st
        have y2 := bxR.cell 2
        have hpl := S.rd.le
        have hpm := S.rd.max
        have hk0 : (0 : Int) ≤ (k : Int) := by omega
        have hl9 : l2.length ≤ 17 := by omega
        by_cases hc : (k : Int) < n2 ∧ bad = false ∧ k < 17
        rotate_left
        · have HXX : Hid (g = true → bad = false ∧ l2 = K.chans ∧ bs.drop p = t7) := fun hg => by
            obtain ⟨e1, e2, e3, e4⟩ := HX.out hg
            have e5 := (HA5.out hg).1
            have e6 := (HNK.out hg).nc
            have e7 : K.chans.length ≤ k := by
              rcases Nat.lt_or_ge k K.chans.length with h | h
              · exact absurd ⟨by omega, e1, by omega⟩ hc
              · exact h
            obtain ⟨f1, f2⟩ := flat_nil_take K.chans k e7 chanB t7
            exact ⟨e1, by rw [e3, f1], by rw [e4, f2]⟩
          clear LR
          by_cases c1 : (k : Int) < n2
          · cases bad with
            | true =>
              clear hc HX hk
              go_wp2_with fail
              go_meet
              exact ⟨l2, p, true, v2, S, O, hl9, Orv, HXX⟩
            | false =>
              have c3 : ¬ k < 17 := fun h => hc ⟨c1, rfl, h⟩
              have c4 : ¬ ((k : Int) < 17) := by omega
              clear hc HX hk c3
              go_wp2_with fail
              go_meet
              exact ⟨l2, p, false, v2, S, O, hl9, Orv, fun hg => ⟨rfl, (HXX.out hg).2⟩⟩
          · clear hc HX hk
            go_wp2_with fail
            go_meet
            exact ⟨l2, p, bad, v2, S, O, hl9, Orv, HXX⟩
        obtain ⟨c1, rfl, c3⟩ := hc
        have c4 : (k : Int) < 17 := by omega
        have hl9s : l2.length < 17 := by omega
        have HOO := Lib.hid O
        have HOrv := Lib.hid Orv
        have HLK := Lib.hid hlk
        obtain ⟨pk, HPK⟩ : ∃ pk, Hid (g = true → pk ∈ K.chans ∧ bs.drop p = chanB pk ++ ((K.chans.drop (k + 1)).flatMap chanB ++ t7) ∧ K.chans.take (k + 1) = K.chans.take k ++ [pk] ∧ k + 1 ≤ K.chans.length ∧ l2 = K.chans.take k) := ⟨K.chans.getD k ⟨0, 0, 0, 0, 0⟩, fun hg => by
          have e5 := (HA5.out hg).1
          obtain ⟨-, -, e7, e6⟩ := HX.out hg
          have h : k < K.chans.length := by omega
          have e8 : K.chans.getD k ⟨0, 0, 0, 0, 0⟩ = K.chans[k] := by rw [List.getD_eq_getElem?_getD, List.getElem?_eq_getElem h]; rfl
          rw [e8]
          exact ⟨List.getElem_mem h, by rw [e6, flat_drop K.chans k h], by rw [List.take_succ_eq_append_getElem h], h, e7⟩⟩
        obtain ⟨tn, htn⟩ : ∃ t, (K.chans.drop (k + 1)).flatMap chanB ++ t7 = t := ⟨_, rfl⟩
        rw [htn] at HPK
        have HTN := Lib.hid htn
        have hS := S.l0
        clear hk hlk LR O Orv bxR HX htn
        rename World => wx
        obtain ⟨P, hP⟩ : ∃ P, wx.heap.size = P := ⟨_, rfl⟩
        have HPw := Lib.hid hP
        obtain ⟨v0, hv0⟩ : ∃ W, wx.alloc (.cells #[.int .i64 0, .int .i64 0, .int .i64 0, .int .i64 0, .int .i64 0] 32) = W := ⟨_, rfl⟩
        have Cv : Chg wx v0 (fun _ => False) := by rw [← hv0]; exact (Chg.refl wx _).alloc _
        have BP := Box.new wx 32 #[.int .i64 0, .int .i64 0, .int .i64 0, .int .i64 0, .int .i64 0]
        rw [hv0, hP] at BP
        have TS0 := S.keep Cv
        have hPT : T5 < P := by have := S.b5.lt; omega
        have hPr : ¬ P = r := by omega
        have O0 := Lib.hid (own_chg HOO.out Cv (fun _ _ h => h))
        have hPO : Hid (∀ j, v2.ownBlock = some j → j < P) := fun j hj => by have := (HOO.out.lt j hj).2; omega
        have Ov0 := Lib.hid (own_chg HOrv.out Cv (fun _ _ h => h))
        have hPOv : Hid (∀ j, v.ownBlock = some j → j < P) := fun j hj => by have := (HOrv.out.lt j hj).2; omega
        go_wp2_with fail
        refine (rn_any _ TS0.rd).mono ?_
        rintro e y0 ⟨x0, p0, b0, rfl, hwx0, Rnx0, Cnx0, hgnx0⟩
        have TS0n := TS0.num Rnx0 Cnx0
        have E0 : Hid (g = true → x0 = pk.kind ∧ b0 = false ∧ bs.drop p0 = fourB pk.src ++ (fourB pk.dst ++ (fourB pk.size ++ (fourB pk.depth ++ (tn))))) := fun hg => hgnx0 _ _ (((HNK.out hg).cs pk (HPK.out hg).1).1) (rfl) (by rw [(HPK.out hg).2.1, chanB_eq])
        clear Rnx0 hgnx0
        clear hv0
        clear TS0
        have BP0n := BP.chg Cnx0 hPr

        have k1 := BP0n.cell 0
        have k2 := BP0n.frozen 0
        have CP0 : Chg y0 (y0.setCell ⟨P, 0, none⟩ (.int .i64 x0)) (fun j => j = P) := (Chg.refl y0 (fun j => j = P)).setCell (p := ⟨P, 0, none⟩) (fun _ => rfl) _
        have BP0 : Box (y0.setCell ⟨P, 0, none⟩ (.int .i64 x0)) P 32 #[.int .i64 x0, .int .i64 0, .int .i64 0, .int .i64 0, .int .i64 0] := BP0n.set 0 (.int .i64 x0)
        have TS1 := TS0n.turn CP0 (fun j h => by omega)
        have O1 := Lib.hid (own_chg (own_chg O0.out Cnx0 (fun j hj h => by have := (O0.out.lt j hj).1; omega)) CP0 (fun j hj h => by have := hPO.out j hj; omega))
        have Ov1 := Lib.hid (own_chg (own_chg Ov0.out Cnx0 (fun j hj h => by have := (Ov0.out.lt j hj).1; omega)) CP0 (fun j hj h => by have := hPOv.out j hj; omega))
        clear BP BP0n TS0n CP0 Cnx0 O0 hwx0 Ov0
        go_wp2_with fail
        refine (rn_any _ TS1.rd).mono ?_
        rintro e y1 ⟨x1, p1, b1, rfl, hwx1, Rnx1, Cnx1, hgnx1⟩
        have TS1n := TS1.num Rnx1 Cnx1
        have E1 : Hid (g = true → x1 = pk.src ∧ b1 = false ∧ bs.drop p1 = fourB pk.dst ++ (fourB pk.size ++ (fourB pk.depth ++ (tn)))) := fun hg => hgnx1 _ _ (((HNK.out hg).cs pk (HPK.out hg).1).2.1) ((E0.out hg).2.1) ((E0.out hg).2.2)
        clear Rnx1 hgnx1
        clear TS1
        have BP1n := BP0.chg Cnx1 hPr
        clear k1 k2
        have k1 := BP1n.cell 1
        have k2 := BP1n.frozen 1
        have CP1 : Chg y1 (y1.setCell ⟨P, 1, none⟩ (.int .i64 x1)) (fun j => j = P) := (Chg.refl y1 (fun j => j = P)).setCell (p := ⟨P, 1, none⟩) (fun _ => rfl) _
        have BP1 : Box (y1.setCell ⟨P, 1, none⟩ (.int .i64 x1)) P 32 #[.int .i64 x0, .int .i64 x1, .int .i64 0, .int .i64 0, .int .i64 0] := BP1n.set 1 (.int .i64 x1)
        have TS2 := TS1n.turn CP1 (fun j h => by omega)
        have O2 := Lib.hid (own_chg (own_chg O1.out Cnx1 (fun j hj h => by have := (O1.out.lt j hj).1; omega)) CP1 (fun j hj h => by have := hPO.out j hj; omega))
        have Ov2 := Lib.hid (own_chg (own_chg Ov1.out Cnx1 (fun j hj h => by have := (Ov1.out.lt j hj).1; omega)) CP1 (fun j hj h => by have := hPOv.out j hj; omega))
        clear BP0 BP1n TS1n CP1 Cnx1 O1 hwx1 Ov1
        go_wp2_with fail
        refine (rn_any _ TS2.rd).mono ?_
        rintro e y2 ⟨x2, p2, b2, rfl, hwx2, Rnx2, Cnx2, hgnx2⟩
        have TS2n := TS2.num Rnx2 Cnx2
        have E2 : Hid (g = true → x2 = pk.dst ∧ b2 = false ∧ bs.drop p2 = fourB pk.size ++ (fourB pk.depth ++ (tn))) := fun hg => hgnx2 _ _ (((HNK.out hg).cs pk (HPK.out hg).1).2.2.1) ((E1.out hg).2.1) ((E1.out hg).2.2)
        clear Rnx2 hgnx2
        clear TS2
        have BP2n := BP1.chg Cnx2 hPr
        clear k1 k2
        have k1 := BP2n.cell 2
        have k2 := BP2n.frozen 2
        have CP2 : Chg y2 (y2.setCell ⟨P, 2, none⟩ (.int .i64 x2)) (fun j => j = P) := (Chg.refl y2 (fun j => j = P)).setCell (p := ⟨P, 2, none⟩) (fun _ => rfl) _
        have BP2 : Box (y2.setCell ⟨P, 2, none⟩ (.int .i64 x2)) P 32 #[.int .i64 x0, .int .i64 x1, .int .i64 x2, .int .i64 0, .int .i64 0] := BP2n.set 2 (.int .i64 x2)
        have TS3 := TS2n.turn CP2 (fun j h => by omega)
        have O3 := Lib.hid (own_chg (own_chg O2.out Cnx2 (fun j hj h => by have := (O2.out.lt j hj).1; omega)) CP2 (fun j hj h => by have := hPO.out j hj; omega))
        have Ov3 := Lib.hid (own_chg (own_chg Ov2.out Cnx2 (fun j hj h => by have := (Ov2.out.lt j hj).1; omega)) CP2 (fun j hj h => by have := hPOv.out j hj; omega))
        clear BP1 BP2n TS2n CP2 Cnx2 O2 hwx2 Ov2
        go_wp2_with fail
        refine (rn_any _ TS3.rd).mono ?_
        rintro e y3 ⟨x3, p3, b3, rfl, hwx3, Rnx3, Cnx3, hgnx3⟩
        have TS3n := TS3.num Rnx3 Cnx3
        have E3 : Hid (g = true → x3 = pk.size ∧ b3 = false ∧ bs.drop p3 = fourB pk.depth ++ (tn)) := fun hg => hgnx3 _ _ (((HNK.out hg).cs pk (HPK.out hg).1).2.2.2.1) ((E2.out hg).2.1) ((E2.out hg).2.2)
        clear Rnx3 hgnx3
        clear TS3
        have BP3n := BP2.chg Cnx3 hPr
        clear k1 k2
        have k1 := BP3n.cell 3
        have k2 := BP3n.frozen 3
        have CP3 : Chg y3 (y3.setCell ⟨P, 3, none⟩ (.int .i64 x3)) (fun j => j = P) := (Chg.refl y3 (fun j => j = P)).setCell (p := ⟨P, 3, none⟩) (fun _ => rfl) _
        have BP3 : Box (y3.setCell ⟨P, 3, none⟩ (.int .i64 x3)) P 32 #[.int .i64 x0, .int .i64 x1, .int .i64 x2, .int .i64 x3, .int .i64 0] := BP3n.set 3 (.int .i64 x3)
        have TS4 := TS3n.turn CP3 (fun j h => by omega)
        have O4 := Lib.hid (own_chg (own_chg O3.out Cnx3 (fun j hj h => by have := (O3.out.lt j hj).1; omega)) CP3 (fun j hj h => by have := hPO.out j hj; omega))
        have Ov4 := Lib.hid (own_chg (own_chg Ov3.out Cnx3 (fun j hj h => by have := (Ov3.out.lt j hj).1; omega)) CP3 (fun j hj h => by have := hPOv.out j hj; omega))
        clear BP2 BP3n TS3n CP3 Cnx3 O3 hwx3 Ov3
        go_wp2_with fail
        refine (rn_any _ TS4.rd).mono ?_
        rintro e y4 ⟨x4, p4, b4, rfl, hwx4, Rnx4, Cnx4, hgnx4⟩
        have TS4n := TS4.num Rnx4 Cnx4
        have E4 : Hid (g = true → x4 = pk.depth ∧ b4 = false ∧ bs.drop p4 = tn) := fun hg => hgnx4 _ _ (((HNK.out hg).cs pk (HPK.out hg).1).2.2.2.2) ((E3.out hg).2.1) ((E3.out hg).2.2)
        clear Rnx4 hgnx4
        clear TS4
        have BP4n := BP3.chg Cnx4 hPr
        clear k1 k2
        have k1 := BP4n.cell 4
        have k2 := BP4n.frozen 4
        have CP4 : Chg y4 (y4.setCell ⟨P, 4, none⟩ (.int .i64 x4)) (fun j => j = P) := (Chg.refl y4 (fun j => j = P)).setCell (p := ⟨P, 4, none⟩) (fun _ => rfl) _
        have BP4 : Box (y4.setCell ⟨P, 4, none⟩ (.int .i64 x4)) P 32 #[.int .i64 x0, .int .i64 x1, .int .i64 x2, .int .i64 x3, .int .i64 x4] := BP4n.set 4 (.int .i64 x4)
        have TS5 := TS4n.turn CP4 (fun j h => by omega)
        have O5 := Lib.hid (own_chg (own_chg O4.out Cnx4 (fun j hj h => by have := (O4.out.lt j hj).1; omega)) CP4 (fun j hj h => by have := hPO.out j hj; omega))
        have Ov5 := Lib.hid (own_chg (own_chg Ov4.out Cnx4 (fun j hj h => by have := (Ov4.out.lt j hj).1; omega)) CP4 (fun j hj h => by have := hPOv.out j hj; omega))
        clear BP3 BP4n TS4n CP4 Cnx4 O4 hwx4 Ov4
        go_upto_region 31 with fail
        obtain ⟨U6, hU6⟩ : ∃ W, y4.setCell ⟨P, 4, none⟩ (.int .i64 x4) = W := ⟨_, rfl⟩
        rw [hU6] at BP4 TS5 O5 Ov5
        rw [hU6]
        clear hU6 k1 k2 hP
        have q3 := TS5.b5.cell 4
        have hsq := TS5.b5.lt
        have z0 := BP4.cell 0
        have z1 := BP4.cell 1
        have z2 := BP4.cell 2
        have z3 := BP4.cell 3
        have z4 := BP4.cell 4
        have hl9s : l2.length < 17 := by omega
        have HKc := Lib.hid (And.intro c3 c4)
        clear c1 c3 c4 hl9 hS hpl hpm
        have hN := ((Box.new U6 32 #[.int .i64 x0, .int .i64 x1, .int .i64 x2, .int .i64 x3, .int .i64 x4]).src 1 1 5 [.int .i64 x0, .int .i64 x1, .int .i64 x2, .int .i64 x3, .int .i64 x4] rfl rfl).get _ rfl
        go_wp2_with (at_builtin; go_loud (refine wpList_append_own _ rfl _ _ 24 rfl (T5 + 1) 32 i2 _ 5 40 Try.underlying24 hi2 hy0 hy1 hy2 rfl (by decide) _ _ _ rfl (own_alloc O5.out _) ⟨U6.heap.size, 0, none⟩ 1 1 [.int .i64 x0, .int .i64 x1, .int .i64 x2, .int .i64 x3, .int .i64 x4] rfl rfl hN (by intro u hu; simp only [List.mem_cons, List.not_mem_nil, or_false] at hu; rcases hu with rfl | rfl | rfl | rfl | rfl <;> rfl) (by unfold maxLen; omega) (by omega) (by simp; omega) ?_); go_loud (intro v' wz Oz hgz _); go_loud (refine ?roundEnd))
        case roundEnd =>
          obtain ⟨az, cz, rfl, -⟩ := own_form Oz
          have Sa := TS5.keep ((Chg.refl U6 (fun _ => False)).alloc (.cells #[.int .i64 x0, .int .i64 x1, .int .i64 x2, .int .i64 x3, .int .i64 x4] 32))
          obtain ⟨b3, Sz, Cz⟩ := Sa.grow hgz (fun j hj => (O5.out.lt j hj).1) 4 (.slice az (l2.length + 1) cz)
          have z3 := b3.cell 4
          have z4 := b3.frozen 4
          have Czc : Chg wz (wz.setCell ⟨T5, 4, none⟩ (.slice az (l2.length + 1) cz)) (fun k => k = T5) := (Chg.refl wz (fun k => k = T5)).setCell (p := ⟨T5, 4, none⟩) (fun _ => rfl) _
          have Ozz := own_chg Oz Czc (fun j hj h => by have := (Oz.lt j hj).1; omega)
          have OZv := Lib.hid (own_chg (own_chg Ov5.out ((Chg.refl U6 (fun _ => False)).alloc (.cells #[.int .i64 x0, .int .i64 x1, .int .i64 x2, .int .i64 x3, .int .i64 x4] 32)) (fun _ _ h => h)) Cz (fun j hj h => h.elim (fun h => by have := (Ov5.out.lt j hj).1; omega) (fun h => own_own_ne Ov5.out O5.out (by decide) j hj h)))
          have HPK2 : Hid (g = true → (⟨x0, x1, x2, x3, x4⟩ : ChanD) = pk) := fun hg => by
            rw [(E0.out hg).1, (E1.out hg).1, (E2.out hg).1, (E3.out hg).1, (E4.out hg).1]
          have HSZ2 := Lib.hid Sz
          have HOZ := Lib.hid Ozz
          have HLF := Lib.hid (show l2.flatMap chanCells ++ [.int .i64 x0, .int .i64 x1, .int .i64 x2, .int .i64 x3, .int .i64 x4] = (l2 ++ [⟨x0, x1, x2, x3, x4⟩] : List ChanD).flatMap chanCells by rw [List.flatMap_append]; rfl)
          clear Sz Ozz Cz Czc Oz hgz Sa hl9s
          go_wp2_with fail
          go_roundg (gk - 1)
          case measure => have := HK.out; have := HKc.out.1; omega
          case rel =>
            have hc9 := HKc.out.2
            have hk9 := HKc.out.1
            refine ⟨k + 1, l2 ++ [⟨x0, x1, x2, x3, x4⟩], p4, b4, .slice az (l2.length + 1) cz, by have := HK.out; omega, congrArg (Value.int .i64) ((IntWalk.wrap64_in _ (by omega)).trans (by omega)), by rw [List.length_append, HLK.out]; rfl, HSZ2.out, ?_, OZv.out, ?_⟩
            · rw [← HLF.out, show (l2 ++ [⟨x0, x1, x2, x3, x4⟩] : List ChanD).length = l2.length + 1 by simp]
              exact HOZ.out
            · intro hg
              obtain ⟨f1, f2, f3, f4, f5⟩ := HPK.out hg
              exact ⟨(E4.out hg).2.1, f4, by rw [HPK2.out hg, f3, f5], by rw [(E4.out hg).2.2, ← HTN.out]⟩

    case rest =>
      obtain ⟨l2, p, bad, v2, S, O, hl9, Orv, HX⟩ := hcut
      clear S2a
      have HL2 := Lib.hid hl9
      clear hl9
      have HXb : Hid (g = true → bad = false ∧ bs.drop p = fourB (K.wins.length : Int) ++ t8) := fun hg => ⟨(HX.out hg).1, by rw [(HX.out hg).2.2, ← H7.out]⟩
      have HXm : Hid (g = true → l2 = K.chans) := fun hg => (HX.out hg).2.1
      clear HX
      go_wp2_with fail
      refine (rn_any _ S.rd).mono ?_
      rintro e w6 ⟨n3, p6, bad6, rfl, hwn3, Rnn3, Cnn3, hgnn3⟩
      have S3a := S.num Rnn3 Cnn3
      have HA6 : Hid (g = true → n3 = (K.wins.length : Int) ∧ bad6 = false ∧ bs.drop p6 = t8) := fun hg => hgnn3 _ _ (by have := (HNK.out hg).nw; exact ⟨by omega, by omega⟩) (HXb.out hg).1 (HXb.out hg).2
      clear Rnn3 hgnn3
      have Orw := own_chg Orv Cnn3 (fun j hj h => by have := (Orv.lt j hj).1; omega)
      have Orv2 := own_chg O Cnn3 (fun j hj h => by have := (O.lt j hj).1; omega)
      clear Orv
      have Orv := Orw
      clear S O HXb Cnn3 Orw
      have H3LR : T5 = T5 ∧ T2 < r ∧ r < T5 ∧ gb < r := ⟨rfl, S3a.l1, S3a.l2, by have := S3a.l0; have := S3a.l1; have := S3a.lg; omega⟩
      obtain ⟨-, hlA3, hlB3, hlC3⟩ := H3LR
      go_upto_block 4 with fail
      go_cut [12] (fun sX wx => ∃ l3 p bad v3, RuSt w wx r gb T2 T5 bs p bad #[.int .i64 pg, .int .i64 mj, .int .i64 sw, v, v2, v3] ∧ wx.ownsRow (T5 + 1) 34 3 v3 l3.length (l3.flatMap winCells) ∧ l3.length ≤ 33 ∧ wx.ownsRow (T5 + 1) 30 3 v l.length (l.flatMap partCells) ∧ wx.ownsRow (T5 + 1) 32 5 v2 l2.length (l2.flatMap chanCells) ∧ Hid (g = true → bad = false ∧ l3 = K.wins ∧ bs.drop p = ([] : List Int)))
      case first =>
        go_wp2_with fail
        go_loopg [12] 33 (fun gg s wx => ∃ k : Nat, ∃ l3 p bad v3, gg + k = 33 ∧ s = .int .i64 k ∧ l3.length = k ∧ RuSt w wx r gb T2 T5 bs p bad #[.int .i64 pg, .int .i64 mj, .int .i64 sw, v, v2, v3] ∧ wx.ownsRow (T5 + 1) 34 3 v3 l3.length (l3.flatMap winCells) ∧ wx.ownsRow (T5 + 1) 30 3 v l.length (l.flatMap partCells) ∧ wx.ownsRow (T5 + 1) 32 5 v2 l2.length (l2.flatMap chanCells) ∧ Hid (g = true → bad = false ∧ k ≤ K.wins.length ∧ l3 = K.wins.take k ∧ bs.drop p = (K.wins.drop k).flatMap winB ++ ([] : List Int)))
        case atStart => exact ⟨0, [], _, _, _, rfl, rfl, rfl, S3a, World.ownsRow_nil _ _ _ _, Orv, Orv2, fun hg => ⟨(HA6.out hg).2.1, Nat.zero_le _, rfl, by rw [(HA6.out hg).2.2, ← H8.out]; rfl⟩⟩
        case round =>
          obtain ⟨k, l3, p, bad, v3, hk, rfl, hlk, S, O, Orv, Orv2, HX⟩ := hrel
          have HK := Lib.hid hk
          obtain ⟨oR, cR, bxR, LR, hcR⟩ := S.rd.st
          have y2 := bxR.cell 2
          have hpl := S.rd.le
          have hpm := S.rd.max
          have hk0 : (0 : Int) ≤ (k : Int) := by omega
          have hl9 : l3.length ≤ 33 := by omega
          by_cases hc : (k : Int) < n3 ∧ bad = false ∧ k < 33
          rotate_left
          · have HXX : Hid (g = true → bad = false ∧ l3 = K.wins ∧ bs.drop p = ([] : List Int)) := fun hg => by
              obtain ⟨e1, e2, e3, e4⟩ := HX.out hg
              have e5 := (HA6.out hg).1
              have e6 := (HNK.out hg).nw
              have e7 : K.wins.length ≤ k := by
                rcases Nat.lt_or_ge k K.wins.length with h | h
                · exact absurd ⟨by omega, e1, by omega⟩ hc
                · exact h
              obtain ⟨f1, f2⟩ := flat_nil_take K.wins k e7 winB ([] : List Int)
              exact ⟨e1, by rw [e3, f1], by rw [e4, f2]⟩
            clear LR
            by_cases c1 : (k : Int) < n3
            · cases bad with
              | true =>
                clear hc HX hk
                go_wp2_with fail
                go_meet
                exact ⟨l3, p, true, v3, S, O, hl9, Orv, Orv2, HXX⟩
              | false =>
                have c3 : ¬ k < 33 := fun h => hc ⟨c1, rfl, h⟩
                have c4 : ¬ ((k : Int) < 33) := by omega
                clear hc HX hk c3
                go_wp2_with fail
                go_meet
                exact ⟨l3, p, false, v3, S, O, hl9, Orv, Orv2, fun hg => ⟨rfl, (HXX.out hg).2⟩⟩
            · clear hc HX hk
              go_wp2_with fail
              go_meet
              exact ⟨l3, p, bad, v3, S, O, hl9, Orv, Orv2, HXX⟩
          obtain ⟨c1, rfl, c3⟩ := hc
          have c4 : (k : Int) < 33 := by omega
          have hl9s : l3.length < 33 := by omega
          have HOO := Lib.hid O
          have HOrv := Lib.hid Orv
          have HOrv2 := Lib.hid Orv2
          have HLK := Lib.hid hlk
          obtain ⟨pk, HPK⟩ : ∃ pk, Hid (g = true → pk ∈ K.wins ∧ bs.drop p = winB pk ++ ((K.wins.drop (k + 1)).flatMap winB ++ ([] : List Int)) ∧ K.wins.take (k + 1) = K.wins.take k ++ [pk] ∧ k + 1 ≤ K.wins.length ∧ l3 = K.wins.take k) := ⟨K.wins.getD k ⟨0, 0, 0⟩, fun hg => by
            have e5 := (HA6.out hg).1
            obtain ⟨-, -, e7, e6⟩ := HX.out hg
            have h : k < K.wins.length := by omega
            have e8 : K.wins.getD k ⟨0, 0, 0⟩ = K.wins[k] := by rw [List.getD_eq_getElem?_getD, List.getElem?_eq_getElem h]; rfl
            rw [e8]
            exact ⟨List.getElem_mem h, by rw [e6, flat_drop K.wins k h], by rw [List.take_succ_eq_append_getElem h], h, e7⟩⟩
          obtain ⟨tn, htn⟩ : ∃ t, (K.wins.drop (k + 1)).flatMap winB ++ ([] : List Int) = t := ⟨_, rfl⟩
          rw [htn] at HPK
          have HTN := Lib.hid htn
          have hS := S.l0
          clear hk hlk LR O Orv Orv2 bxR HX htn
          rename World => wx
          obtain ⟨P, hP⟩ : ∃ P, wx.heap.size = P := ⟨_, rfl⟩
          have HPw := Lib.hid hP
          obtain ⟨v0, hv0⟩ : ∃ W, wx.alloc (.cells #[.int .i64 0, .int .i64 0, .int .i64 0] 34) = W := ⟨_, rfl⟩
          have Cv : Chg wx v0 (fun _ => False) := by rw [← hv0]; exact (Chg.refl wx _).alloc _
          have BP := Box.new wx 34 #[.int .i64 0, .int .i64 0, .int .i64 0]
          rw [hv0, hP] at BP
          have TS0 := S.keep Cv
          have hPT : T5 < P := by have := S.b5.lt; omega
          have hPr : ¬ P = r := by omega
          have O0 := Lib.hid (own_chg HOO.out Cv (fun _ _ h => h))
          have hPO : Hid (∀ j, v3.ownBlock = some j → j < P) := fun j hj => by have := (HOO.out.lt j hj).2; omega
          have Ov0 := Lib.hid (own_chg HOrv.out Cv (fun _ _ h => h))
          have hPOv : Hid (∀ j, v.ownBlock = some j → j < P) := fun j hj => by have := (HOrv.out.lt j hj).2; omega
          have Ov20 := Lib.hid (own_chg HOrv2.out Cv (fun _ _ h => h))
          have hPOv2 : Hid (∀ j, v2.ownBlock = some j → j < P) := fun j hj => by have := (HOrv2.out.lt j hj).2; omega
          go_wp2_with fail
          refine (rn_any _ TS0.rd).mono ?_
          rintro e y0 ⟨x0, p0, b0, rfl, hwx0, Rnx0, Cnx0, hgnx0⟩
          have TS0n := TS0.num Rnx0 Cnx0
          have E0 : Hid (g = true → x0 = pk.start ∧ b0 = false ∧ bs.drop p0 = fourB pk.len ++ (fourB pk.part ++ (tn))) := fun hg => hgnx0 _ _ (((HNK.out hg).ws pk (HPK.out hg).1).1) (rfl) (by rw [(HPK.out hg).2.1, winB_eq])
          clear Rnx0 hgnx0
          clear hv0
          clear TS0
          have BP0n := BP.chg Cnx0 hPr

          have k1 := BP0n.cell 0
          have k2 := BP0n.frozen 0
          have CP0 : Chg y0 (y0.setCell ⟨P, 0, none⟩ (.int .i64 x0)) (fun j => j = P) := (Chg.refl y0 (fun j => j = P)).setCell (p := ⟨P, 0, none⟩) (fun _ => rfl) _
          have BP0 : Box (y0.setCell ⟨P, 0, none⟩ (.int .i64 x0)) P 34 #[.int .i64 x0, .int .i64 0, .int .i64 0] := BP0n.set 0 (.int .i64 x0)
          have TS1 := TS0n.turn CP0 (fun j h => by omega)
          have O1 := Lib.hid (own_chg (own_chg O0.out Cnx0 (fun j hj h => by have := (O0.out.lt j hj).1; omega)) CP0 (fun j hj h => by have := hPO.out j hj; omega))
          have Ov1 := Lib.hid (own_chg (own_chg Ov0.out Cnx0 (fun j hj h => by have := (Ov0.out.lt j hj).1; omega)) CP0 (fun j hj h => by have := hPOv.out j hj; omega))
          have Ov21 := Lib.hid (own_chg (own_chg Ov20.out Cnx0 (fun j hj h => by have := (Ov20.out.lt j hj).1; omega)) CP0 (fun j hj h => by have := hPOv2.out j hj; omega))
          clear BP BP0n TS0n CP0 Cnx0 O0 hwx0 Ov0 Ov20
          go_wp2_with fail
          refine (rn_any _ TS1.rd).mono ?_
          rintro e y1 ⟨x1, p1, b1, rfl, hwx1, Rnx1, Cnx1, hgnx1⟩
          have TS1n := TS1.num Rnx1 Cnx1
          have E1 : Hid (g = true → x1 = pk.len ∧ b1 = false ∧ bs.drop p1 = fourB pk.part ++ (tn)) := fun hg => hgnx1 _ _ (((HNK.out hg).ws pk (HPK.out hg).1).2.1) ((E0.out hg).2.1) ((E0.out hg).2.2)
          clear Rnx1 hgnx1
          clear TS1
          have BP1n := BP0.chg Cnx1 hPr
          clear k1 k2
          have k1 := BP1n.cell 1
          have k2 := BP1n.frozen 1
          have CP1 : Chg y1 (y1.setCell ⟨P, 1, none⟩ (.int .i64 x1)) (fun j => j = P) := (Chg.refl y1 (fun j => j = P)).setCell (p := ⟨P, 1, none⟩) (fun _ => rfl) _
          have BP1 : Box (y1.setCell ⟨P, 1, none⟩ (.int .i64 x1)) P 34 #[.int .i64 x0, .int .i64 x1, .int .i64 0] := BP1n.set 1 (.int .i64 x1)
          have TS2 := TS1n.turn CP1 (fun j h => by omega)
          have O2 := Lib.hid (own_chg (own_chg O1.out Cnx1 (fun j hj h => by have := (O1.out.lt j hj).1; omega)) CP1 (fun j hj h => by have := hPO.out j hj; omega))
          have Ov2 := Lib.hid (own_chg (own_chg Ov1.out Cnx1 (fun j hj h => by have := (Ov1.out.lt j hj).1; omega)) CP1 (fun j hj h => by have := hPOv.out j hj; omega))
          have Ov22 := Lib.hid (own_chg (own_chg Ov21.out Cnx1 (fun j hj h => by have := (Ov21.out.lt j hj).1; omega)) CP1 (fun j hj h => by have := hPOv2.out j hj; omega))
          clear BP0 BP1n TS1n CP1 Cnx1 O1 hwx1 Ov1 Ov21
          go_wp2_with fail
          refine (rn_any _ TS2.rd).mono ?_
          rintro e y2 ⟨x2, p2, b2, rfl, hwx2, Rnx2, Cnx2, hgnx2⟩
          have TS2n := TS2.num Rnx2 Cnx2
          have E2 : Hid (g = true → x2 = pk.part ∧ b2 = false ∧ bs.drop p2 = tn) := fun hg => hgnx2 _ _ (((HNK.out hg).ws pk (HPK.out hg).1).2.2) ((E1.out hg).2.1) ((E1.out hg).2.2)
          clear Rnx2 hgnx2
          clear TS2
          have BP2n := BP1.chg Cnx2 hPr
          clear k1 k2
          have k1 := BP2n.cell 2
          have k2 := BP2n.frozen 2
          have CP2 : Chg y2 (y2.setCell ⟨P, 2, none⟩ (.int .i64 x2)) (fun j => j = P) := (Chg.refl y2 (fun j => j = P)).setCell (p := ⟨P, 2, none⟩) (fun _ => rfl) _
          have BP2 : Box (y2.setCell ⟨P, 2, none⟩ (.int .i64 x2)) P 34 #[.int .i64 x0, .int .i64 x1, .int .i64 x2] := BP2n.set 2 (.int .i64 x2)
          have TS3 := TS2n.turn CP2 (fun j h => by omega)
          have O3 := Lib.hid (own_chg (own_chg O2.out Cnx2 (fun j hj h => by have := (O2.out.lt j hj).1; omega)) CP2 (fun j hj h => by have := hPO.out j hj; omega))
          have Ov3 := Lib.hid (own_chg (own_chg Ov2.out Cnx2 (fun j hj h => by have := (Ov2.out.lt j hj).1; omega)) CP2 (fun j hj h => by have := hPOv.out j hj; omega))
          have Ov23 := Lib.hid (own_chg (own_chg Ov22.out Cnx2 (fun j hj h => by have := (Ov22.out.lt j hj).1; omega)) CP2 (fun j hj h => by have := hPOv2.out j hj; omega))
          clear BP1 BP2n TS2n CP2 Cnx2 O2 hwx2 Ov2 Ov22
          go_upto_region 40 with fail
          obtain ⟨U6, hU6⟩ : ∃ W, y2.setCell ⟨P, 2, none⟩ (.int .i64 x2) = W := ⟨_, rfl⟩
          rw [hU6] at BP2 TS3 O3 Ov3 Ov23
          rw [hU6]
          clear hU6 k1 k2 hP
          have q3 := TS3.b5.cell 5
          have hsq := TS3.b5.lt
          have z0 := BP2.cell 0
          have z1 := BP2.cell 1
          have z2 := BP2.cell 2
          have hl9s : l3.length < 33 := by omega
          have HKc := Lib.hid (And.intro c3 c4)
          clear c1 c3 c4 hl9 hS hpl hpm
          have hN := ((Box.new U6 34 #[.int .i64 x0, .int .i64 x1, .int .i64 x2]).src 1 1 3 [.int .i64 x0, .int .i64 x1, .int .i64 x2] rfl rfl).get _ rfl
          go_wp2_with (at_builtin; go_loud (refine wpList_append_own _ rfl _ _ 25 rfl (T5 + 1) 34 i3 _ 3 24 Try.underlying25 hi3 hx0 hx1 hx2 rfl (by decide) _ _ _ rfl (own_alloc O3.out _) ⟨U6.heap.size, 0, none⟩ 1 1 [.int .i64 x0, .int .i64 x1, .int .i64 x2] rfl rfl hN (by intro u hu; simp only [List.mem_cons, List.not_mem_nil, or_false] at hu; rcases hu with rfl | rfl | rfl <;> rfl) (by unfold maxLen; omega) (by omega) (by simp; omega) ?_); go_loud (intro v' wz Oz hgz _); go_loud (refine ?roundEnd))
          case roundEnd =>
            obtain ⟨az, cz, rfl, -⟩ := own_form Oz
            have Sa := TS3.keep ((Chg.refl U6 (fun _ => False)).alloc (.cells #[.int .i64 x0, .int .i64 x1, .int .i64 x2] 34))
            obtain ⟨b3, Sz, Cz⟩ := Sa.grow hgz (fun j hj => (O3.out.lt j hj).1) 5 (.slice az (l3.length + 1) cz)
            have z3 := b3.cell 5
            have z4 := b3.frozen 5
            have Czc : Chg wz (wz.setCell ⟨T5, 5, none⟩ (.slice az (l3.length + 1) cz)) (fun k => k = T5) := (Chg.refl wz (fun k => k = T5)).setCell (p := ⟨T5, 5, none⟩) (fun _ => rfl) _
            have Ozz := own_chg Oz Czc (fun j hj h => by have := (Oz.lt j hj).1; omega)
            have OZv := Lib.hid (own_chg (own_chg Ov3.out ((Chg.refl U6 (fun _ => False)).alloc (.cells #[.int .i64 x0, .int .i64 x1, .int .i64 x2] 34)) (fun _ _ h => h)) Cz (fun j hj h => h.elim (fun h => by have := (Ov3.out.lt j hj).1; omega) (fun h => own_own_ne Ov3.out O3.out (by decide) j hj h)))
            have OZv2 := Lib.hid (own_chg (own_chg Ov23.out ((Chg.refl U6 (fun _ => False)).alloc (.cells #[.int .i64 x0, .int .i64 x1, .int .i64 x2] 34)) (fun _ _ h => h)) Cz (fun j hj h => h.elim (fun h => by have := (Ov23.out.lt j hj).1; omega) (fun h => own_own_ne Ov23.out O3.out (by decide) j hj h)))
            have HPK2 : Hid (g = true → (⟨x0, x1, x2⟩ : WinD) = pk) := fun hg => by
              rw [(E0.out hg).1, (E1.out hg).1, (E2.out hg).1]
            have HSZ2 := Lib.hid Sz
            have HOZ := Lib.hid Ozz
            have HLF := Lib.hid (show l3.flatMap winCells ++ [.int .i64 x0, .int .i64 x1, .int .i64 x2] = (l3 ++ [⟨x0, x1, x2⟩] : List WinD).flatMap winCells by rw [List.flatMap_append]; rfl)
            clear Sz Ozz Cz Czc Oz hgz Sa hl9s
            go_wp2_with fail
            go_roundg (gk - 1)
            case measure => have := HK.out; have := HKc.out.1; omega
            case rel =>
              have hc9 := HKc.out.2
              have hk9 := HKc.out.1
              refine ⟨k + 1, l3 ++ [⟨x0, x1, x2⟩], p2, b2, .slice az (l3.length + 1) cz, by have := HK.out; omega, congrArg (Value.int .i64) ((IntWalk.wrap64_in _ (by omega)).trans (by omega)), by rw [List.length_append, HLK.out]; rfl, HSZ2.out, ?_, OZv.out, OZv2.out, ?_⟩
              · rw [← HLF.out, show (l3 ++ [⟨x0, x1, x2⟩] : List WinD).length = l3.length + 1 by simp]
                exact HOZ.out
              · intro hg
                obtain ⟨f1, f2, f3, f4, f5⟩ := HPK.out hg
                exact ⟨(E2.out hg).2.1, f4, by rw [HPK2.out hg, f3, f5], by rw [(E2.out hg).2.2, ← HTN.out]⟩

      case rest =>
        obtain ⟨l3, p, bad, v3, S, O, hl9, Orv, Orv2, HX⟩ := hcut
        clear S3a
        rename World => wx
        obtain ⟨ap, cp, rfl, -, -, -, fp⟩ := own_form Orv
        obtain ⟨ac, cc, rfl, -, -, -, fc⟩ := own_form Orv2
        obtain ⟨aw, cw, rfl, -, -, -, fw⟩ := own_form O
        have HFAR : Hid ((∀ ad, ap = some ad → ¬ ad.block = T2) ∧ (∀ ad, ac = some ad → ¬ ad.block = T2) ∧ (∀ ad, aw = some ad → ¬ ad.block = T2)) := by
          have h1 := S.l1
          have h2 := S.l2
          refine ⟨fun ad e h => ?_, fun ad e h => ?_, fun ad e h => ?_⟩
          · obtain ⟨g, rfl, h3, _⟩ := fp ad e
            have h : g = T2 := h
            omega
          · obtain ⟨g, rfl, h3, _⟩ := fc ad e
            have h : g = T2 := h
            omega
          · obtain ⟨g, rfl, h3, _⟩ := fw ad e
            have h : g = T2 := h
            omega
        clear fp fc fw
        obtain ⟨C, hC⟩ : ∃ C : Cfg, C = ⟨pg, mj, sw, l, l2, l3⟩ := ⟨_, rfl⟩
        have CF : CfgAt wx C ap ac aw cp cc cw := by
          subst hC
          exact ⟨own_lst Orv, own_lst Orv2, own_lst O, fun p hp => Nat.le_trans (HN1.out p hp) (by unfold maxLen; omega)⟩
        have hpg : C.pages = pg := by rw [hC]
        have hmj : C.major = mj := by rw [hC]
        have hsw : C.switch = sw := by rw [hC]
        have hnp : C.parts.length = l.length := by rw [hC]
        have hnc : C.chans.length = l2.length := by rw [hC]
        have hnw : C.wins.length = l3.length := by rw [hC]
        have HGK : Hid (g = true → bad = false ∧ C = K) := fun hg => ⟨(HX.out hg).1, by
          obtain ⟨h1, h2, h3⟩ := HKP.out hg
          rw [hC, h1, h2, h3, HXl.out hg, HXm.out hg, (HX.out hg).2.1]⟩
        obtain ⟨np, hnp'⟩ : ∃ x, l.length = x := ⟨_, rfl⟩
        obtain ⟨nc, hnc'⟩ : ∃ x, l2.length = x := ⟨_, rfl⟩
        obtain ⟨nw, hnw'⟩ : ∃ x, l3.length = x := ⟨_, rfl⟩
        rw [hnp', hnc', hnw'] at S
        rw [hnp'] at hnp
        rw [hnc'] at hnc
        rw [hnw'] at hnw
        clear Orv Orv2 O HX HKP HXl HXm hnp' hnc' hnw' hC HL1 HL2 HN1 hl9
        have HCE : Hid (cfgCells C ap ac aw cp cc cw = #[.int .i64 pg, .int .i64 mj, .int .i64 sw, .slice ap np cp, .slice ac nc cc, .slice aw nw cw]) := by
          show _ = _
          unfold cfgCells
          rw [hpg, hmj, hsw, hnp, hnc, hnw]
        have q0 := S.b5.cell 0
        have q1 := S.b5.cell 1
        have q2 := S.b5.cell 2
        have q3 := S.b5.cell 3
        have q4 := S.b5.cell 4
        have q5 := S.b5.cell 5
        by_cases hck : chk C = 0
        rotate_left
        · have HPK := rcpack_bad_at CF rfl hck hpg hmj hsw hnp hnc hnw
          obtain ⟨vk, hvk⟩ : ∃ v, chk C = v := ⟨_, rfl⟩
          have hgf : g = false := by
            cases g with
            | false => rfl
            | true => exact absurd (by rw [(HGK.out rfl).2]; exact (HG1.out rfl).1) hck
          have HGF := Lib.hid hgf
          rw [hvk] at HPK hck
          have hckb : (vk != 0) = true := bne_iff_ne.2 hck
          clear hpg hmj hsw hnp hnc hnw hgf hvk CF
          go_wp2_with fail
          refine HPK.mono ?_
          rintro e w7 ⟨rfl, C7⟩
          have S7 := S.keep C7
          clear HPK S q0 q1 q2 q3 q4 q5
          obtain ⟨oR, cR, bxR, LR, hcR⟩ := S7.rd.st
          have y2 := bxR.cell 2
          have z0 := S7.b2.frozen 0
          have z1 := S7.b2.frozen 1
          have z2 := S7.b2.frozen 2
          have z3 := S7.b2.frozen 3
          have z4 := S7.b2.frozen 4
          have z5 := S7.b2.frozen 5
          have q0 := S7.b2.cell 0
          have q1 := S7.b2.cell 1
          have q2 := S7.b2.cell 2
          have q3 := S7.b2.cell 3
          have q4 := S7.b2.cell 4
          have q5 := S7.b2.cell 5
          obtain ⟨E1, E2⟩ := six_sets S7.b2 (.int .i64 0) (.int .i64 0) (.int .i64 0) (.slice none 0 0) (.slice none 0 0) (.slice none 0 0)
          have HE := Lib.hid (And.intro E1 (S7.chg.trans' E2 (fun k hk h => by have := S7.l0; omega)))
          clear E1 E2 S7 bxR LR
          cases bad with
          | true =>
            go_wp2_with fail
            exact HEND.out _ _ HE.out.1 HE.out.2 rfl rfl HGF.out
          | false =>
            go_wp2_with fail
            exact HEND.out _ _ HE.out.1 HE.out.2 rfl rfl HGF.out
        obtain ⟨PB, hPB⟩ : ∃ P, packC C = P := ⟨_, rfl⟩
        have hrp : rngB PB := by rw [← hPB]; exact rngB_append (rngB_head C) (fourB_rng _)
        have HPK := rcpack_ok_at CF hck hpg hmj hsw hnp hnc hnw hPB
        have HUN : Hid (PB = xs → unV xs = (C, 0)) := fun h => by rw [← h, ← hPB]; exact unV_pack hck
        have HGF : Hid (¬ (bad = false ∧ PB = xs) → g = false) := fun h => by
          cases g with
          | false => rfl
          | true =>
            exfalso
            obtain ⟨h1, h2⟩ := HGK.out rfl
            exact h ⟨h1, by rw [← hPB, h2]; exact (HG1.out rfl).2⟩
        clear hpg hmj hsw hnp hnc hnw HGK hPB hck
        go_wp2_with fail
        refine HPK.mono ?_
        rintro e w7 ⟨a7, c7, rfl, O7, C7⟩
        have S7 := S.keep C7
        have CF7 := CF.keep C7
        clear HPK S CF q0 q1 q2 q3 q4 q5
        obtain ⟨oR, cR, bxR, LR, hcR⟩ := S7.rd.st
        have y2 := bxR.cell 2
        have z0 := S7.b2.frozen 0
        have z1 := S7.b2.frozen 1
        have z2 := S7.b2.frozen 2
        have z3 := S7.b2.frozen 3
        have z4 := S7.b2.frozen 4
        have z5 := S7.b2.frozen 5
        have q0 := S7.b2.cell 0
        have q1 := S7.b2.cell 1
        have q2 := S7.b2.cell 2
        have q3 := S7.b2.cell 3
        have q4 := S7.b2.cell 4
        have q5 := S7.b2.cell 5
        obtain ⟨E1, E2⟩ := six_sets S7.b2 (.int .i64 0) (.int .i64 0) (.int .i64 0) (.slice none 0 0) (.slice none 0 0) (.slice none 0 0)
        have HE := Lib.hid (And.intro E1 (S7.chg.trans' E2 (fun k hk h => by have := S7.l0; omega)))
        clear E1 E2 bxR LR
        cases bad with
        | true =>
          have HGF2 := Lib.hid (HGF.out (fun h => by cases h.1))
          clear S7
          go_wp2_with fail
          exact HEND.out _ _ HE.out.1 HE.out.2 rfl rfl HGF2.out
        | false =>
          have L7 := HSX.out.chg S7.chg (fun _ _ h => h)
          have hcv1 := conv_src w7 (own_src O7)
          have hcv2 := conv_src w7 L7.src
          have HB := str_beq hrp hx
          obtain ⟨s1, hs1⟩ : ∃ s, strOfNums PB = s := ⟨_, rfl⟩
          obtain ⟨s2, hs2⟩ : ∃ s, strOfNums xs = s := ⟨_, rfl⟩
          rw [hs1] at hcv1 HB
          rw [hs2] at hcv2 HB
          have HS7 := Lib.hid S7
          clear hs1 hs2 O7 L7 S7
          by_cases he : PB = xs
          rotate_left
          · rw [decide_eq_false he] at HB
            have HGF2 := Lib.hid (HGF.out (fun h => he h.2))
            clear he HGF HUN
            go_wp2_with fail
            exact HEND.out _ _ HE.out.1 HE.out.2 rfl rfl HGF2.out
          · rw [decide_eq_true he] at HB
            have HUN2 := Lib.hid (HUN.out he)
            obtain ⟨E3, E4⟩ := six_sets HS7.out.b2 (.int .i64 pg) (.int .i64 mj) (.int .i64 sw) (.slice ap np cp) (.slice ac nc cc) (.slice aw nw cw)
            have HE3 := Lib.hid (And.intro E3 E4)
            have x0 := HS7.out.b5.cell 0
            have x1 := HS7.out.b5.cell 1
            have x2 := HS7.out.b5.cell 2
            have x3 := HS7.out.b5.cell 3
            have x4 := HS7.out.b5.cell 4
            have x5 := HS7.out.b5.cell 5
            clear he HGF HUN HE E3 E4
            have HCF := Lib.hid CF7
            clear CF7
            go_wp2_with fail
            refine ⟨rfl, _, HRES.out _ _ 0 _ _ _ _ _ _ rfl rfl HE3.out.1, C, 0, ap, ac, aw, cp, cc, cw, HUN2.out, ?_, ?_, ?_⟩
            · rw [HCE.out]
            · exact HCF.out.chg HE3.out.2 HFAR.out.1 HFAR.out.2.1 HFAR.out.2.2
            · exact HS7.out.chg.trans' HE3.out.2 (fun k hk h => by have := HS7.out.l0; omega)

end Go.Proofs.Ytdhkbephofnfdaa

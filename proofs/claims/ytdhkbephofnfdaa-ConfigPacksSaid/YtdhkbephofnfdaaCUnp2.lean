/- config.Unpack: the whole. -/
import Derived.Test.YtdhkbephofnfdaaCUnp
namespace Go.Proofs.Ytdhkbephofnfdaa
open Go.RowKit

set_option maxRecDepth 100000 in
theorem pack_bad {C : Cfg} {ap ac aw : Option Addr} {cp cc cw : Nat} (w : World) (h : CfgAt w C ap ac aw cp cc cw) (hc : ¬ chk C = 0) :
    Calls Try.prog 36 #[.agg (cfgCells C ap ac aw cp cc cw)] w fun e w' => e = .returned (.tuple #[.slice none 0 0, .int .i64 (chk C)]) ∧ Chg w w' (fun _ => False) := by
  unfold cfgCells
  obtain ⟨ck, hck⟩ : ∃ x, chk C = x := ⟨_, rfl⟩
  rw [hck] at hc
  obtain ⟨pg, hpg⟩ : ∃ x, C.pages = x := ⟨_, rfl⟩
  obtain ⟨mj, hmj⟩ : ∃ x, C.major = x := ⟨_, rfl⟩
  obtain ⟨sw, hsw⟩ : ∃ x, C.switch = x := ⟨_, rfl⟩
  obtain ⟨np, hnp⟩ : ∃ x, C.parts.length = x := ⟨_, rfl⟩
  obtain ⟨nc, hnc⟩ : ∃ x, C.chans.length = x := ⟨_, rfl⟩
  obtain ⟨nw, hnw⟩ : ∃ x, C.wins.length = x := ⟨_, rfl⟩
  rw [hpg, hmj, hsw, hnp, hnc, hnw, hck]
  have Cb : Chg w (w.alloc (.cells #[.int .i64 pg, .int .i64 mj, .int .i64 sw, .slice ap np cp, .slice ac nc cc, .slice aw nw cw] 27)) (fun _ => False) := (Chg.refl w _).alloc _
  have HCK := check_at (h.keep Cb) hck hpg hmj hsw hnp hnc hnw
  have hcb : (ck != 0) = true := bne_iff_ne.2 hc
  clear hck hpg hmj hsw hnp hnc hnw h
  go_enter Try.func36, Try.ntmps36
  go_wp2_with fail
  refine HCK.mono ?_
  rintro e w1 ⟨rfl, C1⟩
  clear HCK
  go_wp2_with fail
  go_ret2
  exact ⟨rfl, Cb.trans C1⟩

theorem pack_ok_at {C : Cfg} {ap ac aw : Option Addr} {cp cc cw : Nat} {w : World} (h : CfgAt w C ap ac aw cp cc cw) (hv : chk C = 0) {pg mj sw : Int} {a b c : Nat} (h1 : C.pages = pg) (h2 : C.major = mj) (h3 : C.switch = sw) (ha : C.parts.length = a) (hb : C.chans.length = b) (hc : C.wins.length = c) {P : List Int} (hP : packC C = P) :
    Calls Try.prog 36 #[.agg #[.int .i64 pg, .int .i64 mj, .int .i64 sw, .slice ap a cp, .slice ac b cc, .slice aw c cw]] w fun e w' => ∃ ao cap, e = .returned (.tuple #[.slice ao P.length cap, .int .i64 0]) ∧ w'.ownsRow w.heap.size 5 1 (.slice ao P.length cap) P.length (u8s P) ∧ Chg w w' (fun _ => False) := by
  subst h1 h2 h3 ha hb hc hP
  exact pack_ok w h hv
theorem pack_bad_at {C : Cfg} {ap ac aw : Option Addr} {cp cc cw : Nat} {w : World} (h : CfgAt w C ap ac aw cp cc cw) {v : Int} (hv : chk C = v) (h0 : ¬ v = 0) {pg mj sw : Int} {a b c : Nat} (h1 : C.pages = pg) (h2 : C.major = mj) (h3 : C.switch = sw) (ha : C.parts.length = a) (hb : C.chans.length = b) (hc : C.wins.length = c) :
    Calls Try.prog 36 #[.agg #[.int .i64 pg, .int .i64 mj, .int .i64 sw, .slice ap a cp, .slice ac b cc, .slice aw c cw]] w fun e w' => e = .returned (.tuple #[.slice none 0 0, .int .i64 v]) ∧ Chg w w' (fun _ => False) := by
  subst h1 h2 h3 ha hb hc hv
  exact pack_bad w h h0

def zeroC : Cfg := ⟨0, 0, 0, [], [], []⟩
/-- What Unpack tells of bytes. -/
def unV (xs : List Int) : Cfg × Int := match pCfg xs with
  | some (C, _) => if chk C = 0 ∧ packC C = xs then (C, 0) else (zeroC, 4)
  | none => (zeroC, 4)

def UnpR (w w' : World) (xs : List Int) (e : Ending) : Prop :=
  ∃ C x ap ac aw cp cc cw, unV xs = (C, x) ∧ e = .returned (.tuple #[.agg (cfgCells C ap ac aw cp cc cw), .int .i64 x]) ∧ CfgAt w' C ap ac aw cp cc cw ∧ Chg w w' (fun _ => False)

set_option maxRecDepth 100000 in
set_option maxHeartbeats 4000000 in
theorem unpack_any {ao : Option Addr} {c : Nat} {xs : List Int} (w : World) (hs : Lst w ao xs.length c (u8s xs) 1) (hx : bytesOk xs) (ha : ∀ ad, ao = some ad → ∃ g o, ad = ⟨g, o, none⟩ ∧ g < w.heap.size) :
    Calls Try.prog 39 #[.slice ao xs.length c] w fun e w' => UnpR w w' xs e := by
  have hmt := hs.mx
  obtain ⟨gb, hgb, hgw⟩ : ∃ gb, (∀ ad, ao = some ad → ∃ o, ad = ⟨gb, o, none⟩) ∧ gb ≤ w.heap.size := by
    cases ao with
    | none => exact ⟨w.heap.size, fun ad h => (by cases h), Nat.le_refl _⟩
    | some ad => obtain ⟨g, o, rfl, hg⟩ := ha ad rfl; exact ⟨g, fun ad h => (by cases h; exact ⟨o, rfl⟩), by omega⟩
  obtain ⟨wA, hwA⟩ : ∃ wA, ((w.alloc (.cells #[.int .i64 0, .int .i64 0, .int .i64 0, .slice none 0 0, .slice none 0 0, .slice none 0 0] 27)).alloc (.cells #[.int .i64 0] 36)).alloc (.cells #[.slice ao xs.length c] 111) = wA := ⟨_, rfl⟩
  have CA : Chg w wA (fun _ => False) := by rw [← hwA]; exact (((Chg.refl w _).alloc _).alloc _).alloc _
  have B2 : Box wA w.heap.size 27 #[.int .i64 0, .int .i64 0, .int .i64 0, .slice none 0 0, .slice none 0 0, .slice none 0 0] := by rw [← hwA]; exact ((Box.new w _ _).alloc _).alloc _
  have B3 : Box wA (w.heap.size + 1) 36 #[.int .i64 0] := by
    have := (Box.new (w.alloc (.cells #[.int .i64 0, .int .i64 0, .int .i64 0, .slice none 0 0, .slice none 0 0, .slice none 0 0] 27)) 36 #[.int .i64 0]).alloc (.cells #[.slice ao xs.length c] 111)
    rw [World.size_alloc, hwA] at this
    exact this
  have Br : Box wA (w.heap.size + 1 + 1) 111 #[.slice ao xs.length c] := by
    have := Box.new ((w.alloc (.cells #[.int .i64 0, .int .i64 0, .int .i64 0, .slice none 0 0, .slice none 0 0, .slice none 0 0] 27)).alloc (.cells #[.int .i64 0] 36)) 111 #[.slice ao xs.length c]
    rw [World.size_alloc, World.size_alloc, hwA] at this
    exact this
  have hlr := Br.lt
  have SA := hs.chg CA (fun _ _ h => h)
  have RA : RdAt wA (w.heap.size + 1 + 1) gb xs := ⟨⟨ao, c, Br, SA.src, hs.le, hmt, hgb⟩, by omega, hx, by omega⟩
  obtain ⟨hU, HU⟩ : ∃ u, Hid (unV xs = u ∧ u = match pCfg xs with
    | some (C, _) => if chk C = 0 ∧ packC C = xs then (C, 0) else (zeroC, 4)
    | none => (zeroC, 4)) := ⟨_, rfl, rfl⟩
  have HSA := Lib.hid SA
  have hmf : ∀ (fn : Fn) (first cap : Array Value) (w : World), (Instr.makeFunc fn first cap).run Try.prog w = .ok (.func fn first cap) w := fun _ _ _ _ => rfl
  go_enter_defers Try.func39, Try.ntmps39
  go_wp2_with fail
  refine (read_cfg wA RA hlr).mono ?_
  rintro e w1 (⟨C, t, ap, ac, aw, cp, cc, cw, hp, rfl, CF, hfar, C1⟩ | ⟨hp, rfl, C1⟩)
  rotate_left
  · have hun : unV xs = (zeroC, 4) := by rw [HU.out.1, HU.out.2, hp]
    refine leaves_cons (f := 57) (args := #[.pointer (some ⟨w.heap.size, 0, none⟩), .pointer (some ⟨w.heap.size + 1, 0, none⟩)]) (by simp) (by simp [go_sem]) ?_
    refine (un1_caught _ _ w1 _ _ _ _ _ _ _ (B2.chg C1 (fun h => by omega)) (B3.chg C1 (fun h => by omega)) (by omega) []).mono ?_
    rintro e u' w2 ⟨rfl, rfl, G2, G3, C2⟩
    have y0 : w2.cell? ⟨w.heap.size, 0, none⟩ = some (.int .i64 0) := G2.cell 0
    have y1 : w2.cell? ⟨w.heap.size, 1, none⟩ = some (.int .i64 0) := G2.cell 1
    have y2 : w2.cell? ⟨w.heap.size, 2, none⟩ = some (.int .i64 0) := G2.cell 2
    have y3 : w2.cell? ⟨w.heap.size, 3, none⟩ = some (.slice none 0 0) := G2.cell 3
    have y4 : w2.cell? ⟨w.heap.size, 4, none⟩ = some (.slice none 0 0) := G2.cell 4
    have y5 : w2.cell? ⟨w.heap.size, 5, none⟩ = some (.slice none 0 0) := G2.cell 5
    have y6 : w2.cell? ⟨w.heap.size + 1, 0, none⟩ = some (.int .i64 4) := G3.cell 0
    refine ⟨.tuple #[.agg cfg0, .int .i64 4], ?_, ?_⟩
    · clear G2 G3 C2 C1 hun HU RA
      simp [results, Try.results39, go_sem, y0, y1, y2, y3, y4, y5, y6, cfg0]
    · exact ⟨zeroC, 4, none, none, none, 0, 0, 0, hun, rfl, ⟨Lst.none _ _, Lst.none _ _, Lst.none _ _, fun p hp => (by cases hp)⟩, (CA.trans' C1 (fun k hk h => by omega)).trans' C2 (fun k hk h => by omega)⟩
  have hpk : ∀ k, k = w.heap.size ∨ k = w.heap.size + 1 → w.heap.size ≤ k := fun k h => by omega
  have HUN : Hid (unV xs = if chk C = 0 ∧ packC C = xs then (C, 0) else (zeroC, 4)) := by show _ = _; rw [HU.out.1, HU.out.2, hp]
  obtain ⟨far1, far2, far3⟩ := hfar
  have hwAs : wA.heap.size = w.heap.size + 1 + 1 + 1 := by rw [← hwA, World.size_alloc, World.size_alloc, World.size_alloc]
  have HCF := Lib.hid CF
  unfold cfgCells
  obtain ⟨pg, hpg⟩ : ∃ x, C.pages = x := ⟨_, rfl⟩
  obtain ⟨mj, hmj⟩ : ∃ x, C.major = x := ⟨_, rfl⟩
  obtain ⟨sw, hsw⟩ : ∃ x, C.switch = x := ⟨_, rfl⟩
  obtain ⟨np, hnp⟩ : ∃ x, C.parts.length = x := ⟨_, rfl⟩
  obtain ⟨nc, hnc⟩ : ∃ x, C.chans.length = x := ⟨_, rfl⟩
  obtain ⟨nw, hnw⟩ : ∃ x, C.wins.length = x := ⟨_, rfl⟩
  rw [hpg, hmj, hsw, hnp, hnc, hnw]
  rw [hnp] at far1
  rw [hnc] at far2
  rw [hnw] at far3
  have B21 := B2.chg C1 (fun h => by omega)
  have B31 := B3.chg C1 (fun h => by omega)
  have z0 := B21.frozen 0
  have z1 := B21.frozen 1
  have z2 := B21.frozen 2
  have z3 := B21.frozen 3
  have z4 := B21.frozen 4
  have z5 := B21.frozen 5
  have x0 := B21.cell 0
  have x1 := B21.cell 1
  have x2 := B21.cell 2
  have x3 := B21.cell 3
  have x4 := B21.cell 4
  have x5 := B21.cell 5
  have hw1 := C1.size
  obtain ⟨W2, hW2⟩ : ∃ W, ((((((w1.setCell ⟨w.heap.size, 0, none⟩ (.int .i64 pg)).setCell ⟨w.heap.size, 1, none⟩ (.int .i64 mj)).setCell ⟨w.heap.size, 2, none⟩ (.int .i64 sw)).setCell ⟨w.heap.size, 3, none⟩ (.slice ap np cp)).setCell ⟨w.heap.size, 4, none⟩ (.slice ac nc cc)).setCell ⟨w.heap.size, 5, none⟩ (.slice aw nw cw)) = W := ⟨_, rfl⟩
  have CW : Chg w1 W2 (fun k => k = w.heap.size) := by rw [← hW2]; exact ((((((Chg.refl w1 (fun k => k = w.heap.size)).setCell (p := ⟨w.heap.size, 0, none⟩) (fun _ => rfl) _).setCell (p := ⟨w.heap.size, 1, none⟩) (fun _ => rfl) _).setCell (p := ⟨w.heap.size, 2, none⟩) (fun _ => rfl) _).setCell (p := ⟨w.heap.size, 3, none⟩) (fun _ => rfl) _).setCell (p := ⟨w.heap.size, 4, none⟩) (fun _ => rfl) _).setCell (p := ⟨w.heap.size, 5, none⟩) (fun _ => rfl) _
  have B2W : Box W2 w.heap.size 27 #[.int .i64 pg, .int .i64 mj, .int .i64 sw, .slice ap np cp, .slice ac nc cc, .slice aw nw cw] := by rw [← hW2]; exact (((((B21.set 0 _).set 1 _).set 2 _).set 3 _).set 4 _).set 5 _
  have B3W := B31.chg CW (fun h => by omega)
  have hap : ∀ ad, ap = some ad → ¬ ad.block = w.heap.size := fun ad e h => by subst e; have := far1 ad.block rfl; omega
  have hac : ∀ ad, ac = some ad → ¬ ad.block = w.heap.size := fun ad e h => by subst e; have := far2 ad.block rfl; omega
  have HAP1 := Lib.hid (fun ad (e : ap = some ad) (h : ad.block = w.heap.size + 1) => by subst e; have := far1 ad.block rfl; omega : ∀ ad, ap = some ad → ¬ ad.block = w.heap.size + 1)
  have HAC1 := Lib.hid (fun ad (e : ac = some ad) (h : ad.block = w.heap.size + 1) => by subst e; have := far2 ad.block rfl; omega : ∀ ad, ac = some ad → ¬ ad.block = w.heap.size + 1)
  have HAW1 := Lib.hid (fun ad (e : aw = some ad) (h : ad.block = w.heap.size + 1) => by subst e; have := far3 ad.block rfl; omega : ∀ ad, aw = some ad → ¬ ad.block = w.heap.size + 1)
  have haw : ∀ ad, aw = some ad → ¬ ad.block = w.heap.size := fun ad e h => by subst e; have := far3 ad.block rfl; omega
  have CFW : CfgAt W2 C ap ac aw cp cc cw := ⟨CF.ps.chg CW hap, CF.cs.chg CW hac, CF.ws.chg CW haw, CF.names⟩
  have q0 := B2W.cell 0
  have q1 := B2W.cell 1
  have q2 := B2W.cell 2
  have q3 := B2W.cell 3
  have q4 := B2W.cell 4
  have q5 := B2W.cell 5
  have SW := (HSA.out.chg C1 (fun ad e h => by obtain ⟨g, o, rfl, hg⟩ := ha ad e; have h2 : g = _ := h; omega)).chg CW (fun ad e h => by obtain ⟨g, o, rfl, hg⟩ := ha ad e; have h2 : g = _ := h; omega)
  have CWW : Chg w W2 (fun _ => False) := (CA.trans' C1 (fun k hk h => by omega)).trans' CW (fun k hk h => by omega)
  clear CF B21 B31 hwA
  go_upto_region 4 with fail
  clear z0 z1 z2 z3 z4 z5 x0 x1 x2 x3 x4 x5 hW2
  by_cases hck : chk C = 0
  · obtain ⟨PB, hPB⟩ : ∃ P, packC C = P := ⟨_, rfl⟩
    have hrp : rngB PB := by rw [← hPB]; exact rngB_append (rngB_head C) (fourB_rng _)
    have HPK := pack_ok_at CFW hck hpg hmj hsw hnp hnc hnw hPB
    rw [hPB] at HUN
    have HUN2 : Hid (unV xs = if PB = xs then (C, 0) else (zeroC, 4)) := by show _ = _; rw [HUN.out]; simp [hck]
    have HPG := Lib.hid hpg
    have HMJ := Lib.hid hmj
    have HSWx := Lib.hid hsw
    have HNP := Lib.hid hnp
    have HNC := Lib.hid hnc
    have HNW := Lib.hid hnw
    have HFAR := Lib.hid (And.intro hap (And.intro hac haw))
    have HCFW := Lib.hid CFW
    clear hck HUN hPB hpg hmj hsw hnp hnc hnw hap hac haw far1 far2 far3 CFW HCF
    go_wp2_with fail
    refine HPK.mono ?_
    rintro e w3 ⟨ao9, c9, rfl, O9, C9⟩
    have B23 := B2W.chg C9 (fun h => h)
    have B33 := B3W.chg C9 (fun h => h)
    have S3 := SW.chg C9 (fun _ _ h => h)
    have CW3 := CWW.trans C9
    have HEQ := equal_any w3 (own_src O9) S3.src hrp hx
    have HC9 := Lib.hid C9
    clear HPK B2W B3W SW O9 q0 q1 q2 q3 q4 q5 C9 S3
    by_cases he : PB = xs
    · rw [decide_eq_true he] at HEQ
      have hun : unV xs = (C, 0) := by rw [HUN2.out, if_pos he]
      have q0 := B23.cell 0
      have q1 := B23.cell 1
      have q2 := B23.cell 2
      have q3 := B23.cell 3
      have q4 := B23.cell 4
      have q5 := B23.cell 5
      have z0 := B23.frozen 0
      have z1 := B23.frozen 1
      have z2 := B23.frozen 2
      have z3 := B23.frozen 3
      have z4 := B23.frozen 4
      have z5 := B23.frozen 5
      have d0 := B33.cell 0
      have e0 := B33.frozen 0
      clear he
      go_wp2_with (go_at_call 59; refine HEQ.mono ?_; rintro e w' ⟨rfl, rfl⟩)
      refine leaves_cons (f := 57) (args := #[.pointer (some ⟨w.heap.size, 0, none⟩), .pointer (some ⟨w.heap.size + 1, 0, none⟩)]) (by simp) (by simp [go_sem]) ?_
      have C6 := ((((((Chg.refl w3 (fun k => k = w.heap.size)).setCell (p := ⟨w.heap.size, 0, none⟩) (fun _ => rfl) (.int .i64 pg)).setCell (p := ⟨w.heap.size, 1, none⟩) (fun _ => rfl) (.int .i64 mj)).setCell (p := ⟨w.heap.size, 2, none⟩) (fun _ => rfl) (.int .i64 sw)).setCell (p := ⟨w.heap.size, 3, none⟩) (fun _ => rfl) (.slice ap np cp)).setCell (p := ⟨w.heap.size, 4, none⟩) (fun _ => rfl) (.slice ac nc cc)).setCell (p := ⟨w.heap.size, 5, none⟩) (fun _ => rfl) (.slice aw nw cw)
      have E2 : Box _ w.heap.size 27 #[.int .i64 pg, .int .i64 mj, .int .i64 sw, .slice ap np cp, .slice ac nc cc, .slice aw nw cw] := (((((B23.set 0 (.int .i64 pg)).set 1 (.int .i64 mj)).set 2 (.int .i64 sw)).set 3 (.slice ap np cp)).set 4 (.slice ac nc cc)).set 5 (.slice aw nw cw)
      have hn1 : w.heap.size ≠ w.heap.size + 1 := by omega
      have hn2 : ¬ (w.heap.size + 1 = w.heap.size) := by omega
      have E3 := (B33.chg C6 hn2).set 0 (.int .i64 0)
      have E2b := E2.far (p := ⟨w.heap.size + 1, 0, none⟩) hn1 (.int .i64 0)
      have C7 := (C6.mono (fun _ _ h => Or.inl h : ∀ k, k < w3.heap.size → k = w.heap.size → k = w.heap.size ∨ k = w.heap.size + 1)).setCell (p := ⟨w.heap.size + 1, 0, none⟩) (fun _ => .inr rfl) (.int .i64 0)
      refine (un1_idle _ _ _).mono ?_
      rintro e u' w5 ⟨rfl, rfl, rfl⟩
      obtain ⟨W5, hW5⟩ : ∃ W, (((((((w3.setCell ⟨w.heap.size, 0, none⟩ (.int .i64 pg)).setCell ⟨w.heap.size, 1, none⟩ (.int .i64 mj)).setCell ⟨w.heap.size, 2, none⟩ (.int .i64 sw)).setCell ⟨w.heap.size, 3, none⟩ (.slice ap np cp)).setCell ⟨w.heap.size, 4, none⟩ (.slice ac nc cc)).setCell ⟨w.heap.size, 5, none⟩ (.slice aw nw cw)).setCell ⟨w.heap.size + 1, 0, none⟩ (.int .i64 0)) = W := ⟨_, rfl⟩
      rw [hW5] at E2b E3 C7
      rw [hW5]
      have y0 : W5.cell? ⟨w.heap.size, 0, none⟩ = some (.int .i64 pg) := E2b.cell 0
      have y1 : W5.cell? ⟨w.heap.size, 1, none⟩ = some (.int .i64 mj) := E2b.cell 1
      have y2 : W5.cell? ⟨w.heap.size, 2, none⟩ = some (.int .i64 sw) := E2b.cell 2
      have y3 : W5.cell? ⟨w.heap.size, 3, none⟩ = some (.slice ap np cp) := E2b.cell 3
      have y4 : W5.cell? ⟨w.heap.size, 4, none⟩ = some (.slice ac nc cc) := E2b.cell 4
      have y5 : W5.cell? ⟨w.heap.size, 5, none⟩ = some (.slice aw nw cw) := E2b.cell 5
      have y6 : W5.cell? ⟨w.heap.size + 1, 0, none⟩ = some (.int .i64 0) := E3.cell 0
      obtain ⟨hap, hac, haw⟩ := HFAR.out
      refine ⟨.tuple #[.agg #[.int .i64 pg, .int .i64 mj, .int .i64 sw, .slice ap np cp, .slice ac nc cc, .slice aw nw cw], .int .i64 0], ?_, ?_⟩
      · clear E2b E3 C7 hun RA CW3 C6 E2 hW5 B23 B33 HFAR
        simp [results, Try.results39, go_sem, y0, y1, y2, y3, y4, y5, y6]
      · have CF := HCFW.out.keep HC9.out
        refine ⟨C, 0, ap, ac, aw, cp, cc, cw, hun, ?_, ⟨CF.ps.chg C7 (fun ad e h => ?_), CF.cs.chg C7 (fun ad e h => ?_), CF.ws.chg C7 (fun ad e h => ?_), CF.names⟩, CW3.trans' C7 (fun k hk h => by omega)⟩
        · unfold cfgCells
          rw [HPG.out, HMJ.out, HSWx.out, HNP.out, HNC.out, HNW.out]
        · rcases h with h | h
          · exact hap ad e h
          · exact HAP1.out ad e h
        · rcases h with h | h
          · exact hac ad e h
          · exact HAC1.out ad e h
        · rcases h with h | h
          · exact haw ad e h
          · exact HAW1.out ad e h
    · rw [decide_eq_false he] at HEQ
      have hun : unV xs = (zeroC, 4) := by rw [HUN2.out, if_neg he]
      go_wp2_with (go_at_call 59; refine HEQ.mono ?_; rintro e w' ⟨rfl, rfl⟩)
      refine leaves_cons (f := 57) (args := #[.pointer (some ⟨w.heap.size, 0, none⟩), .pointer (some ⟨w.heap.size + 1, 0, none⟩)]) (by simp) (by simp [go_sem]) ?_
      refine (un1_caught _ _ w3 _ _ _ _ _ _ _ B23 B33 (by omega) []).mono ?_
      rintro e u' w4 ⟨rfl, rfl, G2, G3, C4⟩
      have y0 : w4.cell? ⟨w.heap.size, 0, none⟩ = some (.int .i64 0) := G2.cell 0
      have y1 : w4.cell? ⟨w.heap.size, 1, none⟩ = some (.int .i64 0) := G2.cell 1
      have y2 : w4.cell? ⟨w.heap.size, 2, none⟩ = some (.int .i64 0) := G2.cell 2
      have y3 : w4.cell? ⟨w.heap.size, 3, none⟩ = some (.slice none 0 0) := G2.cell 3
      have y4 : w4.cell? ⟨w.heap.size, 4, none⟩ = some (.slice none 0 0) := G2.cell 4
      have y5 : w4.cell? ⟨w.heap.size, 5, none⟩ = some (.slice none 0 0) := G2.cell 5
      have y6 : w4.cell? ⟨w.heap.size + 1, 0, none⟩ = some (.int .i64 4) := G3.cell 0
      refine ⟨.tuple #[.agg cfg0, .int .i64 4], ?_, ?_⟩
      · clear G2 G3 C4 hun RA CW3
        simp [results, Try.results39, go_sem, y0, y1, y2, y3, y4, y5, y6, cfg0]
      · exact ⟨zeroC, 4, none, none, none, 0, 0, 0, hun, rfl, ⟨Lst.none _ _, Lst.none _ _, Lst.none _ _, fun p hp => (by cases hp)⟩, CW3.trans' C4 (fun k hk h => by omega)⟩
  · have hun : unV xs = (zeroC, 4) := by rw [HUN.out, if_neg (fun h => hck h.1)]
    obtain ⟨ck, hckv⟩ : ∃ x, chk C = x := ⟨_, rfl⟩
    rw [hckv] at hck
    have HPK := pack_bad_at CFW hckv hck hpg hmj hsw hnp hnc hnw
    have hcb : (ck != 0) = true := bne_iff_ne.2 hck
    clear hckv hpg hmj hsw hnp hnc hnw HUN
    go_wp2_with fail
    refine HPK.mono ?_
    rintro e w3 ⟨rfl, C9⟩
    have B23 := B2W.chg C9 (fun h => h)
    have B33 := B3W.chg C9 (fun h => h)
    have CW3 := CWW.trans C9
    clear HPK B2W B3W SW q0 q1 q2 q3 q4 q5
    go_wp2_with fail
    refine leaves_cons (f := 57) (args := #[.pointer (some ⟨w.heap.size, 0, none⟩), .pointer (some ⟨w.heap.size + 1, 0, none⟩)]) (by simp) (by simp [go_sem]) ?_
    refine (un1_caught _ _ w3 _ _ _ _ _ _ _ B23 B33 (by omega) []).mono ?_
    rintro e u' w4 ⟨rfl, rfl, G2, G3, C4⟩
    have y0 : w4.cell? ⟨w.heap.size, 0, none⟩ = some (.int .i64 0) := G2.cell 0
    have y1 : w4.cell? ⟨w.heap.size, 1, none⟩ = some (.int .i64 0) := G2.cell 1
    have y2 : w4.cell? ⟨w.heap.size, 2, none⟩ = some (.int .i64 0) := G2.cell 2
    have y3 : w4.cell? ⟨w.heap.size, 3, none⟩ = some (.slice none 0 0) := G2.cell 3
    have y4 : w4.cell? ⟨w.heap.size, 4, none⟩ = some (.slice none 0 0) := G2.cell 4
    have y5 : w4.cell? ⟨w.heap.size, 5, none⟩ = some (.slice none 0 0) := G2.cell 5
    have y6 : w4.cell? ⟨w.heap.size + 1, 0, none⟩ = some (.int .i64 4) := G3.cell 0
    refine ⟨.tuple #[.agg cfg0, .int .i64 4], ?_, ?_⟩
    · clear G2 G3 C4 hun RA CW3
      simp [results, Try.results39, go_sem, y0, y1, y2, y3, y4, y5, y6, cfg0]
    · exact ⟨zeroC, 4, none, none, none, 0, 0, 0, hun, rfl, ⟨Lst.none _ _, Lst.none _ _, Lst.none _ _, fun p hp => (by cases hp)⟩, CW3.trans' C4 (fun k hk h => by omega)⟩
end Go.Proofs.Ytdhkbephofnfdaa

/- health: the reference's look. -/
import Derived.Test.YtdhkbephofnfdaaHRef
namespace Go.Proofs.Ytdhkbephofnfdaa
open Go.RowKit

theorem list_set_self {α : Type} (l : List α) (n : Nat) (v : α) (h : l[n]? = some v) : l.set n v = l := by
  obtain ⟨hl, rfl⟩ := List.getElem?_eq_some_iff.1 h
  exact List.set_getElem_self hl
section
variable {w : World} {B : Nat → Prop} {h : Nat} {C : Cfg} {ap ac aw : Option Addr} {cp cc cw : Nat} {S : HS} {al an ag : Option Addr} {cl cn cg : Nat}
theorem RIs.flag {gg : Nat} (r : RIs w B h C ap ac aw cp cc cw S al an (some ⟨gg, 0, none⟩) cl cn cg) (n : Nat) (hn : n < S.ps.length) (b : Bool) :
    RIs (w.setCell ⟨gg, n, none⟩ (.bool b)) B h C ap ac aw cp cc cw ⟨S.ps.set n ⟨S.ps[n].act, b, S.ps[n].cnt⟩, S.evs⟩ al an (some ⟨gg, 0, none⟩) cl cn cg ∧ Chg w (w.setCell ⟨gg, n, none⟩ (.bool b)) B := by
  have CS : Chg w (w.setCell ⟨gg, n, none⟩ (.bool b)) (fun k => k = gg) := (Chg.refl w (fun k => k = gg)).setCell (p := ⟨gg, n, none⟩) (fun _ => rfl) _
  have hne : gg ≠ h := own_ne r.gone r.box (by decide) gg rfl
  have G1 := own_setB r.gone n (.bool b)
  have e1 : (goneCells S.ps).set n (.bool b) = goneCells (S.ps.set n ⟨S.ps[n].act, b, S.ps[n].cnt⟩) := by unfold goneCells; rw [List.map_set]
  have e2 : cntCells (S.ps.set n ⟨S.ps[n].act, b, S.ps[n].cnt⟩) = cntCells S.ps := by
    unfold cntCells
    rw [List.map_set]
    exact list_set_self _ n _ (by simp [hn])
  rw [e1] at G1
  refine ⟨⟨?_, ?_, ?_, ?_, r.bh, r.be, ?_, ?_, ?_, fun k h1 h2 => ?_⟩, CS.mono (fun k _ e => by rw [e]; exact r.bg gg rfl)⟩
  · rw [List.length_set]; exact r.box.chg CS (fun e => hne e.symm)
  · exact own_chg r.evs CS (fun k hk e => own_own_ne r.evs r.gone (by decide) k hk (by rw [e]; rfl))
  · rw [List.length_set, e2]; exact own_chg r.cnt CS (fun k hk e => own_own_ne r.cnt r.gone (by decide) k hk (by rw [e]; rfl))
  · rw [List.length_set]; exact G1
  · intro k hk; exact r.bn k (by simpa using hk)
  · intro k hk; exact r.bg k (by simpa using hk)
  · rw [List.length_set]; exact r.le
  · simp only [List.getElem_set]
    split
    · rename_i e; subst e; exact r.act n hn h2
    · exact r.act k (by simpa using h1) h2
theorem RIs.count {gn : Nat} (r : RIs w B h C ap ac aw cp cc cw S al (some ⟨gn, 0, none⟩) ag cl cn cg) (n : Nat) (hn : n < S.ps.length) (x : Int) :
    RIs (w.setCell ⟨gn, n, none⟩ (.int .i64 x)) B h C ap ac aw cp cc cw ⟨S.ps.set n ⟨S.ps[n].act, S.ps[n].stays, x⟩, S.evs⟩ al (some ⟨gn, 0, none⟩) ag cl cn cg ∧ Chg w (w.setCell ⟨gn, n, none⟩ (.int .i64 x)) B := by
  have CS : Chg w (w.setCell ⟨gn, n, none⟩ (.int .i64 x)) (fun k => k = gn) := (Chg.refl w (fun k => k = gn)).setCell (p := ⟨gn, n, none⟩) (fun _ => rfl) _
  have hne : gn ≠ h := own_ne r.cnt r.box (by decide) gn rfl
  have G1 := own_setB r.cnt n (.int .i64 x)
  have e1 : (cntCells S.ps).set n (.int .i64 x) = cntCells (S.ps.set n ⟨S.ps[n].act, S.ps[n].stays, x⟩) := by unfold cntCells; rw [List.map_set]
  have e2 : goneCells (S.ps.set n ⟨S.ps[n].act, S.ps[n].stays, x⟩) = goneCells S.ps := by
    unfold goneCells
    rw [List.map_set]
    exact list_set_self _ n _ (by simp [hn])
  rw [e1] at G1
  refine ⟨⟨?_, ?_, ?_, ?_, r.bh, r.be, ?_, ?_, ?_, fun k h1 h2 => ?_⟩, CS.mono (fun k _ e => by rw [e]; exact r.bn gn rfl)⟩
  · rw [List.length_set]; exact r.box.chg CS (fun e => hne e.symm)
  · exact own_chg r.evs CS (fun k hk e => own_own_ne r.evs r.cnt (by decide) k hk (by rw [e]; rfl))
  · rw [List.length_set]; exact G1
  · rw [List.length_set, e2]; exact own_chg r.gone CS (fun k hk e => own_own_ne r.gone r.cnt (by decide) k hk (by rw [e]; rfl))
  · intro k hk; exact r.bn k (by simpa using hk)
  · intro k hk; exact r.bg k (by simpa using hk)
  · rw [List.length_set]; exact r.le
  · simp only [List.getElem_set]
    split
    · rename_i e; subst e; exact r.act n hn h2
    · exact r.act k (by simpa using h1) h2
/-- The list of events is another one. -/
theorem RIs.list {w' : World} {a2 : Option Addr} {c2 : Nat} {E : List EvH} (r : RIs w B h C ap ac aw cp cc cw S al an ag cl cn cg) (c : Chg w w' (fun k => (Value.slice al S.evs.length cl).ownBlock = some k))
    (ho : w'.ownsRow 0 68 3 (.slice a2 E.length c2) E.length (E.flatMap evCells)) (hb : ∀ b, (Value.slice a2 E.length c2).ownBlock = some b → (Value.slice al S.evs.length cl).ownBlock = some b ∨ w.heap.size ≤ b) :
    RIs (w'.setCell ⟨h, 6, none⟩ (.slice a2 E.length c2)) (fun k => B k ∨ w.heap.size ≤ k) h C ap ac aw cp cc cw ⟨S.ps, E⟩ a2 an ag c2 cn cg ∧ Chg w (w'.setCell ⟨h, 6, none⟩ (.slice a2 E.length c2)) B := by
  have hne : ∀ k, (Value.slice al S.evs.length cl).ownBlock = some k → k ≠ h := own_ne r.evs r.box (by decide)
  have B1 := r.box.chg c (fun e => hne _ e rfl)
  have N1 := own_chg r.cnt c (fun k hk e => own_own_ne r.cnt r.evs (by decide) k hk e)
  have G1 := own_chg r.gone c (fun k hk e => own_own_ne r.gone r.evs (by decide) k hk e)
  have CS : Chg w' (w'.setCell ⟨h, 6, none⟩ (.slice a2 E.length c2)) (fun k => k = h) := (Chg.refl w' (fun k => k = h)).setCell (p := ⟨h, 6, none⟩) (fun _ => rfl) _
  refine ⟨⟨B1.set 6 _, own_chg ho CS (own_ne ho B1 (by decide)), own_chg N1 CS (own_ne N1 B1 (by decide)), own_chg G1 CS (own_ne G1 B1 (by decide)), .inl r.bh, fun b e => ?_, fun b e => .inl (r.bn b e), fun b e => .inl (r.bg b e), r.le, r.act⟩,
    (c.mono (fun k _ e => r.be k e)).trans' CS (fun k _ e => by rw [e]; exact r.bh)⟩
  rcases hb b e with h1 | h1
  · exact .inl (r.be b h1)
  · exact .inr h1
end

set_option maxRecDepth 100000 in
set_option maxHeartbeats 1600000 in
theorem rsee_out (w : World) (B : Nat → Prop) (h : Nat) (C : Cfg) (ap ac aw : Option Addr) (cp cc cw : Nat) (S : HS) (tick n : Int) (halt stuck : Bool) (hr : RAt w B h C ap ac aw cp cc cw S) (ho : n < 0 ∨ (S.ps.length : Int) ≤ n) :
    Calls Try.prog 32 #[.pointer (some ⟨h, 0, none⟩), .int .i64 tick, .int .i64 n, stV halt stuck] w fun r w' => r = .returned (.int .i64 0) ∧ Chg w w' (fun _ => False) := by
  obtain ⟨al, an, ag, cl, cn, cg, H⟩ := hr
  unfold stV
  have BX := H.box.alloc (.cells (stC halt stuck) 61)
  have g0 := BX.cell 7
  unfold stC at *
  by_cases h1 : n < 0
  · have d1 : decide (n < 0) = true := decide_eq_true h1
    clear h1 ho
    go_enter Try.func32, Try.ntmps32
    go_wp2_with fail
    go_ret
    exact ⟨rfl, (Chg.refl w _).alloc _⟩
  · have d1 : decide (n < 0) = false := decide_eq_false h1
    have d2 : decide ((S.ps.length : Int) ≤ n) = true := decide_eq_true (by omega)
    clear h1 ho
    go_enter Try.func32, Try.ntmps32
    go_wp2_with fail
    go_ret
    exact ⟨rfl, (Chg.refl w _).alloc _⟩
set_option maxRecDepth 100000 in
set_option maxHeartbeats 1600000 in
theorem rsee_none (w : World) (B : Nat → Prop) (h : Nat) (C : Cfg) (ap ac aw : Option Addr) (cp cc cw : Nat) (S : HS) (tick : Int) (n : Nat) (hr : RAt w B h C ap ac aw cp cc cw S) (hcfg : CfgAt w C ap ac aw cp cc cw) (hn : n < S.ps.length) (hc : 0 ≤ (S.ps.getD n default).cnt ∧ (S.ps.getD n default).cnt ≤ 1000000) :
    Calls Try.prog 32 #[.pointer (some ⟨h, 0, none⟩), .int .i64 tick, .int .i64 (n : Nat), stV false false] w fun r w' => r = .returned (.int .i64 0) ∧ Chg w w' (fun _ => False) := by
  obtain ⟨al, an, ag, cl, cn, cg, H⟩ := hr
  obtain ⟨gn, cn', hv, _, hgn, _, _⟩ := own_block H.cnt (by omega)
  injection hv with e1 e2 e3
  subst e1 e3
  obtain ⟨gg, cg', hv2, _, hgg, _, _⟩ := own_block H.gone (by omega)
  injection hv2 with e4 e5 e6
  subst e4 e6
  obtain ⟨W0, hW0⟩ : ∃ W, w.alloc (.cells #[.slice none 0 0, .int .i64 0, .slice none 0 0, .bool false, .bool false, .slice none 0 0] 61) = W := ⟨_, rfl⟩
  have C0 : Chg w W0 (fun _ => False) := by rw [← hW0]; exact (Chg.refl w _).alloc _
  have BS : Box W0 w.heap.size 61 #[.slice none 0 0, .int .i64 0, .slice none 0 0, .bool false, .bool false, .slice none 0 0] := by rw [← hW0]; exact Box.new w _ _
  have s3 := BS.cell 3
  have s4 := BS.cell 4
  have H0 := H.chg C0 (fun _ h => h.elim)
  have HC0 := Lib.hid (hcfg.keep C0)
  have hpn : S.ps.getD n default = S.ps[n] := by rw [List.getD_eq_getElem?_getD, List.getElem?_eq_getElem hn]; rfl
  have g3 := H0.box.cell 3
  have g6 := H0.box.cell 6
  have g7 := H0.box.cell 7
  have g8 := H0.box.cell 8
  obtain ⟨p, hp⟩ : ∃ p, S.ps[n] = p := ⟨_, rfl⟩
  have c0 : W0.cell? ⟨gn, n, none⟩ = some (.int .i64 p.cnt) := own_cells H0.cnt n _ (by simp [cntCells, hn, hp])
  have c1 : W0.cell? ⟨gg, n, none⟩ = some (.bool p.stays) := own_cells H0.gone n _ (by simp [goneCells, hn, hp])
  have n0 : (0 : Int) ≤ (n : Int) := by omega
  have n1 : (n : Int) < (S.ps.length : Int) := by omega
  have d1 : decide ((n : Int) < 0) = false := decide_eq_false (by omega)
  have d2 : decide ((S.ps.length : Int) ≤ (n : Int)) = false := decide_eq_false (by omega)
  have hnc : n < C.parts.length := by have := H.le; omega
  have hact : p.act = C.parts[n].action := by rw [← hp]; exact H.act n hn hnc
  have HP := Lib.hid hp
  have HPN := Lib.hid hpn
  have HH := Lib.hid H0
  have C0h := Lib.hid C0
  have hgs1 : gn < W0.heap.size := by have := C0.size; omega
  have hgs2 : gg < W0.heap.size := by have := C0.size; omega
  rw [hpn, hp] at hc
  clear H H0 hp hpn C0 BS
  unfold stV
  go_enter Try.func32, Try.ntmps32
  go_wp2_with fail
  go_ret
  exact ⟨rfl, C0h.out⟩
set_option maxRecDepth 100000 in
set_option maxHeartbeats 1600000 in
theorem rsee_stay1 (w : World) (B : Nat → Prop) (h : Nat) (C : Cfg) (ap ac aw : Option Addr) (cp cc cw : Nat) (S : HS) (tick : Int) (n : Nat) (hr : RAt w B h C ap ac aw cp cc cw S) (hcfg : CfgAt w C ap ac aw cp cc cw) (hn : n < S.ps.length) (hc : 0 ≤ (S.ps.getD n default).cnt ∧ (S.ps.getD n default).cnt ≤ 1000000) (stuck : Bool) (hy : (S.ps.getD n default).stays = true) :
    Calls Try.prog 32 #[.pointer (some ⟨h, 0, none⟩), .int .i64 tick, .int .i64 (n : Nat), stV true stuck] w fun r w' => r = .returned (.int .i64 1) ∧ Chg w w' (fun _ => False) := by
  obtain ⟨al, an, ag, cl, cn, cg, H⟩ := hr
  obtain ⟨gn, cn', hv, _, hgn, _, _⟩ := own_block H.cnt (by omega)
  injection hv with e1 e2 e3
  subst e1 e3
  obtain ⟨gg, cg', hv2, _, hgg, _, _⟩ := own_block H.gone (by omega)
  injection hv2 with e4 e5 e6
  subst e4 e6
  obtain ⟨W0, hW0⟩ : ∃ W, w.alloc (.cells #[.slice none 0 0, .int .i64 0, .slice none 0 0, .bool true, .bool stuck, .slice none 0 0] 61) = W := ⟨_, rfl⟩
  have C0 : Chg w W0 (fun _ => False) := by rw [← hW0]; exact (Chg.refl w _).alloc _
  have BS : Box W0 w.heap.size 61 #[.slice none 0 0, .int .i64 0, .slice none 0 0, .bool true, .bool stuck, .slice none 0 0] := by rw [← hW0]; exact Box.new w _ _
  have s3 := BS.cell 3
  have s4 := BS.cell 4
  have H0 := H.chg C0 (fun _ h => h.elim)
  have HC0 := Lib.hid (hcfg.keep C0)
  have hpn : S.ps.getD n default = S.ps[n] := by rw [List.getD_eq_getElem?_getD, List.getElem?_eq_getElem hn]; rfl
  have g3 := H0.box.cell 3
  have g6 := H0.box.cell 6
  have g7 := H0.box.cell 7
  have g8 := H0.box.cell 8
  obtain ⟨p, hp⟩ : ∃ p, S.ps[n] = p := ⟨_, rfl⟩
  have c0 : W0.cell? ⟨gn, n, none⟩ = some (.int .i64 p.cnt) := own_cells H0.cnt n _ (by simp [cntCells, hn, hp])
  have c1 : W0.cell? ⟨gg, n, none⟩ = some (.bool p.stays) := own_cells H0.gone n _ (by simp [goneCells, hn, hp])
  have n0 : (0 : Int) ≤ (n : Int) := by omega
  have n1 : (n : Int) < (S.ps.length : Int) := by omega
  have d1 : decide ((n : Int) < 0) = false := decide_eq_false (by omega)
  have d2 : decide ((S.ps.length : Int) ≤ (n : Int)) = false := decide_eq_false (by omega)
  have hnc : n < C.parts.length := by have := H.le; omega
  have hact : p.act = C.parts[n].action := by rw [← hp]; exact H.act n hn hnc
  have HP := Lib.hid hp
  have HPN := Lib.hid hpn
  have HH := Lib.hid H0
  have C0h := Lib.hid C0
  have hgs1 : gn < W0.heap.size := by have := C0.size; omega
  have hgs2 : gg < W0.heap.size := by have := C0.size; omega
  rw [hpn, hp] at hc
  clear H H0 hp hpn C0 BS
  unfold stV
  rw [HPN.out, HP.out] at hy
  rw [hy] at c1
  go_enter Try.func32, Try.ntmps32
  go_wp2_with fail
  go_ret
  exact ⟨rfl, C0h.out⟩
set_option maxRecDepth 100000 in
set_option maxHeartbeats 1600000 in
theorem rsee_stay2 (w : World) (B : Nat → Prop) (h : Nat) (C : Cfg) (ap ac aw : Option Addr) (cp cc cw : Nat) (S : HS) (tick : Int) (n : Nat) (hr : RAt w B h C ap ac aw cp cc cw S) (hcfg : CfgAt w C ap ac aw cp cc cw) (hn : n < S.ps.length) (hc : 0 ≤ (S.ps.getD n default).cnt ∧ (S.ps.getD n default).cnt ≤ 1000000) (ha : (S.ps.getD n default).act = 0) (hy : (S.ps.getD n default).stays = true) :
    Calls Try.prog 32 #[.pointer (some ⟨h, 0, none⟩), .int .i64 tick, .int .i64 (n : Nat), stV false true] w fun r w' => r = .returned (.int .i64 1) ∧ Chg w w' (fun _ => False) := by
  obtain ⟨al, an, ag, cl, cn, cg, H⟩ := hr
  obtain ⟨gn, cn', hv, _, hgn, _, _⟩ := own_block H.cnt (by omega)
  injection hv with e1 e2 e3
  subst e1 e3
  obtain ⟨gg, cg', hv2, _, hgg, _, _⟩ := own_block H.gone (by omega)
  injection hv2 with e4 e5 e6
  subst e4 e6
  obtain ⟨W0, hW0⟩ : ∃ W, w.alloc (.cells #[.slice none 0 0, .int .i64 0, .slice none 0 0, .bool false, .bool true, .slice none 0 0] 61) = W := ⟨_, rfl⟩
  have C0 : Chg w W0 (fun _ => False) := by rw [← hW0]; exact (Chg.refl w _).alloc _
  have BS : Box W0 w.heap.size 61 #[.slice none 0 0, .int .i64 0, .slice none 0 0, .bool false, .bool true, .slice none 0 0] := by rw [← hW0]; exact Box.new w _ _
  have s3 := BS.cell 3
  have s4 := BS.cell 4
  have H0 := H.chg C0 (fun _ h => h.elim)
  have HC0 := Lib.hid (hcfg.keep C0)
  have hpn : S.ps.getD n default = S.ps[n] := by rw [List.getD_eq_getElem?_getD, List.getElem?_eq_getElem hn]; rfl
  have g3 := H0.box.cell 3
  have g6 := H0.box.cell 6
  have g7 := H0.box.cell 7
  have g8 := H0.box.cell 8
  obtain ⟨p, hp⟩ : ∃ p, S.ps[n] = p := ⟨_, rfl⟩
  have c0 : W0.cell? ⟨gn, n, none⟩ = some (.int .i64 p.cnt) := own_cells H0.cnt n _ (by simp [cntCells, hn, hp])
  have c1 : W0.cell? ⟨gg, n, none⟩ = some (.bool p.stays) := own_cells H0.gone n _ (by simp [goneCells, hn, hp])
  have n0 : (0 : Int) ≤ (n : Int) := by omega
  have n1 : (n : Int) < (S.ps.length : Int) := by omega
  have d1 : decide ((n : Int) < 0) = false := decide_eq_false (by omega)
  have d2 : decide ((S.ps.length : Int) ≤ (n : Int)) = false := decide_eq_false (by omega)
  have hnc : n < C.parts.length := by have := H.le; omega
  have hact : p.act = C.parts[n].action := by rw [← hp]; exact H.act n hn hnc
  have HP := Lib.hid hp
  have HPN := Lib.hid hpn
  have HH := Lib.hid H0
  have C0h := Lib.hid C0
  have hgs1 : gn < W0.heap.size := by have := C0.size; omega
  have hgs2 : gg < W0.heap.size := by have := C0.size; omega
  rw [hpn, hp] at hc
  clear H H0 hp hpn C0 BS
  unfold stV
  rw [HPN.out, HP.out] at hy
  rw [hy] at c1
  rw [HPN.out, HP.out] at ha
  obtain ⟨pb, po, rfl⟩ := HC0.out.ps.pos (by omega)
  have pc := Lst.cell (n := 3) (fun _ => rfl) HC0.out.ps n 2 (by decide) hnc rfl
  rw [← hact] at pc
  have m1 : (n : Int) < (C.parts.length : Int) := by omega
  rw [ha] at pc
  go_enter Try.func32, Try.ntmps32
  go_wp2_with fail
  go_ret
  exact ⟨rfl, C0h.out⟩
set_option maxRecDepth 100000 in
set_option maxHeartbeats 3200000 in
theorem rsee_n1 (w : World) (B : Nat → Prop) (h : Nat) (C : Cfg) (ap ac aw : Option Addr) (cp cc cw : Nat) (S : HS) (tick : Int) (n : Nat) (hr : RAt w B h C ap ac aw cp cc cw S) (hcfg : CfgAt w C ap ac aw cp cc cw) (hn : n < S.ps.length) (hc : 0 ≤ (S.ps.getD n default).cnt ∧ (S.ps.getD n default).cnt ≤ 1000000) (hle : S.evs.length ≤ 1000) (stuck : Bool) (hy : (S.ps.getD n default).stays = false) :
    Calls Try.prog 32 #[.pointer (some ⟨h, 0, none⟩), .int .i64 tick, .int .i64 (n : Nat), stV true stuck] w fun r w' => r = .returned (.int .i64 1) ∧ RAt w' (fun k => B k ∨ w.heap.size ≤ k) h C ap ac aw cp cc cw ⟨S.ps.set n ⟨(S.ps.getD n default).act, true, (S.ps.getD n default).cnt + 1⟩, pushE S.evs ⟨tick, n, 1⟩⟩ ∧ Chg w w' B := by
  obtain ⟨al, an, ag, cl, cn, cg, H⟩ := hr
  obtain ⟨gn, cn', hv, _, hgn, _, _⟩ := own_block H.cnt (by omega)
  injection hv with e1 e2 e3
  subst e1 e3
  obtain ⟨gg, cg', hv2, _, hgg, _, _⟩ := own_block H.gone (by omega)
  injection hv2 with e4 e5 e6
  subst e4 e6
  obtain ⟨W0, hW0⟩ : ∃ W, w.alloc (.cells #[.slice none 0 0, .int .i64 0, .slice none 0 0, .bool true, .bool stuck, .slice none 0 0] 61) = W := ⟨_, rfl⟩
  have C0 : Chg w W0 (fun _ => False) := by rw [← hW0]; exact (Chg.refl w _).alloc _
  have BS : Box W0 w.heap.size 61 #[.slice none 0 0, .int .i64 0, .slice none 0 0, .bool true, .bool stuck, .slice none 0 0] := by rw [← hW0]; exact Box.new w _ _
  have s3 := BS.cell 3
  have s4 := BS.cell 4
  have H0 := H.chg C0 (fun _ h => h.elim)
  have HC0 := Lib.hid (hcfg.keep C0)
  have hpn : S.ps.getD n default = S.ps[n] := by rw [List.getD_eq_getElem?_getD, List.getElem?_eq_getElem hn]; rfl
  have g3 := H0.box.cell 3
  have g6 := H0.box.cell 6
  have g7 := H0.box.cell 7
  have g8 := H0.box.cell 8
  obtain ⟨p, hp⟩ : ∃ p, S.ps[n] = p := ⟨_, rfl⟩
  have c0 : W0.cell? ⟨gn, n, none⟩ = some (.int .i64 p.cnt) := own_cells H0.cnt n _ (by simp [cntCells, hn, hp])
  have c1 : W0.cell? ⟨gg, n, none⟩ = some (.bool p.stays) := own_cells H0.gone n _ (by simp [goneCells, hn, hp])
  have n0 : (0 : Int) ≤ (n : Int) := by omega
  have n1 : (n : Int) < (S.ps.length : Int) := by omega
  have d1 : decide ((n : Int) < 0) = false := decide_eq_false (by omega)
  have d2 : decide ((S.ps.length : Int) ≤ (n : Int)) = false := decide_eq_false (by omega)
  have hnc : n < C.parts.length := by have := H.le; omega
  have hact : p.act = C.parts[n].action := by rw [← hp]; exact H.act n hn hnc
  have HP := Lib.hid hp
  have HPN := Lib.hid hpn
  have HH := Lib.hid H0
  have C0h := Lib.hid C0
  have hgs1 : gn < W0.heap.size := by have := C0.size; omega
  have hgs2 : gg < W0.heap.size := by have := C0.size; omega
  rw [hpn, hp] at hc
  clear H H0 hp hpn C0 BS
  unfold stV
  rw [HPN.out, HP.out] at hy
  rw [hy] at c1
  obtain ⟨i0, hi0, hz0, hz1, hz2⟩ := info_parts info_ev
  obtain ⟨F1, D1⟩ := HH.out.flag n hn true
  obtain ⟨F2, D2⟩ := F1.count n (by simpa using hn) (p.cnt + 1)
  have hps : ((⟨S.ps.set n ⟨S.ps[n].act, true, S.ps[n].cnt⟩, S.evs⟩ : HS).ps.set n ⟨((⟨S.ps.set n ⟨S.ps[n].act, true, S.ps[n].cnt⟩, S.evs⟩ : HS).ps[n]'(by simpa using hn)).act, ((⟨S.ps.set n ⟨S.ps[n].act, true, S.ps[n].cnt⟩, S.evs⟩ : HS).ps[n]'(by simpa using hn)).stays, p.cnt + 1⟩) = S.ps.set n ⟨p.act, true, p.cnt + 1⟩ := by simp [HP.out]
  rw [hps] at F2
  have hggn : gg ≠ gn := own_own_ne HH.out.gone HH.out.cnt (by decide) gg rfl |> (fun h e => h (by rw [e]; rfl))
  have hhg : h ≠ gg := fun e => own_ne HH.out.gone HH.out.box (by decide) gg rfl e.symm
  have hhn : h ≠ gn := fun e => own_ne HH.out.cnt HH.out.box (by decide) gn rfl e.symm
  have fz0 := own_frozen HH.out.cnt n
  have fz1 := own_frozen HH.out.gone n
  have iw : IntKind.i64.wrap (p.cnt + 1) = p.cnt + 1 := IntWalk.i64_in _ (by omega)
  have DD : Chg w _ B := (C0h.out.mono (fun _ _ h => h.elim)).trans (D1.trans D2)
  have OA := own_alloc F2.evs (.cells #[.int .i64 tick, .int .i64 (n : Nat), .int .i64 1] 68)
  have BA := F2.box.alloc (.cells #[.int .i64 tick, .int .i64 (n : Nat), .int .i64 1] 68)
  have hN := ((Box.new ((W0.setCell ⟨gg, n, none⟩ (.bool true)).setCell ⟨gn, n, none⟩ (.int .i64 (p.cnt + 1))) 68 #[.int .i64 tick, .int .i64 (n : Nat), .int .i64 1]).src 1 1 3 [.int .i64 tick, .int .i64 (n : Nat), .int .i64 1] rfl rfl).get _ rfl
  rw [show ((W0.setCell ⟨gg, n, none⟩ (.bool true)).setCell ⟨gn, n, none⟩ (.int .i64 (p.cnt + 1))).heap.size = W0.heap.size from by simp] at hN
  have HF2 := Lib.hid F2
  have HOA := Lib.hid OA
  have HBA := Lib.hid BA
  have CW2 : Chg ((W0.setCell ⟨gg, n, none⟩ (.bool true)).setCell ⟨gn, n, none⟩ (.int .i64 (p.cnt + 1))) ((((W0.setCell ⟨gg, n, none⟩ (.bool true)).setCell ⟨gn, n, none⟩ (.int .i64 (p.cnt + 1)))).alloc (.cells #[.int .i64 tick, .int .i64 (n : Nat), .int .i64 1] 68)) (fun _ => False) := (Chg.refl _ _).alloc _
  have hevl : S.evs.length ≤ 1000 := hle
  clear F1 F2 D1 D2 hps OA BA
  go_enter Try.func32, Try.ntmps32
  go_wp2_with (at_builtin; go_loud (refine wpList_append_own_at _ rfl (.tmp 72) (.tmp 77) _ rfl 0 68 i0 _ 3 24 Try.underlying63 hi0 hz0 hz1 hz2 rfl (by omega) _ S.evs.length _ rfl HOA.out ⟨W0.heap.size, 0, none⟩ 1 1 [.int .i64 tick, .int .i64 (n : Nat), .int .i64 1] rfl rfl hN (by intro u hu; simp only [List.mem_cons, List.not_mem_nil, or_false] at hu; rcases hu with rfl | rfl | rfl <;> rfl) (by unfold maxLen; omega) (by omega) (Nat.zero_le _) ?_); go_loud (intro v4 w4 O4 hgr4 _ hat4); go_loud (refine ?roundEnd))
  obtain ⟨g4, c4, rfl, _, hg4, hc4, hm4⟩ := own_block O4 (by omega)
  have CX : Chg ((W0.setCell ⟨gg, n, none⟩ (.bool true)).setCell ⟨gn, n, none⟩ (.int .i64 (p.cnt + 1))) w4 (fun k => (Value.slice al S.evs.length cl).ownBlock = some k) := (CW2.mono (fun _ _ h => h.elim)).grown hgr4 (fun k hk _ => hk)
  have hsz2 : ((W0.setCell ⟨gg, n, none⟩ (.bool true)).setCell ⟨gn, n, none⟩ (.int .i64 (p.cnt + 1))).heap.size = W0.heap.size := by simp
  have eE : (S.evs ++ [(⟨tick, (n : Int), 1⟩ : EvH)]).length = S.evs.length + 1 := by simp
  have O4' : w4.ownsRow 0 68 3 (.slice (some ⟨g4, 0, none⟩) (S.evs ++ [(⟨tick, (n : Int), 1⟩ : EvH)]).length c4) (S.evs ++ [(⟨tick, (n : Int), 1⟩ : EvH)]).length ((S.evs ++ [(⟨tick, (n : Int), 1⟩ : EvH)]).flatMap evCells) := by rw [eE, List.flatMap_append]; exact O4
  obtain ⟨F5, D5⟩ := HF2.out.list CX O4' (fun b hb => by
    have hb' : g4 = b := by injection hb
    subst hb'
    rcases hat4 with h6 | h6
    · exact .inl h6.symm
    · injection h6 with h6; right; rw [hsz2]; have h7 : g4 = _ := h6; simp at h7; omega)
  rw [eE] at F5 D5
  have B4 := (HF2.out.box.chg CX (fun e => own_ne HF2.out.evs HF2.out.box (by decide) _ e rfl))
  have w6 := B4.cell 6
  have wf6 := B4.frozen 6
  have hg4h : g4 ≠ h := own_ne O4 B4 (by decide) g4 rfl
  have DX := DD.trans D5
  have HDX := Lib.hid DX
  have hszX : w.heap.size ≤ W0.heap.size := C0h.out.size
  have HF5 := Lib.hid F5
  have x6 := F5.box.cell 6
  have xf6 := F5.box.frozen 6
  have ps' : (S.ps.set n ⟨(S.ps.getD n default).act, true, (S.ps.getD n default).cnt + 1⟩) = S.ps.set n ⟨p.act, true, p.cnt + 1⟩ := by rw [HPN.out, HP.out]
  have HPS := Lib.hid ps'
  have HPT := Lib.hid (show (S.ps.set n ⟨S.ps[n].act, true, S.ps[n].cnt + 1⟩) = S.ps.set n ⟨p.act, true, p.cnt + 1⟩ by rw [HP.out])
  rw [eE] at x6
  clear F5 CX O4' D5 DX ps' hat4 hgr4 HOA HBA CW2 hN eE
  refine ?rest
  by_cases hfull : S.evs.length = 1000
  · have l1 : decide ((1000 : Int) < (S.evs.length : Int) + 1) = true := decide_eq_true (by omega)
    have hpu : pushE S.evs ⟨tick, (n : Int), 1⟩ = (S.evs ++ [(⟨tick, (n : Int), 1⟩ : EvH)]).drop 1 := by unfold pushE; rw [if_pos (by simp; omega)]
    have HPU := Lib.hid hpu
    have hdl : ((S.evs ++ [(⟨tick, (n : Int), 1⟩ : EvH)]).drop 1).length = S.evs.length := by simp
    have SD : Src (w4.setCell ⟨h, 6, none⟩ (.slice (some ⟨g4, 0, none⟩) (S.evs.length + 1) c4)) (some ⟨g4, 3, none⟩) S.evs.length (c4 - 1) (((S.evs ++ [(⟨tick, (n : Int), 1⟩ : EvH)]).drop 1).flatMap evCells) 3 := by
      refine ⟨by rw [flat_length evCells 3 ev_len, hdl], fun h => (by cases h), fun ad he j u hu => ?_⟩
      injection he with he
      subst he
      rw [Addr.add_lit]
      refine own_cells HF5.out.evs (3 + j) u ?_
      rw [← hu]
      cases hE : (S.evs ++ [(⟨tick, (n : Int), 1⟩ : EvH)]) with
      | nil => simp at hE
      | cons y ys =>
        rw [List.drop_one, List.tail_cons, List.flatMap_cons, List.getElem?_append_right (by rw [ev_len]; omega), ev_len]
        congr 1
        omega
    have HSD := Lib.hid SD
    have kc1 : ¬ c4 = 1 := by omega
    have kc2 : (1 : Int) ≤ (S.evs.length : Int) + 1 := by omega
    have kc3 : (1 : Int) ≤ (c4 : Int) := by omega
    have HFL := Lib.hid hfull
    clear hpu SD hfull
    go_wp2_with (at_builtin; go_loud (refine wpList_append_own_at _ rfl (.const (.slice none 0 0)) (.tmp 92) _ rfl 0 68 i0 _ 3 24 Try.underlying63 hi0 hz0 hz1 hz2 rfl (by omega) _ 0 [] rfl ⟨rfl, .inl ⟨rfl, rfl⟩⟩ ⟨g4, 3, none⟩ S.evs.length (c4 - 1) _ rfl HSD.out.len (HSD.out.get _ rfl) (ev_one _) (by unfold maxLen; omega) (by omega) (Nat.zero_le _) ?_); go_loud (intro v7 w7 O7 hgr7 _ hat7); go_loud (rw [Nat.zero_add, List.nil_append] at O7); go_loud (obtain ⟨g7, c7, rfl, _, hg7, hc7, _⟩ := own_block O7 (by have := HFL.out; omega)); go_loud (have C7 : Chg (w4.setCell ⟨h, 6, none⟩ (.slice (some ⟨g4, 0, none⟩) (S.evs.length + 1) c4)) w7 (fun _ => False) := (Chg.refl _ _).grown hgr7 (fun k hk _ => by cases hk)); go_loud (have B7 := (HF5.out.chg C7 (fun _ h => h.elim)).box); go_loud (have v6 := B7.cell 6); go_loud (have vf6 := B7.frozen 6))
    have hat7' : g7 = (w4.setCell ⟨h, 6, none⟩ (.slice (some ⟨g4, 0, none⟩) (S.evs.length + 1) c4)).heap.size := by
      rcases hat7 with h6 | h6
      · cases h6
      · injection h6
    have F7 := HF5.out.chg C7 (fun _ h => h.elim)
    have O7' : w7.ownsRow 0 68 3 (.slice (some ⟨g7, 0, none⟩) ((S.evs ++ [(⟨tick, (n : Int), 1⟩ : EvH)]).drop 1).length c7) ((S.evs ++ [(⟨tick, (n : Int), 1⟩ : EvH)]).drop 1).length (((S.evs ++ [(⟨tick, (n : Int), 1⟩ : EvH)]).drop 1).flatMap evCells) := by rw [hdl]; exact O7
    obtain ⟨F8, D8⟩ := HF5.out.list (C7.mono (fun _ _ h => h.elim)) O7' (fun b hb => by
      have hb' : g7 = b := by injection hb
      subst hb'
      exact .inr (by omega))
    rw [hdl] at F8 D8
    have hs7 : w.heap.size ≤ (w4.setCell ⟨h, 6, none⟩ (.slice (some ⟨g4, 0, none⟩) (S.evs.length + 1) c4)).heap.size := HDX.out.size
    have D9 : Chg w _ B := HDX.out.trans' D8 (fun k hk e => by
      rcases e with e | e
      · exact e
      · exfalso; rw [hsz2] at e; omega)
    have HF8 := Lib.hid F8
    have HD9 := Lib.hid D9
    clear F7 F8 D8 D9 O7 O7' C7 hat7 hgr7 HSD B7
    go_ret
    rw [HPU.out]
    first | rw [HPS.out] | rw [HPT.out]
    refine ⟨rfl, RAt.mono (B := fun k => (B k ∨ _) ∨ _) ⟨_, _, _, _, _, _, HF8.out⟩ (fun k hk => ?_), HD9.out⟩
    rcases hk with (hk | hk) | hk
    · exact .inl hk
    · right; rw [hsz2] at hk; omega
    · right; omega
  · have l1 : decide ((1000 : Int) < (S.evs.length : Int) + 1) = false := decide_eq_false (by omega)
    have hpu : pushE S.evs ⟨tick, (n : Int), 1⟩ = S.evs ++ [⟨tick, (n : Int), 1⟩] := by unfold pushE; rw [if_neg (by simp; omega)]
    have HPU := Lib.hid hpu
    clear hpu
    go_wp2_with fail
    go_ret
    rw [HPU.out]
    first | rw [HPS.out] | rw [HPT.out]
    refine ⟨rfl, RAt.mono (B := fun k => B k ∨ _) ⟨_, _, _, _, _, _, HF5.out⟩ (fun k hk => ?_), HDX.out⟩
    rcases hk with hk | hk
    · exact .inl hk
    · right; rw [hsz2] at hk; omega
set_option maxRecDepth 100000 in
set_option maxHeartbeats 3200000 in
theorem rsee_n2 (w : World) (B : Nat → Prop) (h : Nat) (C : Cfg) (ap ac aw : Option Addr) (cp cc cw : Nat) (S : HS) (tick : Int) (n : Nat) (hr : RAt w B h C ap ac aw cp cc cw S) (hcfg : CfgAt w C ap ac aw cp cc cw) (hn : n < S.ps.length) (hc : 0 ≤ (S.ps.getD n default).cnt ∧ (S.ps.getD n default).cnt ≤ 1000000) (hle : S.evs.length ≤ 1000) (ha : (S.ps.getD n default).act = 0) (hy : (S.ps.getD n default).stays = false) :
    Calls Try.prog 32 #[.pointer (some ⟨h, 0, none⟩), .int .i64 tick, .int .i64 (n : Nat), stV false true] w fun r w' => r = .returned (.int .i64 1) ∧ RAt w' (fun k => B k ∨ w.heap.size ≤ k) h C ap ac aw cp cc cw ⟨S.ps.set n ⟨(S.ps.getD n default).act, true, (S.ps.getD n default).cnt + 1⟩, pushE S.evs ⟨tick, n, 1⟩⟩ ∧ Chg w w' B := by
  obtain ⟨al, an, ag, cl, cn, cg, H⟩ := hr
  obtain ⟨gn, cn', hv, _, hgn, _, _⟩ := own_block H.cnt (by omega)
  injection hv with e1 e2 e3
  subst e1 e3
  obtain ⟨gg, cg', hv2, _, hgg, _, _⟩ := own_block H.gone (by omega)
  injection hv2 with e4 e5 e6
  subst e4 e6
  obtain ⟨W0, hW0⟩ : ∃ W, w.alloc (.cells #[.slice none 0 0, .int .i64 0, .slice none 0 0, .bool false, .bool true, .slice none 0 0] 61) = W := ⟨_, rfl⟩
  have C0 : Chg w W0 (fun _ => False) := by rw [← hW0]; exact (Chg.refl w _).alloc _
  have BS : Box W0 w.heap.size 61 #[.slice none 0 0, .int .i64 0, .slice none 0 0, .bool false, .bool true, .slice none 0 0] := by rw [← hW0]; exact Box.new w _ _
  have s3 := BS.cell 3
  have s4 := BS.cell 4
  have H0 := H.chg C0 (fun _ h => h.elim)
  have HC0 := Lib.hid (hcfg.keep C0)
  have hpn : S.ps.getD n default = S.ps[n] := by rw [List.getD_eq_getElem?_getD, List.getElem?_eq_getElem hn]; rfl
  have g3 := H0.box.cell 3
  have g6 := H0.box.cell 6
  have g7 := H0.box.cell 7
  have g8 := H0.box.cell 8
  obtain ⟨p, hp⟩ : ∃ p, S.ps[n] = p := ⟨_, rfl⟩
  have c0 : W0.cell? ⟨gn, n, none⟩ = some (.int .i64 p.cnt) := own_cells H0.cnt n _ (by simp [cntCells, hn, hp])
  have c1 : W0.cell? ⟨gg, n, none⟩ = some (.bool p.stays) := own_cells H0.gone n _ (by simp [goneCells, hn, hp])
  have n0 : (0 : Int) ≤ (n : Int) := by omega
  have n1 : (n : Int) < (S.ps.length : Int) := by omega
  have d1 : decide ((n : Int) < 0) = false := decide_eq_false (by omega)
  have d2 : decide ((S.ps.length : Int) ≤ (n : Int)) = false := decide_eq_false (by omega)
  have hnc : n < C.parts.length := by have := H.le; omega
  have hact : p.act = C.parts[n].action := by rw [← hp]; exact H.act n hn hnc
  have HP := Lib.hid hp
  have HPN := Lib.hid hpn
  have HH := Lib.hid H0
  have C0h := Lib.hid C0
  have hgs1 : gn < W0.heap.size := by have := C0.size; omega
  have hgs2 : gg < W0.heap.size := by have := C0.size; omega
  rw [hpn, hp] at hc
  clear H H0 hp hpn C0 BS
  unfold stV
  rw [HPN.out, HP.out] at hy
  rw [hy] at c1
  rw [HPN.out, HP.out] at ha
  obtain ⟨pb, po, rfl⟩ := HC0.out.ps.pos (by omega)
  have pc := Lst.cell (n := 3) (fun _ => rfl) HC0.out.ps n 2 (by decide) hnc rfl
  rw [← hact] at pc
  have m1 : (n : Int) < (C.parts.length : Int) := by omega
  rw [ha] at pc
  obtain ⟨i0, hi0, hz0, hz1, hz2⟩ := info_parts info_ev
  obtain ⟨F1, D1⟩ := HH.out.flag n hn true
  obtain ⟨F2, D2⟩ := F1.count n (by simpa using hn) (p.cnt + 1)
  have hps : ((⟨S.ps.set n ⟨S.ps[n].act, true, S.ps[n].cnt⟩, S.evs⟩ : HS).ps.set n ⟨((⟨S.ps.set n ⟨S.ps[n].act, true, S.ps[n].cnt⟩, S.evs⟩ : HS).ps[n]'(by simpa using hn)).act, ((⟨S.ps.set n ⟨S.ps[n].act, true, S.ps[n].cnt⟩, S.evs⟩ : HS).ps[n]'(by simpa using hn)).stays, p.cnt + 1⟩) = S.ps.set n ⟨p.act, true, p.cnt + 1⟩ := by simp [HP.out]
  rw [hps] at F2
  have hggn : gg ≠ gn := own_own_ne HH.out.gone HH.out.cnt (by decide) gg rfl |> (fun h e => h (by rw [e]; rfl))
  have hhg : h ≠ gg := fun e => own_ne HH.out.gone HH.out.box (by decide) gg rfl e.symm
  have hhn : h ≠ gn := fun e => own_ne HH.out.cnt HH.out.box (by decide) gn rfl e.symm
  have fz0 := own_frozen HH.out.cnt n
  have fz1 := own_frozen HH.out.gone n
  have iw : IntKind.i64.wrap (p.cnt + 1) = p.cnt + 1 := IntWalk.i64_in _ (by omega)
  have DD : Chg w _ B := (C0h.out.mono (fun _ _ h => h.elim)).trans (D1.trans D2)
  have OA := own_alloc F2.evs (.cells #[.int .i64 tick, .int .i64 (n : Nat), .int .i64 1] 68)
  have BA := F2.box.alloc (.cells #[.int .i64 tick, .int .i64 (n : Nat), .int .i64 1] 68)
  have hN := ((Box.new ((W0.setCell ⟨gg, n, none⟩ (.bool true)).setCell ⟨gn, n, none⟩ (.int .i64 (p.cnt + 1))) 68 #[.int .i64 tick, .int .i64 (n : Nat), .int .i64 1]).src 1 1 3 [.int .i64 tick, .int .i64 (n : Nat), .int .i64 1] rfl rfl).get _ rfl
  rw [show ((W0.setCell ⟨gg, n, none⟩ (.bool true)).setCell ⟨gn, n, none⟩ (.int .i64 (p.cnt + 1))).heap.size = W0.heap.size from by simp] at hN
  have HF2 := Lib.hid F2
  have HOA := Lib.hid OA
  have HBA := Lib.hid BA
  have CW2 : Chg ((W0.setCell ⟨gg, n, none⟩ (.bool true)).setCell ⟨gn, n, none⟩ (.int .i64 (p.cnt + 1))) ((((W0.setCell ⟨gg, n, none⟩ (.bool true)).setCell ⟨gn, n, none⟩ (.int .i64 (p.cnt + 1)))).alloc (.cells #[.int .i64 tick, .int .i64 (n : Nat), .int .i64 1] 68)) (fun _ => False) := (Chg.refl _ _).alloc _
  have hevl : S.evs.length ≤ 1000 := hle
  clear F1 F2 D1 D2 hps OA BA
  go_enter Try.func32, Try.ntmps32
  go_wp2_with (at_builtin; go_loud (refine wpList_append_own_at _ rfl (.tmp 72) (.tmp 77) _ rfl 0 68 i0 _ 3 24 Try.underlying63 hi0 hz0 hz1 hz2 rfl (by omega) _ S.evs.length _ rfl HOA.out ⟨W0.heap.size, 0, none⟩ 1 1 [.int .i64 tick, .int .i64 (n : Nat), .int .i64 1] rfl rfl hN (by intro u hu; simp only [List.mem_cons, List.not_mem_nil, or_false] at hu; rcases hu with rfl | rfl | rfl <;> rfl) (by unfold maxLen; omega) (by omega) (Nat.zero_le _) ?_); go_loud (intro v4 w4 O4 hgr4 _ hat4); go_loud (refine ?roundEnd))
  obtain ⟨g4, c4, rfl, _, hg4, hc4, hm4⟩ := own_block O4 (by omega)
  have CX : Chg ((W0.setCell ⟨gg, n, none⟩ (.bool true)).setCell ⟨gn, n, none⟩ (.int .i64 (p.cnt + 1))) w4 (fun k => (Value.slice al S.evs.length cl).ownBlock = some k) := (CW2.mono (fun _ _ h => h.elim)).grown hgr4 (fun k hk _ => hk)
  have hsz2 : ((W0.setCell ⟨gg, n, none⟩ (.bool true)).setCell ⟨gn, n, none⟩ (.int .i64 (p.cnt + 1))).heap.size = W0.heap.size := by simp
  have eE : (S.evs ++ [(⟨tick, (n : Int), 1⟩ : EvH)]).length = S.evs.length + 1 := by simp
  have O4' : w4.ownsRow 0 68 3 (.slice (some ⟨g4, 0, none⟩) (S.evs ++ [(⟨tick, (n : Int), 1⟩ : EvH)]).length c4) (S.evs ++ [(⟨tick, (n : Int), 1⟩ : EvH)]).length ((S.evs ++ [(⟨tick, (n : Int), 1⟩ : EvH)]).flatMap evCells) := by rw [eE, List.flatMap_append]; exact O4
  obtain ⟨F5, D5⟩ := HF2.out.list CX O4' (fun b hb => by
    have hb' : g4 = b := by injection hb
    subst hb'
    rcases hat4 with h6 | h6
    · exact .inl h6.symm
    · injection h6 with h6; right; rw [hsz2]; have h7 : g4 = _ := h6; simp at h7; omega)
  rw [eE] at F5 D5
  have B4 := (HF2.out.box.chg CX (fun e => own_ne HF2.out.evs HF2.out.box (by decide) _ e rfl))
  have w6 := B4.cell 6
  have wf6 := B4.frozen 6
  have hg4h : g4 ≠ h := own_ne O4 B4 (by decide) g4 rfl
  have DX := DD.trans D5
  have HDX := Lib.hid DX
  have hszX : w.heap.size ≤ W0.heap.size := C0h.out.size
  have HF5 := Lib.hid F5
  have x6 := F5.box.cell 6
  have xf6 := F5.box.frozen 6
  have ps' : (S.ps.set n ⟨(S.ps.getD n default).act, true, (S.ps.getD n default).cnt + 1⟩) = S.ps.set n ⟨p.act, true, p.cnt + 1⟩ := by rw [HPN.out, HP.out]
  have HPS := Lib.hid ps'
  have HPT := Lib.hid (show (S.ps.set n ⟨S.ps[n].act, true, S.ps[n].cnt + 1⟩) = S.ps.set n ⟨p.act, true, p.cnt + 1⟩ by rw [HP.out])
  rw [eE] at x6
  clear F5 CX O4' D5 DX ps' hat4 hgr4 HOA HBA CW2 hN eE
  refine ?rest
  by_cases hfull : S.evs.length = 1000
  · have l1 : decide ((1000 : Int) < (S.evs.length : Int) + 1) = true := decide_eq_true (by omega)
    have hpu : pushE S.evs ⟨tick, (n : Int), 1⟩ = (S.evs ++ [(⟨tick, (n : Int), 1⟩ : EvH)]).drop 1 := by unfold pushE; rw [if_pos (by simp; omega)]
    have HPU := Lib.hid hpu
    have hdl : ((S.evs ++ [(⟨tick, (n : Int), 1⟩ : EvH)]).drop 1).length = S.evs.length := by simp
    have SD : Src (w4.setCell ⟨h, 6, none⟩ (.slice (some ⟨g4, 0, none⟩) (S.evs.length + 1) c4)) (some ⟨g4, 3, none⟩) S.evs.length (c4 - 1) (((S.evs ++ [(⟨tick, (n : Int), 1⟩ : EvH)]).drop 1).flatMap evCells) 3 := by
      refine ⟨by rw [flat_length evCells 3 ev_len, hdl], fun h => (by cases h), fun ad he j u hu => ?_⟩
      injection he with he
      subst he
      rw [Addr.add_lit]
      refine own_cells HF5.out.evs (3 + j) u ?_
      rw [← hu]
      cases hE : (S.evs ++ [(⟨tick, (n : Int), 1⟩ : EvH)]) with
      | nil => simp at hE
      | cons y ys =>
        rw [List.drop_one, List.tail_cons, List.flatMap_cons, List.getElem?_append_right (by rw [ev_len]; omega), ev_len]
        congr 1
        omega
    have HSD := Lib.hid SD
    have kc1 : ¬ c4 = 1 := by omega
    have kc2 : (1 : Int) ≤ (S.evs.length : Int) + 1 := by omega
    have kc3 : (1 : Int) ≤ (c4 : Int) := by omega
    have HFL := Lib.hid hfull
    clear hpu SD hfull
    go_wp2_with (at_builtin; go_loud (refine wpList_append_own_at _ rfl (.const (.slice none 0 0)) (.tmp 92) _ rfl 0 68 i0 _ 3 24 Try.underlying63 hi0 hz0 hz1 hz2 rfl (by omega) _ 0 [] rfl ⟨rfl, .inl ⟨rfl, rfl⟩⟩ ⟨g4, 3, none⟩ S.evs.length (c4 - 1) _ rfl HSD.out.len (HSD.out.get _ rfl) (ev_one _) (by unfold maxLen; omega) (by omega) (Nat.zero_le _) ?_); go_loud (intro v7 w7 O7 hgr7 _ hat7); go_loud (rw [Nat.zero_add, List.nil_append] at O7); go_loud (obtain ⟨g7, c7, rfl, _, hg7, hc7, _⟩ := own_block O7 (by have := HFL.out; omega)); go_loud (have C7 : Chg (w4.setCell ⟨h, 6, none⟩ (.slice (some ⟨g4, 0, none⟩) (S.evs.length + 1) c4)) w7 (fun _ => False) := (Chg.refl _ _).grown hgr7 (fun k hk _ => by cases hk)); go_loud (have B7 := (HF5.out.chg C7 (fun _ h => h.elim)).box); go_loud (have v6 := B7.cell 6); go_loud (have vf6 := B7.frozen 6))
    have hat7' : g7 = (w4.setCell ⟨h, 6, none⟩ (.slice (some ⟨g4, 0, none⟩) (S.evs.length + 1) c4)).heap.size := by
      rcases hat7 with h6 | h6
      · cases h6
      · injection h6
    have F7 := HF5.out.chg C7 (fun _ h => h.elim)
    have O7' : w7.ownsRow 0 68 3 (.slice (some ⟨g7, 0, none⟩) ((S.evs ++ [(⟨tick, (n : Int), 1⟩ : EvH)]).drop 1).length c7) ((S.evs ++ [(⟨tick, (n : Int), 1⟩ : EvH)]).drop 1).length (((S.evs ++ [(⟨tick, (n : Int), 1⟩ : EvH)]).drop 1).flatMap evCells) := by rw [hdl]; exact O7
    obtain ⟨F8, D8⟩ := HF5.out.list (C7.mono (fun _ _ h => h.elim)) O7' (fun b hb => by
      have hb' : g7 = b := by injection hb
      subst hb'
      exact .inr (by omega))
    rw [hdl] at F8 D8
    have hs7 : w.heap.size ≤ (w4.setCell ⟨h, 6, none⟩ (.slice (some ⟨g4, 0, none⟩) (S.evs.length + 1) c4)).heap.size := HDX.out.size
    have D9 : Chg w _ B := HDX.out.trans' D8 (fun k hk e => by
      rcases e with e | e
      · exact e
      · exfalso; rw [hsz2] at e; omega)
    have HF8 := Lib.hid F8
    have HD9 := Lib.hid D9
    clear F7 F8 D8 D9 O7 O7' C7 hat7 hgr7 HSD B7
    go_ret
    rw [HPU.out]
    first | rw [HPS.out] | rw [HPT.out]
    refine ⟨rfl, RAt.mono (B := fun k => (B k ∨ _) ∨ _) ⟨_, _, _, _, _, _, HF8.out⟩ (fun k hk => ?_), HD9.out⟩
    rcases hk with (hk | hk) | hk
    · exact .inl hk
    · right; rw [hsz2] at hk; omega
    · right; omega
  · have l1 : decide ((1000 : Int) < (S.evs.length : Int) + 1) = false := decide_eq_false (by omega)
    have hpu : pushE S.evs ⟨tick, (n : Int), 1⟩ = S.evs ++ [⟨tick, (n : Int), 1⟩] := by unfold pushE; rw [if_neg (by simp; omega)]
    have HPU := Lib.hid hpu
    clear hpu
    go_wp2_with fail
    go_ret
    rw [HPU.out]
    first | rw [HPS.out] | rw [HPT.out]
    refine ⟨rfl, RAt.mono (B := fun k => B k ∨ _) ⟨_, _, _, _, _, _, HF5.out⟩ (fun k hk => ?_), HDX.out⟩
    rcases hk with hk | hk
    · exact .inl hk
    · right; rw [hsz2] at hk; omega
set_option maxRecDepth 100000 in
set_option maxHeartbeats 3200000 in
theorem rsee_n3 (w : World) (B : Nat → Prop) (h : Nat) (C : Cfg) (ap ac aw : Option Addr) (cp cc cw : Nat) (S : HS) (tick : Int) (n : Nat) (hr : RAt w B h C ap ac aw cp cc cw S) (hcfg : CfgAt w C ap ac aw cp cc cw) (hn : n < S.ps.length) (hc : 0 ≤ (S.ps.getD n default).cnt ∧ (S.ps.getD n default).cnt ≤ 1000000) (hle : S.evs.length ≤ 1000) (ha : (S.ps.getD n default).act = 1) :
    Calls Try.prog 32 #[.pointer (some ⟨h, 0, none⟩), .int .i64 tick, .int .i64 (n : Nat), stV false true] w fun r w' => r = .returned (.int .i64 2) ∧ RAt w' (fun k => B k ∨ w.heap.size ≤ k) h C ap ac aw cp cc cw ⟨S.ps.set n ⟨(S.ps.getD n default).act, false, (S.ps.getD n default).cnt + 1⟩, pushE S.evs ⟨tick, n, 2⟩⟩ ∧ Chg w w' B := by
  obtain ⟨al, an, ag, cl, cn, cg, H⟩ := hr
  obtain ⟨gn, cn', hv, _, hgn, _, _⟩ := own_block H.cnt (by omega)
  injection hv with e1 e2 e3
  subst e1 e3
  obtain ⟨gg, cg', hv2, _, hgg, _, _⟩ := own_block H.gone (by omega)
  injection hv2 with e4 e5 e6
  subst e4 e6
  obtain ⟨W0, hW0⟩ : ∃ W, w.alloc (.cells #[.slice none 0 0, .int .i64 0, .slice none 0 0, .bool false, .bool true, .slice none 0 0] 61) = W := ⟨_, rfl⟩
  have C0 : Chg w W0 (fun _ => False) := by rw [← hW0]; exact (Chg.refl w _).alloc _
  have BS : Box W0 w.heap.size 61 #[.slice none 0 0, .int .i64 0, .slice none 0 0, .bool false, .bool true, .slice none 0 0] := by rw [← hW0]; exact Box.new w _ _
  have s3 := BS.cell 3
  have s4 := BS.cell 4
  have H0 := H.chg C0 (fun _ h => h.elim)
  have HC0 := Lib.hid (hcfg.keep C0)
  have hpn : S.ps.getD n default = S.ps[n] := by rw [List.getD_eq_getElem?_getD, List.getElem?_eq_getElem hn]; rfl
  have g3 := H0.box.cell 3
  have g6 := H0.box.cell 6
  have g7 := H0.box.cell 7
  have g8 := H0.box.cell 8
  obtain ⟨p, hp⟩ : ∃ p, S.ps[n] = p := ⟨_, rfl⟩
  have c0 : W0.cell? ⟨gn, n, none⟩ = some (.int .i64 p.cnt) := own_cells H0.cnt n _ (by simp [cntCells, hn, hp])
  have c1 : W0.cell? ⟨gg, n, none⟩ = some (.bool p.stays) := own_cells H0.gone n _ (by simp [goneCells, hn, hp])
  have n0 : (0 : Int) ≤ (n : Int) := by omega
  have n1 : (n : Int) < (S.ps.length : Int) := by omega
  have d1 : decide ((n : Int) < 0) = false := decide_eq_false (by omega)
  have d2 : decide ((S.ps.length : Int) ≤ (n : Int)) = false := decide_eq_false (by omega)
  have hnc : n < C.parts.length := by have := H.le; omega
  have hact : p.act = C.parts[n].action := by rw [← hp]; exact H.act n hn hnc
  have HP := Lib.hid hp
  have HPN := Lib.hid hpn
  have HH := Lib.hid H0
  have C0h := Lib.hid C0
  have hgs1 : gn < W0.heap.size := by have := C0.size; omega
  have hgs2 : gg < W0.heap.size := by have := C0.size; omega
  rw [hpn, hp] at hc
  clear H H0 hp hpn C0 BS
  unfold stV
  rw [HPN.out, HP.out] at ha
  obtain ⟨pb, po, rfl⟩ := HC0.out.ps.pos (by omega)
  have pc := Lst.cell (n := 3) (fun _ => rfl) HC0.out.ps n 2 (by decide) hnc rfl
  rw [← hact] at pc
  have m1 : (n : Int) < (C.parts.length : Int) := by omega
  rw [ha] at pc
  obtain ⟨i0, hi0, hz0, hz1, hz2⟩ := info_parts info_ev
  obtain ⟨F1, D1⟩ := HH.out.flag n hn false
  obtain ⟨F2, D2⟩ := F1.count n (by simpa using hn) (p.cnt + 1)
  have hps : ((⟨S.ps.set n ⟨S.ps[n].act, false, S.ps[n].cnt⟩, S.evs⟩ : HS).ps.set n ⟨((⟨S.ps.set n ⟨S.ps[n].act, false, S.ps[n].cnt⟩, S.evs⟩ : HS).ps[n]'(by simpa using hn)).act, ((⟨S.ps.set n ⟨S.ps[n].act, false, S.ps[n].cnt⟩, S.evs⟩ : HS).ps[n]'(by simpa using hn)).stays, p.cnt + 1⟩) = S.ps.set n ⟨p.act, false, p.cnt + 1⟩ := by simp [HP.out]
  rw [hps] at F2
  have hggn : gg ≠ gn := own_own_ne HH.out.gone HH.out.cnt (by decide) gg rfl |> (fun h e => h (by rw [e]; rfl))
  have hhg : h ≠ gg := fun e => own_ne HH.out.gone HH.out.box (by decide) gg rfl e.symm
  have hhn : h ≠ gn := fun e => own_ne HH.out.cnt HH.out.box (by decide) gn rfl e.symm
  have fz0 := own_frozen HH.out.cnt n
  have fz1 := own_frozen HH.out.gone n
  have iw : IntKind.i64.wrap (p.cnt + 1) = p.cnt + 1 := IntWalk.i64_in _ (by omega)
  have DD : Chg w _ B := (C0h.out.mono (fun _ _ h => h.elim)).trans (D1.trans D2)
  have OA := own_alloc F2.evs (.cells #[.int .i64 tick, .int .i64 (n : Nat), .int .i64 2] 68)
  have BA := F2.box.alloc (.cells #[.int .i64 tick, .int .i64 (n : Nat), .int .i64 2] 68)
  have hN := ((Box.new ((W0.setCell ⟨gg, n, none⟩ (.bool false)).setCell ⟨gn, n, none⟩ (.int .i64 (p.cnt + 1))) 68 #[.int .i64 tick, .int .i64 (n : Nat), .int .i64 2]).src 1 1 3 [.int .i64 tick, .int .i64 (n : Nat), .int .i64 2] rfl rfl).get _ rfl
  rw [show ((W0.setCell ⟨gg, n, none⟩ (.bool false)).setCell ⟨gn, n, none⟩ (.int .i64 (p.cnt + 1))).heap.size = W0.heap.size from by simp] at hN
  have HF2 := Lib.hid F2
  have HOA := Lib.hid OA
  have HBA := Lib.hid BA
  have CW2 : Chg ((W0.setCell ⟨gg, n, none⟩ (.bool false)).setCell ⟨gn, n, none⟩ (.int .i64 (p.cnt + 1))) ((((W0.setCell ⟨gg, n, none⟩ (.bool false)).setCell ⟨gn, n, none⟩ (.int .i64 (p.cnt + 1)))).alloc (.cells #[.int .i64 tick, .int .i64 (n : Nat), .int .i64 2] 68)) (fun _ => False) := (Chg.refl _ _).alloc _
  have hevl : S.evs.length ≤ 1000 := hle
  clear F1 F2 D1 D2 hps OA BA
  go_enter Try.func32, Try.ntmps32
  go_wp2_with (at_builtin; go_loud (refine wpList_append_own_at _ rfl (.tmp 72) (.tmp 77) _ rfl 0 68 i0 _ 3 24 Try.underlying63 hi0 hz0 hz1 hz2 rfl (by omega) _ S.evs.length _ rfl HOA.out ⟨W0.heap.size, 0, none⟩ 1 1 [.int .i64 tick, .int .i64 (n : Nat), .int .i64 2] rfl rfl hN (by intro u hu; simp only [List.mem_cons, List.not_mem_nil, or_false] at hu; rcases hu with rfl | rfl | rfl <;> rfl) (by unfold maxLen; omega) (by omega) (Nat.zero_le _) ?_); go_loud (intro v4 w4 O4 hgr4 _ hat4); go_loud (refine ?roundEnd))
  obtain ⟨g4, c4, rfl, _, hg4, hc4, hm4⟩ := own_block O4 (by omega)
  have CX : Chg ((W0.setCell ⟨gg, n, none⟩ (.bool false)).setCell ⟨gn, n, none⟩ (.int .i64 (p.cnt + 1))) w4 (fun k => (Value.slice al S.evs.length cl).ownBlock = some k) := (CW2.mono (fun _ _ h => h.elim)).grown hgr4 (fun k hk _ => hk)
  have hsz2 : ((W0.setCell ⟨gg, n, none⟩ (.bool false)).setCell ⟨gn, n, none⟩ (.int .i64 (p.cnt + 1))).heap.size = W0.heap.size := by simp
  have eE : (S.evs ++ [(⟨tick, (n : Int), 2⟩ : EvH)]).length = S.evs.length + 1 := by simp
  have O4' : w4.ownsRow 0 68 3 (.slice (some ⟨g4, 0, none⟩) (S.evs ++ [(⟨tick, (n : Int), 2⟩ : EvH)]).length c4) (S.evs ++ [(⟨tick, (n : Int), 2⟩ : EvH)]).length ((S.evs ++ [(⟨tick, (n : Int), 2⟩ : EvH)]).flatMap evCells) := by rw [eE, List.flatMap_append]; exact O4
  obtain ⟨F5, D5⟩ := HF2.out.list CX O4' (fun b hb => by
    have hb' : g4 = b := by injection hb
    subst hb'
    rcases hat4 with h6 | h6
    · exact .inl h6.symm
    · injection h6 with h6; right; rw [hsz2]; have h7 : g4 = _ := h6; simp at h7; omega)
  rw [eE] at F5 D5
  have B4 := (HF2.out.box.chg CX (fun e => own_ne HF2.out.evs HF2.out.box (by decide) _ e rfl))
  have w6 := B4.cell 6
  have wf6 := B4.frozen 6
  have hg4h : g4 ≠ h := own_ne O4 B4 (by decide) g4 rfl
  have DX := DD.trans D5
  have HDX := Lib.hid DX
  have hszX : w.heap.size ≤ W0.heap.size := C0h.out.size
  have HF5 := Lib.hid F5
  have x6 := F5.box.cell 6
  have xf6 := F5.box.frozen 6
  have ps' : (S.ps.set n ⟨(S.ps.getD n default).act, false, (S.ps.getD n default).cnt + 1⟩) = S.ps.set n ⟨p.act, false, p.cnt + 1⟩ := by rw [HPN.out, HP.out]
  have HPS := Lib.hid ps'
  have HPT := Lib.hid (show (S.ps.set n ⟨S.ps[n].act, false, S.ps[n].cnt + 1⟩) = S.ps.set n ⟨p.act, false, p.cnt + 1⟩ by rw [HP.out])
  rw [eE] at x6
  clear F5 CX O4' D5 DX ps' hat4 hgr4 HOA HBA CW2 hN eE
  refine ?rest
  by_cases hfull : S.evs.length = 1000
  · have l1 : decide ((1000 : Int) < (S.evs.length : Int) + 1) = true := decide_eq_true (by omega)
    have hpu : pushE S.evs ⟨tick, (n : Int), 2⟩ = (S.evs ++ [(⟨tick, (n : Int), 2⟩ : EvH)]).drop 1 := by unfold pushE; rw [if_pos (by simp; omega)]
    have HPU := Lib.hid hpu
    have hdl : ((S.evs ++ [(⟨tick, (n : Int), 2⟩ : EvH)]).drop 1).length = S.evs.length := by simp
    have SD : Src (w4.setCell ⟨h, 6, none⟩ (.slice (some ⟨g4, 0, none⟩) (S.evs.length + 1) c4)) (some ⟨g4, 3, none⟩) S.evs.length (c4 - 1) (((S.evs ++ [(⟨tick, (n : Int), 2⟩ : EvH)]).drop 1).flatMap evCells) 3 := by
      refine ⟨by rw [flat_length evCells 3 ev_len, hdl], fun h => (by cases h), fun ad he j u hu => ?_⟩
      injection he with he
      subst he
      rw [Addr.add_lit]
      refine own_cells HF5.out.evs (3 + j) u ?_
      rw [← hu]
      cases hE : (S.evs ++ [(⟨tick, (n : Int), 2⟩ : EvH)]) with
      | nil => simp at hE
      | cons y ys =>
        rw [List.drop_one, List.tail_cons, List.flatMap_cons, List.getElem?_append_right (by rw [ev_len]; omega), ev_len]
        congr 1
        omega
    have HSD := Lib.hid SD
    have kc1 : ¬ c4 = 1 := by omega
    have kc2 : (1 : Int) ≤ (S.evs.length : Int) + 1 := by omega
    have kc3 : (1 : Int) ≤ (c4 : Int) := by omega
    have HFL := Lib.hid hfull
    clear hpu SD hfull
    go_wp2_with (at_builtin; go_loud (refine wpList_append_own_at _ rfl (.const (.slice none 0 0)) (.tmp 92) _ rfl 0 68 i0 _ 3 24 Try.underlying63 hi0 hz0 hz1 hz2 rfl (by omega) _ 0 [] rfl ⟨rfl, .inl ⟨rfl, rfl⟩⟩ ⟨g4, 3, none⟩ S.evs.length (c4 - 1) _ rfl HSD.out.len (HSD.out.get _ rfl) (ev_one _) (by unfold maxLen; omega) (by omega) (Nat.zero_le _) ?_); go_loud (intro v7 w7 O7 hgr7 _ hat7); go_loud (rw [Nat.zero_add, List.nil_append] at O7); go_loud (obtain ⟨g7, c7, rfl, _, hg7, hc7, _⟩ := own_block O7 (by have := HFL.out; omega)); go_loud (have C7 : Chg (w4.setCell ⟨h, 6, none⟩ (.slice (some ⟨g4, 0, none⟩) (S.evs.length + 1) c4)) w7 (fun _ => False) := (Chg.refl _ _).grown hgr7 (fun k hk _ => by cases hk)); go_loud (have B7 := (HF5.out.chg C7 (fun _ h => h.elim)).box); go_loud (have v6 := B7.cell 6); go_loud (have vf6 := B7.frozen 6))
    have hat7' : g7 = (w4.setCell ⟨h, 6, none⟩ (.slice (some ⟨g4, 0, none⟩) (S.evs.length + 1) c4)).heap.size := by
      rcases hat7 with h6 | h6
      · cases h6
      · injection h6
    have F7 := HF5.out.chg C7 (fun _ h => h.elim)
    have O7' : w7.ownsRow 0 68 3 (.slice (some ⟨g7, 0, none⟩) ((S.evs ++ [(⟨tick, (n : Int), 2⟩ : EvH)]).drop 1).length c7) ((S.evs ++ [(⟨tick, (n : Int), 2⟩ : EvH)]).drop 1).length (((S.evs ++ [(⟨tick, (n : Int), 2⟩ : EvH)]).drop 1).flatMap evCells) := by rw [hdl]; exact O7
    obtain ⟨F8, D8⟩ := HF5.out.list (C7.mono (fun _ _ h => h.elim)) O7' (fun b hb => by
      have hb' : g7 = b := by injection hb
      subst hb'
      exact .inr (by omega))
    rw [hdl] at F8 D8
    have hs7 : w.heap.size ≤ (w4.setCell ⟨h, 6, none⟩ (.slice (some ⟨g4, 0, none⟩) (S.evs.length + 1) c4)).heap.size := HDX.out.size
    have D9 : Chg w _ B := HDX.out.trans' D8 (fun k hk e => by
      rcases e with e | e
      · exact e
      · exfalso; rw [hsz2] at e; omega)
    have HF8 := Lib.hid F8
    have HD9 := Lib.hid D9
    clear F7 F8 D8 D9 O7 O7' C7 hat7 hgr7 HSD B7
    go_ret
    rw [HPU.out]
    first | rw [HPS.out] | rw [HPT.out]
    refine ⟨rfl, RAt.mono (B := fun k => (B k ∨ _) ∨ _) ⟨_, _, _, _, _, _, HF8.out⟩ (fun k hk => ?_), HD9.out⟩
    rcases hk with (hk | hk) | hk
    · exact .inl hk
    · right; rw [hsz2] at hk; omega
    · right; omega
  · have l1 : decide ((1000 : Int) < (S.evs.length : Int) + 1) = false := decide_eq_false (by omega)
    have hpu : pushE S.evs ⟨tick, (n : Int), 2⟩ = S.evs ++ [⟨tick, (n : Int), 2⟩] := by unfold pushE; rw [if_neg (by simp; omega)]
    have HPU := Lib.hid hpu
    clear hpu
    go_wp2_with fail
    go_ret
    rw [HPU.out]
    first | rw [HPS.out] | rw [HPT.out]
    refine ⟨rfl, RAt.mono (B := fun k => B k ∨ _) ⟨_, _, _, _, _, _, HF5.out⟩ (fun k hk => ?_), HDX.out⟩
    rcases hk with hk | hk
    · exact .inl hk
    · right; rw [hsz2] at hk; omega

/-- A look of the reference, whatever it is. -/
theorem rsee_any (w : World) (B : Nat → Prop) (h : Nat) (C : Cfg) (ap ac aw : Option Addr) (cp cc cw : Nat) (S : HS) (tick n : Int) (halt stuck : Bool) (k : Nat) (hr : RAt w B h C ap ac aw cp cc cw S) (hcfg : CfgAt w C ap ac aw cp cc cw) (hk : HOk S k) (hb : k ≤ 1000000) :
    Calls Try.prog 32 #[.pointer (some ⟨h, 0, none⟩), .int .i64 tick, .int .i64 n, stV halt stuck] w fun r w' => r = .returned (.int .i64 (seeS S tick n halt stuck).2) ∧ RAt w' (fun k => B k ∨ w.heap.size ≤ k) h C ap ac aw cp cc cw (seeS S tick n halt stuck).1 ∧ Chg w w' B := by
  have keep : ∀ {w' : World}, Chg w w' (fun _ => False) → RAt w' (fun k => B k ∨ w.heap.size ≤ k) h C ap ac aw cp cc cw S ∧ Chg w w' B := fun c => ⟨(hr.chg c (fun _ h => h.elim)).mono (fun _ h => .inl h), c.mono (fun _ _ h => h.elim)⟩
  by_cases ho : n < 0 ∨ (S.ps.length : Int) ≤ n
  · refine (rsee_out w B h C ap ac aw cp cc cw S tick n halt stuck hr ho).mono ?_
    rintro r w' ⟨rfl, c⟩
    have : seeS S tick n halt stuck = (S, 0) := by unfold seeS; rw [if_pos (by rcases ho with h | h; exact .inl h; exact .inr (.inl h))]
    rw [this]
    exact ⟨rfl, keep c⟩
  obtain ⟨m, rfl⟩ : ∃ m : Nat, n = m := ⟨n.toNat, by omega⟩
  have hm : m < S.ps.length := by omega
  have hmem : S.ps.getD m default ∈ S.ps := by rw [List.getD_eq_getElem?_getD, List.getElem?_eq_getElem hm]; exact List.getElem_mem hm
  have hc := hk.cnt _ hmem
  have ha := hk.acts _ hmem
  by_cases hs : halt = false ∧ stuck = false
  · obtain ⟨rfl, rfl⟩ := hs
    refine (rsee_none w B h C ap ac aw cp cc cw S tick m hr hcfg hm (by omega)).mono ?_
    rintro r w' ⟨rfl, c⟩
    have : seeS S tick m false false = (S, 0) := by unfold seeS; rw [if_pos (.inr (.inr ⟨rfl, rfl⟩))]
    rw [this]
    exact ⟨rfl, keep c⟩
  have hsee : seeS S tick m halt stuck = (if halt = false ∧ (S.ps.getD m default).act = 1 then (⟨S.ps.set m ⟨(S.ps.getD m default).act, false, (S.ps.getD m default).cnt + 1⟩, pushE S.evs ⟨tick, m, 2⟩⟩, 2)
      else if (S.ps.getD m default).stays = false then (⟨S.ps.set m ⟨(S.ps.getD m default).act, true, (S.ps.getD m default).cnt + 1⟩, pushE S.evs ⟨tick, m, 1⟩⟩, 1) else (S, 1)) := by
    unfold seeS
    rw [if_neg (by rintro (h | h | h); omega; omega; exact hs h), Int.toNat_natCast]
  rw [hsee]
  cases halt with
  | true =>
    rw [if_neg (fun h => by cases h.1)]
    cases hy : (S.ps.getD m default).stays with
    | true =>
      rw [if_neg (by simp)]
      refine (rsee_stay1 w B h C ap ac aw cp cc cw S tick m hr hcfg hm (by omega) stuck hy).mono ?_
      rintro r w' ⟨rfl, c⟩
      exact ⟨rfl, keep c⟩
    | false =>
      rw [if_pos rfl]
      exact rsee_n1 w B h C ap ac aw cp cc cw S tick m hr hcfg hm (by omega) hk.le stuck hy
  | false =>
    have hst : stuck = true := by cases stuck; exact absurd ⟨rfl, rfl⟩ hs; rfl
    subst hst
    by_cases h1 : (S.ps.getD m default).act = 1
    · rw [if_pos ⟨rfl, h1⟩]
      exact rsee_n3 w B h C ap ac aw cp cc cw S tick m hr hcfg hm (by omega) hk.le h1
    · rw [if_neg (fun h => h1 h.2)]
      have h0 : (S.ps.getD m default).act = 0 := by omega
      cases hy : (S.ps.getD m default).stays with
      | true =>
        rw [if_neg (by simp)]
        refine (rsee_stay2 w B h C ap ac aw cp cc cw S tick m hr hcfg hm (by omega) h0 hy).mono ?_
        rintro r w' ⟨rfl, c⟩
        exact ⟨rfl, keep c⟩
      | false =>
        rw [if_pos rfl]
        exact rsee_n2 w B h C ap ac aw cp cc cw S tick m hr hcfg hm (by omega) hk.le h0 hy
end Go.Proofs.Ytdhkbephofnfdaa

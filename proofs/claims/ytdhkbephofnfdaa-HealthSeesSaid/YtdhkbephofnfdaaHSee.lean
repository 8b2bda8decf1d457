/- health: a look; a count. -/
import Derived.Test.YtdhkbephofnfdaaHMon
namespace Go.Proofs.Ytdhkbephofnfdaa
open Go.RowKit

def stV (halt stuck : Bool) : Value := .agg #[.slice none 0 0, .int .i64 0, .slice none 0 0, .bool halt, .bool stuck, .slice none 0 0]
def stC (halt stuck : Bool) : Array Value := #[.slice none 0 0, .int .i64 0, .slice none 0 0, .bool halt, .bool stuck, .slice none 0 0]

set_option maxRecDepth 100000 in
set_option maxHeartbeats 1600000 in
theorem see_out (w : World) (B : Nat → Prop) (g : Nat) (S : HS) (tick n : Int) (halt stuck : Bool) (h : MonAt w B g S) (ho : n < 0 ∨ (S.ps.length : Int) ≤ n ∨ (halt = false ∧ stuck = false)) :
    Calls Try.prog 31 #[.pointer (some ⟨g, 0, none⟩), .int .i64 tick, .int .i64 n, stV halt stuck] w fun r w' => r = .returned (.int .i64 0) ∧ Chg w w' (fun _ => False) := by
  obtain ⟨ap, ar, cp, cr, first, ring, H⟩ := h
  unfold stV
  have BX := H.box.alloc (.cells (stC halt stuck) 61)
  have g0 := BX.cell 0
  unfold stC at *
  by_cases h1 : n < 0
  · have d1 : decide (n < 0) = true := decide_eq_true h1
    clear h1 ho
    go_enter Try.func31, Try.ntmps31
    go_wp2_with fail
    go_ret
    exact ⟨rfl, (Chg.refl w _).alloc _⟩
  have d1 : decide (n < 0) = false := decide_eq_false h1
  by_cases h2 : (S.ps.length : Int) ≤ n
  · have d2 : decide ((S.ps.length : Int) ≤ n) = true := decide_eq_true h2
    clear h1 h2 ho
    go_enter Try.func31, Try.ntmps31
    go_wp2_with fail
    go_ret
    exact ⟨rfl, (Chg.refl w _).alloc _⟩
  have d2 : decide ((S.ps.length : Int) ≤ n) = false := decide_eq_false h2
  obtain ⟨rfl, rfl⟩ : halt = false ∧ stuck = false := by rcases ho with h | h | h; exact absurd h h1; exact absurd h h2; exact h
  clear h1 h2 ho
  go_enter Try.func31, Try.ntmps31
  go_wp2_with fail
  go_ret
  exact ⟨rfl, (Chg.refl w _).alloc _⟩

/-- A partition's flag is turned. -/
theorem MonIs.flag {w : World} {B : Nat → Prop} {g gp : Nat} {S : HS} {ar : Option Addr} {cp cr first : Nat} {ring : List EvH} (h : MonIs w B g S (some ⟨gp, 0, none⟩) ar cp cr first ring) (n : Nat) (hn : n < S.ps.length) (b : Bool) :
    MonIs (w.setCell ⟨gp, n * 3 + 1, none⟩ (.bool b)) B g ⟨S.ps.set n ⟨S.ps[n].act, b, S.ps[n].cnt⟩, S.evs⟩ (some ⟨gp, 0, none⟩) ar cp cr first ring ∧ Chg w (w.setCell ⟨gp, n * 3 + 1, none⟩ (.bool b)) B := by
  have hgpg : gp ≠ g := own_ne h.parts h.box (by decide) gp rfl
  have CS : Chg w (w.setCell ⟨gp, n * 3 + 1, none⟩ (.bool b)) (fun k => k = gp) := (Chg.refl w (fun k => k = gp)).setCell (p := ⟨gp, n * 3 + 1, none⟩) (fun _ => rfl) _
  have P1 := own_setB h.parts (n * 3 + 1) (.bool b)
  rw [flat_set1 phCells 3 ph_len (.bool b) S.ps n 1 ⟨S.ps[n].act, b, S.ps[n].cnt⟩ hn (by decide) rfl] at P1
  refine ⟨⟨?_, ?_, own_chg h.events CS (fun k hk e => own_own_ne h.events h.parts (by decide) k hk (by rw [e]; rfl)), h.rg, h.bg, ?_, h.be⟩, CS.mono (fun k _ e => by rw [e]; exact h.bp gp rfl)⟩
  · rw [List.length_set]; exact h.box.chg CS (fun e => hgpg e.symm)
  · rw [List.length_set]; exact P1
  · intro k hk; exact h.bp k hk

theorem note_eq (l : List PartH) (n : Nat) (a : Int) (b : Bool) (c : Int) (hn : n < l.length) :
    (l.set n ⟨a, b, c⟩).set n { (l.set n ⟨a, b, c⟩).getD n default with cnt := ((l.set n ⟨a, b, c⟩).getD n default).cnt + 1 } = l.set n ⟨a, b, c + 1⟩ := by
  have : (l.set n ⟨a, b, c⟩).getD n default = ⟨a, b, c⟩ := by simp [List.getD_eq_getElem?_getD, hn]
  rw [this, List.set_set]

set_option maxRecDepth 100000 in
set_option maxHeartbeats 1600000 in
theorem see_in (w : World) (B : Nat → Prop) (g : Nat) (S : HS) (tick : Int) (n : Nat) (halt stuck : Bool) (h : MonAt w B g S) (hn : n < S.ps.length) (hs : ¬ (halt = false ∧ stuck = false)) (h8 : S.ps.length ≤ 8) (hc : 0 ≤ (S.ps.getD n default).cnt ∧ (S.ps.getD n default).cnt ≤ 1000000) :
    Calls Try.prog 31 #[.pointer (some ⟨g, 0, none⟩), .int .i64 tick, .int .i64 n, stV halt stuck] w fun r w' => r = .returned (.int .i64 (seeS S tick n halt stuck).2) ∧ MonAt w' (fun k => B k ∨ w.heap.size ≤ k) g (seeS S tick n halt stuck).1 ∧ Chg w w' B := by
  obtain ⟨ap, ar, cp, cr, first, ring, H⟩ := h
  obtain ⟨gp, cp', hv, _, hgp, _, _⟩ := own_block H.parts (by omega)
  injection hv with e1 e2 e3
  subst e1 e3
  have hpn : S.ps.getD n default = S.ps[n] := by rw [List.getD_eq_getElem?_getD, List.getElem?_eq_getElem hn]; rfl
  have hsee : seeS S tick n halt stuck = (if halt = false ∧ S.ps[n].act = 1 then (⟨S.ps.set n ⟨S.ps[n].act, false, S.ps[n].cnt + 1⟩, pushE S.evs ⟨tick, n, 2⟩⟩, 2)
      else if S.ps[n].stays = false then (⟨S.ps.set n ⟨S.ps[n].act, true, S.ps[n].cnt + 1⟩, pushE S.evs ⟨tick, n, 1⟩⟩, 1) else (S, 1)) := by
    unfold seeS
    rw [if_neg (by rintro (h | h | h); omega; omega; exact hs h), Int.toNat_natCast, hpn]
  have HSE := Lib.hid hsee
  rw [hpn] at hc
  clear hsee hpn
  obtain ⟨p, hp⟩ : ∃ p, S.ps[n] = p := ⟨_, rfl⟩
  have C0 : Chg w (w.alloc (.cells (stC halt stuck) 61)) (fun _ => False) := (Chg.refl w _).alloc _
  have H0 := H.chg C0 (fun _ h => h.elim)
  have HH := Lib.hid H0
  have g0 := H0.box.cell 0
  have c0 : (w.alloc (.cells (stC halt stuck) 61)).cell? ⟨gp, n * 3, none⟩ = some (.int .i64 p.act) := own_cell3 ph_len H0.parts n 0 (by decide) hn (by rw [hp]; rfl)
  have c1 : (w.alloc (.cells (stC halt stuck) 61)).cell? ⟨gp, n * 3 + 1, none⟩ = some (.bool p.stays) := own_cell3 ph_len H0.parts n 1 (by decide) hn (by rw [hp]; rfl)
  have fz := own_frozen H0.parts (n * 3 + 1)
  have fl := fun b => H0.flag n hn b
  have HFL := Lib.hid fl
  have n0 : (0 : Int) ≤ (n : Int) := by omega
  have n1 : (n : Int) < (S.ps.length : Int) := by omega
  have d1 : decide ((n : Int) < 0) = false := decide_eq_false (by omega)
  have d2 : decide ((S.ps.length : Int) ≤ (n : Int)) = false := decide_eq_false (by omega)
  have HP := Lib.hid hp
  have C0h := Lib.hid C0
  have hgs : gp < (w.alloc (.cells (stC halt stuck) 61)).heap.size := by simp; omega
  clear H H0 fl hp C0 hgp
  unfold stV
  cases halt with
  | false =>
    have hst : stuck = true := by cases stuck; exact absurd ⟨rfl, rfl⟩ hs; rfl
    subst hst
    by_cases ha : p.act = 1
    · have da : (p.act == 1) = true := beq_iff_eq.2 ha
      have NA := fun (w1 : World) (hM : MonAt w1 B g ⟨S.ps.set n ⟨S.ps[n].act, false, S.ps[n].cnt⟩, S.evs⟩) => note_any w1 B g ⟨S.ps.set n ⟨S.ps[n].act, false, S.ps[n].cnt⟩, S.evs⟩ n ⟨tick, (n : Int), 2⟩ hM (by simpa using hn) rfl (by simpa using h8) (by simpa [List.getD_eq_getElem?_getD, hn, HP.out] using hc)
      rw [note_eq S.ps n S.ps[n].act false S.ps[n].cnt hn] at NA
      have HNA := Lib.hid NA
      have hse := HSE.out
      rw [if_pos ⟨rfl, HP.out ▸ ha⟩] at hse
      have HSE2 := Lib.hid hse
      clear ha
      clear NA hse hs
      unfold stC at *
      go_enter Try.func31, Try.ntmps31
      go_wp2_with fail
      obtain ⟨M1, C1⟩ := HFL.out false
      have M2 : MonAt _ B g _ := ⟨_, _, _, _, _, _, M1⟩
      refine (HNA.out _ M2).mono ?_
      rintro r w2 ⟨rfl, M3, C3⟩
      have C4 : Chg w w2 B := ((C0h.out.mono (fun _ _ h => h.elim)).trans C1).trans C3
      have hsz := ((C0h.out.mono (Q := B) (fun _ _ h => h.elim)).trans C1).size
      go_wp2_with fail
      go_ret
      rw [HSE2.out]
      exact ⟨rfl, M3.mono (fun k hk => by rcases hk with hk | hk; exact .inl hk; exact .inr (Nat.le_trans hsz hk)), C4⟩
    · have da : (p.act == 1) = false := beq_eq_false_iff_ne.2 ha
      cases hy : p.stays with
      | false =>
        rw [hy] at c1
        have NA := fun (w1 : World) (hM : MonAt w1 B g ⟨S.ps.set n ⟨S.ps[n].act, true, S.ps[n].cnt⟩, S.evs⟩) => note_any w1 B g ⟨S.ps.set n ⟨S.ps[n].act, true, S.ps[n].cnt⟩, S.evs⟩ n ⟨tick, (n : Int), 1⟩ hM (by simpa using hn) rfl (by simpa using h8) (by simpa [List.getD_eq_getElem?_getD, hn, HP.out] using hc)
        rw [note_eq S.ps n S.ps[n].act true S.ps[n].cnt hn] at NA
        have HNA := Lib.hid NA
        have hse := HSE.out
        rw [if_neg (by rw [HP.out]; exact fun h => ha h.2), if_pos (by rw [HP.out]; exact hy)] at hse
        have HSE2 := Lib.hid hse
        clear ha hy
        clear NA hse hs
        unfold stC at *
        go_enter Try.func31, Try.ntmps31
        go_wp2_with fail
        obtain ⟨M1, C1⟩ := HFL.out true
        have M2 : MonAt _ B g _ := ⟨_, _, _, _, _, _, M1⟩
        refine (HNA.out _ M2).mono ?_
        rintro r w2 ⟨rfl, M3, C3⟩
        have C4 : Chg w w2 B := ((C0h.out.mono (fun _ _ h => h.elim)).trans C1).trans C3
        have hsz := ((C0h.out.mono (Q := B) (fun _ _ h => h.elim)).trans C1).size
        go_wp2_with fail
        go_ret
        rw [HSE2.out]
        exact ⟨rfl, M3.mono (fun k hk => by rcases hk with hk | hk; exact .inl hk; exact .inr (Nat.le_trans hsz hk)), C4⟩
      | true =>
        rw [hy] at c1
        have hse := HSE.out
        rw [if_neg (by rw [HP.out]; exact fun h => ha h.2), if_neg (by rw [HP.out, hy]; exact Bool.noConfusion)] at hse
        have HSE2 := Lib.hid hse
        have HOLD := Lib.hid HH.out
        clear ha hy
        clear hse hs
        unfold stC at *
        go_enter Try.func31, Try.ntmps31
        go_wp2_with fail
        go_ret
        rw [HSE2.out]
        exact ⟨rfl, MonAt.mono (B := B) ⟨_, _, _, _, _, _, HOLD.out⟩ (fun _ h => .inl h), C0h.out.mono (fun _ _ h => h.elim)⟩
  | true =>
    cases hy : p.stays with
    | false =>
      rw [hy] at c1
      have NA := fun (w1 : World) (hM : MonAt w1 B g ⟨S.ps.set n ⟨S.ps[n].act, true, S.ps[n].cnt⟩, S.evs⟩) => note_any w1 B g ⟨S.ps.set n ⟨S.ps[n].act, true, S.ps[n].cnt⟩, S.evs⟩ n ⟨tick, (n : Int), 1⟩ hM (by simpa using hn) rfl (by simpa using h8) (by simpa [List.getD_eq_getElem?_getD, hn, HP.out] using hc)
      rw [note_eq S.ps n S.ps[n].act true S.ps[n].cnt hn] at NA
      have HNA := Lib.hid NA
      have hse := HSE.out
      rw [if_neg (fun h => by cases h.1), if_pos (by rw [HP.out]; exact hy)] at hse
      have HSE2 := Lib.hid hse
      clear hy
      clear NA hse hs
      unfold stC at *
      go_enter Try.func31, Try.ntmps31
      go_wp2_with fail
      obtain ⟨M1, C1⟩ := HFL.out true
      have M2 : MonAt _ B g _ := ⟨_, _, _, _, _, _, M1⟩
      refine (HNA.out _ M2).mono ?_
      rintro r w2 ⟨rfl, M3, C3⟩
      have C4 : Chg w w2 B := ((C0h.out.mono (fun _ _ h => h.elim)).trans C1).trans C3
      have hsz := ((C0h.out.mono (Q := B) (fun _ _ h => h.elim)).trans C1).size
      go_wp2_with fail
      go_ret
      rw [HSE2.out]
      exact ⟨rfl, M3.mono (fun k hk => by rcases hk with hk | hk; exact .inl hk; exact .inr (Nat.le_trans hsz hk)), C4⟩
    | true =>
      rw [hy] at c1
      have hse := HSE.out
      rw [if_neg (fun h => by cases h.1), if_neg (by rw [HP.out, hy]; exact Bool.noConfusion)] at hse
      have HSE2 := Lib.hid hse
      have HOLD := Lib.hid HH.out
      clear hy
      clear hse hs
      unfold stC at *
      go_enter Try.func31, Try.ntmps31
      go_wp2_with fail
      go_ret
      rw [HSE2.out]
      exact ⟨rfl, MonAt.mono (B := B) ⟨_, _, _, _, _, _, HOLD.out⟩ (fun _ h => .inl h), C0h.out.mono (fun _ _ h => h.elim)⟩

/-- A look, whatever it is. -/
theorem see_any (w : World) (B : Nat → Prop) (g : Nat) (S : HS) (tick n : Int) (halt stuck : Bool) (k : Nat) (h : MonAt w B g S) (hk : HOk S k) (hb : k ≤ 1000000) :
    Calls Try.prog 31 #[.pointer (some ⟨g, 0, none⟩), .int .i64 tick, .int .i64 n, stV halt stuck] w fun r w' => r = .returned (.int .i64 (seeS S tick n halt stuck).2) ∧ MonAt w' (fun k => B k ∨ w.heap.size ≤ k) g (seeS S tick n halt stuck).1 ∧ Chg w w' B := by
  by_cases ho : n < 0 ∨ (S.ps.length : Int) ≤ n ∨ (halt = false ∧ stuck = false)
  · refine (see_out w B g S tick n halt stuck h ho).mono ?_
    rintro r w' ⟨rfl, C⟩
    have : seeS S tick n halt stuck = (S, 0) := by unfold seeS; rw [if_pos ho]
    rw [this]
    exact ⟨rfl, (h.keep C).mono (fun _ h => .inl h), C.mono (fun _ _ h => h.elim)⟩
  · rw [not_or, not_or] at ho
    obtain ⟨m, rfl⟩ : ∃ m : Nat, n = m := ⟨n.toNat, by omega⟩
    have hm : m < S.ps.length := by omega
    have hc := hk.cnt (S.ps.getD m default) (by rw [List.getD_eq_getElem?_getD, List.getElem?_eq_getElem hm]; exact List.getElem_mem hm)
    exact see_in w B g S tick m halt stuck h hm ho.2.2 hk.n8 (by omega)

/-- How many events there were of a partition. -/
def cntS (S : HS) (n : Int) : Int := if n < 0 ∨ (S.ps.length : Int) ≤ n then 0 else (S.ps.getD n.toNat default).cnt
set_option maxRecDepth 100000 in
set_option maxHeartbeats 1600000 in
theorem count_any (w : World) (B : Nat → Prop) (g : Nat) (S : HS) (n : Int) (h : MonAt w B g S) :
    Calls Try.prog 34 #[.pointer (some ⟨g, 0, none⟩), .int .i64 n] w fun r w' => r = .returned (.int .i64 (cntS S n)) ∧ w = w' := by
  obtain ⟨ap, ar, cp, cr, first, ring, H⟩ := h
  have g0 := H.box.cell 0
  by_cases h1 : n < 0
  · have d1 : decide (n < 0) = true := decide_eq_true h1
    have HC := Lib.hid (show cntS S n = 0 by unfold cntS; rw [if_pos (.inl h1)])
    clear h1
    go_enter Try.func34, Try.ntmps34
    go_wp2_with fail
    go_ret
    exact ⟨by rw [HC.out]; rfl, rfl⟩
  have d1 : decide (n < 0) = false := decide_eq_false h1
  by_cases h2 : (S.ps.length : Int) ≤ n
  · have d2 : decide ((S.ps.length : Int) ≤ n) = true := decide_eq_true h2
    have HC := Lib.hid (show cntS S n = 0 by unfold cntS; rw [if_pos (.inr h2)])
    clear h1 h2
    go_enter Try.func34, Try.ntmps34
    go_wp2_with fail
    go_ret
    exact ⟨by rw [HC.out]; rfl, rfl⟩
  obtain ⟨m, rfl⟩ : ∃ m : Nat, n = m := ⟨n.toNat, by omega⟩
  have d2 : decide ((S.ps.length : Int) ≤ (m : Int)) = false := decide_eq_false h2
  have hm : m < S.ps.length := by omega
  obtain ⟨gp, cp', hv, _, hgp, _, _⟩ := own_block H.parts (by omega)
  injection hv with e1 e2 e3
  subst e1 e3
  have c2 : w.cell? ⟨gp, m * 3 + 2, none⟩ = some (.int .i64 S.ps[m].cnt) := own_cell3 ph_len H.parts m 2 (by decide) hm rfl
  have HC := Lib.hid (show cntS S m = S.ps[m].cnt by unfold cntS; rw [if_neg (by omega), Int.toNat_natCast, List.getD_eq_getElem?_getD, List.getElem?_eq_getElem hm]; rfl)
  have n0 : (0 : Int) ≤ (m : Int) := by omega
  have n1 : (m : Int) < (S.ps.length : Int) := by omega
  generalize S.ps[m].cnt = cc at *
  clear h1 h2
  go_enter Try.func34, Try.ntmps34
  go_wp2_with fail
  go_ret
  exact ⟨by rw [HC.out]; rfl, rfl⟩
end Go.Proofs.Ytdhkbephofnfdaa

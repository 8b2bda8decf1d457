/- config: host, channels, windows. -/
import Derived.Test.YtiedfglkjkaefaaCfgAt
namespace Go.Proofs.Ytiedfglkjkaefaa
open Go.RowKit

set_option maxHeartbeats 400000 in
theorem host_any {C : Cfg} {ap ac aw : Option Addr} {cp cc cw : Nat} (w : World) :
    Calls Try.prog 46 #[.agg (cfgCells C ap ac aw cp cc cw)] w fun e w' => e = .returned (.int .i64 (fineV (wi C.pages 5 256) 11)) ∧ Chg w w' (fun _ => False) := by
  unfold cfgCells
  go_enter Try.func46, Try.ntmps46
  go_wp2_with (first
    | (go_at_call 54; refine (within_any _ _ _ _).mono ?_; rintro e w' ⟨rfl, rfl⟩)
    | (go_at_call 53; refine (fine_any _ _ _).mono ?_; rintro e w' ⟨rfl, rfl⟩))
  go_ret
  exact ⟨rfl, (Chg.refl _ _).alloc _⟩

/-- May a channel be, of so many partitions? -/
def chOk (np : Int) (x : ChanD) : Bool :=
  wi x.kind 0 1 && (wi x.src 0 (np - 1) && (wi x.dst 0 (np - 1) && ((x.src != x.dst) && (wi x.size 1 64 && (wi x.depth 1 16 && (x.kind == 1 || x.depth == 1))))))
def chansOk (C : Cfg) : Bool := decide (C.chans.length ≤ 16) && C.chans.all (chOk C.parts.length)

theorem allk_succ {α : Type} (l : List α) (f : α → Bool) (k : Nat) (hk : k < l.length) : (l.take (k + 1)).all f = ((l.take k).all f && f l[k]) := by
  rw [List.take_succ_eq_append_getElem hk, List.all_append]
  simp

set_option maxHeartbeats 1000000 in
theorem channels_any {C : Cfg} {ap ac aw : Option Addr} {cp cc cw : Nat} (w : World) (h : CfgAt w C ap ac aw cp cc cw) :
    Calls Try.prog 49 #[.agg (cfgCells C ap ac aw cp cc cw)] w fun e w' => e = .returned (.int .i64 (fineV (chansOk C) 13)) ∧ Chg w w' (fun _ => False) := by
  have hm1 := h.cs.mx
  have hm2 := h.cs.le
  have hm3 := h.ps.mx
  have hm4 := h.ps.le
  unfold maxLen at hm1 hm3
  obtain ⟨b0, hb0⟩ : ∃ b0, decide ((C.chans.length : Int) ≤ 16) = b0 := ⟨_, rfl⟩
  have HB : Hid (decide (C.chans.length ≤ 16) = b0) := by show _ = _; rw [← hb0]; simp; omega
  unfold cfgCells
  go_enter Try.func49, Try.ntmps49
  go_wp2
  clear hb0
  go_loopw [3, 21] (fun v i wr => ∃ (k : Nat) (ok : Bool), k ≤ C.chans.length ∧ i = .int .i64 k ∧ v = .bool ok ∧ Hid (ok = (b0 && (C.chans.take k).all (chOk C.parts.length))) ∧ Chg w wr (fun _ => False)) (fun _ i _ => C.chans.length - (intOf i).toNat)
  case atStart => exact ⟨0, _, by omega, rfl, rfl, by show _ = _; simp, (Chg.refl _ _).alloc _⟩
  case round =>
    obtain ⟨k, ok, hk, rfl, rfl, HO, Ck⟩ := hrel
    by_cases hlt : k < C.chans.length
    · obtain ⟨b, o, rfl⟩ := h.cs.pos (by omega)
      have hkk := h.keep Ck
      have c0 := Lst.cell0 (n := 5) (fun _ => rfl) hkk.cs k (by decide) hlt rfl
      have c1 := Lst.cell (n := 5) (fun _ => rfl) hkk.cs k 1 (by decide) hlt rfl
      have c2 := Lst.cell (n := 5) (fun _ => rfl) hkk.cs k 2 (by decide) hlt rfl
      have c3 := Lst.cell (n := 5) (fun _ => rfl) hkk.cs k 3 (by decide) hlt rfl
      have c4 := Lst.cell (n := 5) (fun _ => rfl) hkk.cs k 4 (by decide) hlt rfl
      have HT := Lib.hid (allk_succ C.chans (chOk C.parts.length) k hlt)
      obtain ⟨x, hx⟩ : ∃ x, C.chans[k] = x := ⟨_, rfl⟩
      rw [hx] at c0 c1 c2 c3 c4 HT
      clear hkk hx
      cases ok
      · go_wp2_with (go_at_call 54; refine (within_any _ _ _ _).mono ?_; rintro e w' ⟨rfl, rfl⟩)
        go_roundw
        case rel => exact ⟨k + 1, _, by omega, by go_num, rfl, by show _ = _; rw [HT.out, ← Bool.and_assoc, ← HO.out]; rfl, Ck.alloc _⟩
        case measure => simp [intOf]; omega
      · go_wp2_with (go_at_call 54; refine (within_any _ _ _ _).mono ?_; rintro e w' ⟨rfl, rfl⟩)
        all_goals
          go_roundw
          case rel => exact ⟨k + 1, _, by omega, by go_num, rfl, by show _ = _; rw [HT.out, ← Bool.and_assoc, ← HO.out]; first | (simp [chOk, *]; done) | (simp [chOk, *]; decide), Ck.alloc _⟩
          case measure => simp [intOf]; omega
    · have h1 : k = C.chans.length := by omega
      subst h1
      go_wp2_with (go_at_call 53; refine (fine_any _ _ _).mono ?_; rintro e w' ⟨rfl, rfl⟩)
      go_ret
      refine ⟨ret_int ?_, Ck⟩
      have := HO.out
      rw [List.take_length, ← HB.out] at this
      unfold chansOk
      rw [← this]

/-- May a window be, behind an end? -/
def winOk (C : Cfg) (e : Int) (x : WinD) : Bool := wi x.start e C.major && (decide (C.switch < x.len) && (decide (x.len ≤ C.major - x.start) && wi x.part 0 (C.parts.length - 1)))
def winsGo (C : Cfg) : List WinD → Int → Bool
  | [], _ => true
  | x :: r, e => winOk C e x && winsGo C r (x.start + x.len)
def winBase (C : Cfg) : Bool := wi C.major 1 100000 && (wi C.switch 0 1000 && wi C.wins.length 1 32)
def winsOk (C : Cfg) : Bool := winBase C && winsGo C C.wins 0

theorem drop_cons {α : Type} (l : List α) (k : Nat) (h : k < l.length) : l.drop k = l[k] :: l.drop (k + 1) := List.drop_eq_getElem_cons h

theorem winOk_end {C : Cfg} {e : Int} {x : WinD} (h : winOk C e x = true) : e ≤ x.start ∧ x.start ≤ C.major ∧ C.switch < x.len ∧ x.len ≤ C.major - x.start := by
  unfold winOk at h
  simp only [Bool.and_eq_true, decide_eq_true_eq] at h
  obtain ⟨h1, h2, h3, h4⟩ := h
  have := wi_true h1
  omega

set_option maxHeartbeats 1000000 in
theorem windows_bad {C : Cfg} {ap ac aw : Option Addr} {cp cc cw : Nat} (w : World) (h : CfgAt w C ap ac aw cp cc cw) (hb : winBase C = false) :
    Calls Try.prog 50 #[.agg (cfgCells C ap ac aw cp cc cw)] w fun e w' => e = .returned (.int .i64 12) ∧ Chg w w' (fun _ => False) := by
  have hm1 := h.ws.mx
  have hm2 := h.ws.le
  unfold maxLen at hm1
  unfold winBase at hb
  have HC := Lib.hid hb
  clear hb
  unfold cfgCells
  cases e1 : wi C.major 1 100000
  all_goals cases e2 : wi C.switch 0 1000
  all_goals cases e3 : wi C.wins.length 1 32
  all_goals try (have hno := HC.out; rw [e1, e2, e3] at hno; exact absurd hno (by decide))
  all_goals
    go_enter Try.func50, Try.ntmps50
    go_wp2_with (go_at_call 54; refine (within_any _ _ _ _).mono ?_; rintro e w' ⟨rfl, rfl⟩)
    go_loopw [4, 27] (fun v i wr => v = .bool false ∧ i = .int .i64 0 ∧ Chg w wr (fun _ => False)) (fun _ i _ => 0)
    case atStart => exact ⟨rfl, rfl, ((Chg.refl _ _).alloc _).alloc _⟩
    case round =>
      obtain ⟨rfl, rfl, Ck⟩ := hrel
      by_cases hlt : 0 < C.wins.length
      · obtain ⟨b, o, rfl⟩ := h.ws.pos (by omega)
        have hkk := h.keep Ck
        have c0 := Lst.cell0 (n := 3) (fun _ => rfl) hkk.ws 0 (by decide) hlt rfl
        have c1 := Lst.cell (n := 3) (fun _ => rfl) hkk.ws 0 1 (by decide) hlt rfl
        have c2 := Lst.cell (n := 3) (fun _ => rfl) hkk.ws 0 2 (by decide) hlt rfl
        simp only [Nat.zero_mul, Nat.add_zero] at c0 c1 c2
        go_wp2_with (go_at_call 54; refine (within_any _ _ _ _).mono ?_; rintro e w' ⟨rfl, rfl⟩)
        go_ret
        exact ⟨rfl, Ck.alloc _⟩
      · go_wp2_with (go_at_call 53; refine (fine_any _ _ _).mono ?_; rintro e w' ⟨rfl, rfl⟩)
        go_ret
        exact ⟨rfl, Ck⟩

set_option maxHeartbeats 1000000 in
theorem windows_good {C : Cfg} {ap ac aw : Option Addr} {cp cc cw : Nat} (w : World) (h : CfgAt w C ap ac aw cp cc cw) (hb : winBase C = true) :
    Calls Try.prog 50 #[.agg (cfgCells C ap ac aw cp cc cw)] w fun e w' => e = .returned (.int .i64 (fineV (winsGo C C.wins 0) 12)) ∧ Chg w w' (fun _ => False) := by
  have hm1 := h.ws.mx
  have hm2 := h.ws.le
  have hm3 := h.ps.mx
  have hm4 := h.ps.le
  unfold maxLen at hm1 hm3
  unfold winBase at hb
  simp only [Bool.and_eq_true] at hb
  obtain ⟨e1, e2, e3⟩ := hb
  have b1 := wi_true e1
  have b2 := wi_true e2
  have b3 := wi_true e3
  unfold cfgCells
  go_enter Try.func50, Try.ntmps50
  go_wp2_with (go_at_call 54; refine (within_any _ _ _ _).mono ?_; rintro e w' ⟨rfl, rfl⟩)
  clear e1 e2 e3
  go_loopw [4, 5, 27] (fun v e i wr => ∃ (k : Nat) (en : Int), k ≤ C.wins.length ∧ i = .int .i64 k ∧ v = .bool true ∧ e = .int .i64 en ∧ 0 ≤ en ∧ en ≤ 100000 ∧ Hid (winsGo C C.wins 0 = winsGo C (C.wins.drop k) en) ∧ Chg w wr (fun _ => False) ∧ Box wr (w.heap.size + 1) 32 (cfgCells C ap ac aw cp cc cw)) (fun _ _ i _ => C.wins.length - (intOf i).toNat)
  case atStart => exact ⟨0, 0, by omega, rfl, rfl, rfl, by omega, by omega, rfl, ((Chg.refl _ _).alloc _).alloc _, by
    have := Box.new (w.alloc (.cells (cfgCells C ap ac aw cp cc cw) 105)) 32 (cfgCells C ap ac aw cp cc cw)
    rw [show (w.alloc (.cells (cfgCells C ap ac aw cp cc cw) 105)).heap.size = w.heap.size + 1 from by simp] at this
    exact this⟩
  case round =>
    obtain ⟨k, en, hk, rfl, rfl, rfl, hen1, hen2, HG, Ck, Bk⟩ := hrel
    have g1 : wr.cell? ⟨w.heap.size + 1, 1, none⟩ = some (.int .i64 C.major) := Bk.cell 1
    have g2 : wr.cell? ⟨w.heap.size + 1, 2, none⟩ = some (.int .i64 C.switch) := Bk.cell 2
    have g3 : wr.cell? ⟨w.heap.size + 1, 3, none⟩ = some (.slice ap C.parts.length cp) := Bk.cell 3
    have hzz := Bk.lt
    by_cases hlt : k < C.wins.length
    · obtain ⟨b, o, rfl⟩ := h.ws.pos (by omega)
      have hkk := h.keep Ck
      have c0 := Lst.cell0 (n := 3) (fun _ => rfl) hkk.ws k (by decide) hlt rfl
      have c1 := Lst.cell (n := 3) (fun _ => rfl) hkk.ws k 1 (by decide) hlt rfl
      have c2 := Lst.cell (n := 3) (fun _ => rfl) hkk.ws k 2 (by decide) hlt rfl
      have hdr := drop_cons C.wins k hlt
      obtain ⟨x, hx⟩ : ∃ x, C.wins[k] = x := ⟨_, rfl⟩
      rw [hx] at c0 c1 c2 hdr
      have HG2 : Hid (winsGo C C.wins 0 = (winOk C en x && winsGo C (C.wins.drop (k + 1)) (x.start + x.len))) := by
        have := HG.out
        rw [hdr] at this
        exact this
      clear hkk hx hdr HG
      cases f1 : wi x.start en C.major
      · have HR : Hid (fineV (winsGo C C.wins 0) 12 = 12) := by show _ = _; rw [HG2.out]; unfold winOk; rw [f1]; rfl
        go_wp2_with (go_at_call 54; refine (within_any _ _ _ _).mono ?_; rintro e w' ⟨rfl, rfl⟩)
        go_ret
        exact ⟨ret_int HR.out.symm, Ck.alloc _⟩
      have b4 := wi_true f1
      by_cases f2 : C.switch < x.len
      · by_cases f3 : x.len ≤ C.major - x.start
        · cases f4 : wi x.part 0 (C.parts.length - 1)
          · have HR : Hid (fineV (winsGo C C.wins 0) 12 = 12) := by show _ = _; rw [HG2.out]; unfold winOk; rw [f4]; simp [fineV]
            go_wp2_with (go_at_call 54; refine (within_any _ _ _ _).mono ?_; rintro e w' ⟨rfl, rfl⟩)
            go_ret
            exact ⟨ret_int HR.out.symm, Ck.alloc _⟩
          · have HR : Hid (winsGo C C.wins 0 = winsGo C (C.wins.drop (k + 1)) (x.start + x.len)) := by
              show _ = _
              rw [HG2.out]
              unfold winOk
              rw [f1, f4, decide_eq_true f2, decide_eq_true f3]
              rfl
            go_wp2_with (go_at_call 54; refine (within_any _ _ _ _).mono ?_; rintro e w' ⟨rfl, rfl⟩)
            go_roundw
            case rel => exact ⟨k + 1, x.start + x.len, by omega, by go_num, rfl, rfl, by omega, by omega, HR, Ck.alloc _, Bk.alloc _⟩
            case measure => simp [intOf]; omega
        · have HR : Hid (fineV (winsGo C C.wins 0) 12 = 12) := by show _ = _; rw [HG2.out]; unfold winOk; rw [decide_eq_false f3]; simp [fineV]
          go_wp2_with (go_at_call 54; refine (within_any _ _ _ _).mono ?_; rintro e w' ⟨rfl, rfl⟩)
          go_ret
          exact ⟨ret_int HR.out.symm, Ck.alloc _⟩
      · have HR : Hid (fineV (winsGo C C.wins 0) 12 = 12) := by show _ = _; rw [HG2.out]; unfold winOk; rw [decide_eq_false f2]; simp [fineV]
        have f2' : decide (C.switch < x.len) = false := decide_eq_false f2
        go_wp2_with (go_at_call 54; refine (within_any _ _ _ _).mono ?_; rintro e w' ⟨rfl, rfl⟩)
        go_ret
        exact ⟨ret_int HR.out.symm, Ck.alloc _⟩
    · have h1 : k = C.wins.length := by omega
      have HR : Hid (winsGo C C.wins 0 = true) := by show _ = _; rw [HG.out, h1, List.drop_length]; rfl
      subst h1
      go_wp2_with (go_at_call 53; refine (fine_any _ _ _).mono ?_; rintro e w' ⟨rfl, rfl⟩)
      go_ret
      exact ⟨ret_int (by rw [HR.out]), Ck⟩

theorem windows_any {C : Cfg} {ap ac aw : Option Addr} {cp cc cw : Nat} (w : World) (h : CfgAt w C ap ac aw cp cc cw) :
    Calls Try.prog 50 #[.agg (cfgCells C ap ac aw cp cc cw)] w fun e w' => e = .returned (.int .i64 (fineV (winsOk C) 12)) ∧ Chg w w' (fun _ => False) := by
  unfold winsOk
  cases hb : winBase C
  · exact windows_bad w h hb
  · exact windows_good w h hb

end Go.Proofs.Ytiedfglkjkaefaa

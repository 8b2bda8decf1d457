/- A configuration in memory. -/
import Derived.Test.YtiedfglkjkaefaaCfg
import Derived.Test.YtiedfglkjkaefaaLst
namespace Go.Proofs.Ytiedfglkjkaefaa
open Go.RowKit

def partCells (p : PartD) : List Value := [.string p.name, .int .i64 p.pages, .int .i64 p.action]
def chanCells (x : ChanD) : List Value := [.int .i64 x.kind, .int .i64 x.src, .int .i64 x.dst, .int .i64 x.size, .int .i64 x.depth]
def winCells (x : WinD) : List Value := [.int .i64 x.start, .int .i64 x.len, .int .i64 x.part]

structure CfgAt (w : World) (C : Cfg) (ap ac aw : Option Addr) (cp cc cw : Nat) : Prop where
  ps : Lst w ap C.parts.length cp (C.parts.flatMap partCells) 3
  cs : Lst w ac C.chans.length cc (C.chans.flatMap chanCells) 5
  ws : Lst w aw C.wins.length cw (C.wins.flatMap winCells) 3
  names : ∀ p ∈ C.parts, p.name.size ≤ maxLen

def cfgCells (C : Cfg) (ap ac aw : Option Addr) (cp cc cw : Nat) : Array Value :=
  #[.int .i64 C.pages, .int .i64 C.major, .int .i64 C.switch, .slice ap C.parts.length cp, .slice ac C.chans.length cc, .slice aw C.wins.length cw]

theorem CfgAt.keep {w w' : World} {C : Cfg} {ap ac aw : Option Addr} {cp cc cw : Nat} (h : CfgAt w C ap ac aw cp cc cw) (c : Chg w w' (fun _ => False)) : CfgAt w' C ap ac aw cp cc cw :=
  ⟨h.ps.chg c (fun _ _ h => h), h.cs.chg c (fun _ _ h => h), h.ws.chg c (fun _ _ h => h), h.names⟩

theorem wi_true {n lo hi : Int} (h : wi n lo hi = true) : lo ≤ n ∧ n ≤ hi := of_decide_eq_true h
theorem wi_false {n lo hi : Int} (h : wi n lo hi = false) : ¬ (lo ≤ n ∧ n ≤ hi) := of_decide_eq_false h

theorem all_false {α : Type} (l : List α) (f : α → Bool) (k : Nat) (hk : k < l.length) (h : f l[k] = false) : l.all f = false := by
  rw [List.all_eq_false]
  exact ⟨l[k], List.getElem_mem hk, by rw [h]; exact Bool.false_ne_true⟩
theorem all_succ {α : Type} (l : List α) (f : α → Bool) (k : Nat) (hk : k < l.length) (h : (l.take k).all f = true) (h2 : f l[k] = true) : (l.take (k + 1)).all f = true := by
  rw [List.take_succ_eq_append_getElem hk, List.all_append, h]
  simp [h2]

/-- The pages of the first k partitions. -/
def psum (l : List PartD) (k : Nat) : Int := ((l.take k).map (·.pages)).sum
theorem psum_succ (l : List PartD) (k : Nat) (hk : k < l.length) : psum l (k + 1) = psum l k + l[k].pages := by
  unfold psum
  rw [List.take_succ_eq_append_getElem hk, List.map_append, List.sum_append]
  simp
theorem psum_all (l : List PartD) : psum l l.length = (l.map (·.pages)).sum := by unfold psum; rw [List.take_length]
theorem psum_le (l : List PartD) (k : Nat) (h : (l.take k).all (fun p => wi p.pages 1 64) = true) : 0 ≤ psum l k ∧ psum l k ≤ 64 * k := by
  induction k with
  | zero => simp [psum]
  | succ k ih =>
    by_cases hk : k < l.length
    · rw [List.take_succ_eq_append_getElem hk, List.all_append, Bool.and_eq_true] at h
      have := ih h.1
      have h2 : wi l[k].pages 1 64 = true := by simpa using h.2
      have := wi_true h2
      rw [psum_succ l k hk]
      omega
    · have e : l.take (k + 1) = l.take k := by rw [List.take_of_length_le (by omega), List.take_of_length_le (by omega)]
      rw [e] at h
      have := ih h
      unfold psum at *
      rw [e]
      omega

/-- What 'memory' says. -/
def memOk (C : Cfg) : Bool := C.parts.all (fun p => wi p.pages 1 64) && decide ((C.parts.map (·.pages)).sum ≤ C.pages - 4)

set_option maxHeartbeats 400000 in
theorem memory_any {C : Cfg} {ap ac aw : Option Addr} {cp cc cw : Nat} (w : World) (h : CfgAt w C ap ac aw cp cc cw) (hp : 5 ≤ C.pages ∧ C.pages ≤ 256) (hl : C.parts.length ≤ 8) :
    Calls Try.prog 48 #[.agg (cfgCells C ap ac aw cp cc cw)] w fun e w' => e = .returned (.int .i64 (fineV (memOk C) 11)) ∧ Chg w w' (fun _ => False) := by
  unfold cfgCells
  go_enter Try.func48, Try.ntmps48
  go_wp2
  go_loopw [3, 10] (fun n i wr => ∃ k : Nat, k ≤ C.parts.length ∧ i = .int .i64 k ∧ n = .int .i64 (psum C.parts k) ∧ (C.parts.take k).all (fun p => wi p.pages 1 64) = true ∧ Chg w wr (fun _ => False) ∧ Box wr w.heap.size 105 (cfgCells C ap ac aw cp cc cw)) (fun _ i _ => C.parts.length - (intOf i).toNat)
  case atStart => exact ⟨0, by omega, rfl, rfl, rfl, (Chg.refl _ _).alloc _, Box.new _ _ _⟩
  case round =>
    obtain ⟨k, hk, rfl, rfl, hall, Ck, Bk⟩ := hrel
    have HALL := Lib.hid hall
    clear hall
    have hps := psum_le C.parts k HALL.out
    by_cases hlt : k < C.parts.length
    · obtain ⟨b, o, rfl⟩ := h.ps.pos (by omega)
      have hkk := h.keep Ck
      have c0 := Lst.cell0 (n := 3) (fun _ => rfl) hkk.ps k (by decide) hlt rfl
      have c1 := Lst.cell (n := 3) (fun _ => rfl) hkk.ps k 1 (by decide) hlt rfl
      have c2 := Lst.cell (n := 3) (fun _ => rfl) hkk.ps k 2 (by decide) hlt rfl
      have HW := within_any (C.parts[k].pages) 1 64
      cases hwi : wi C.parts[k].pages 1 64
      · have HWI := Lib.hid hwi
        rw [hwi] at HW
        clear hwi
        have HR : Hid (fineV (memOk C) 11 = 11) := by show _ = _; unfold memOk; rw [all_false C.parts _ k hlt HWI.out]; rfl
        go_wp2_with (go_at_call 54; refine (HW _).mono ?_; rintro e w' ⟨rfl, rfl⟩)
        go_ret
        exact ⟨ret_int (by rw [HR.out]), Ck.alloc _⟩
      · have HWI := Lib.hid hwi
        have hb := wi_true hwi
        rw [hwi] at HW
        clear hwi
        go_wp2_with (go_at_call 54; refine (HW _).mono ?_; rintro e w' ⟨rfl, rfl⟩)
        go_roundw
        case rel => exact ⟨k + 1, by omega, by go_num, by rw [psum_succ _ _ hlt], all_succ C.parts _ k hlt HALL.out HWI.out, Ck.alloc _, Bk.alloc _⟩
        case measure => simp [intOf]; omega
    · have h1 : k = C.parts.length := by omega
      subst h1
      have d0 : wr.cell? ⟨w.heap.size, 0, none⟩ = some (.int .i64 C.pages) := Bk.cell 0
      go_wp2_with (go_at_call 53; refine (fine_any _ _ _).mono ?_; rintro e w' ⟨rfl, rfl⟩)
      go_ret
      refine ⟨ret_int ?_, Ck⟩
      unfold memOk
      rw [psum_all] at *
      have hA := HALL.out
      rw [List.take_length] at hA
      rw [hA]
      rfl

end Go.Proofs.Ytiedfglkjkaefaa

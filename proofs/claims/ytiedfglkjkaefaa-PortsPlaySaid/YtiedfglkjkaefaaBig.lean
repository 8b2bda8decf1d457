/- trunnionlaw14.Big. -/
import Derived.Test.YtiedfglkjkaefaaCfgCheck
namespace Go.Proofs.Ytiedfglkjkaefaa
open Go.RowKit

def bigV (C : Cfg) : Bool := decide (20 < C.parts.length) || (decide (40 < C.chans.length) || (decide (60 < C.wins.length) || C.parts.any (fun p => decide (200 < p.name.size))))

set_option maxHeartbeats 1000000 in
theorem big_any {C : Cfg} {ap ac aw : Option Addr} {cp cc cw : Nat} (w : World) (h : CfgAt w C ap ac aw cp cc cw) :
    Calls Try.prog 20 #[.agg (cfgCells C ap ac aw cp cc cw)] w fun e w' => e = .returned (.bool (bigV C)) ∧ Chg w w' (fun _ => False) := by
  have hm1 := h.ps.mx
  have hm2 := h.ps.le
  have hm3 := h.cs.mx
  have hm4 := h.cs.le
  have hm5 := h.ws.mx
  have hm6 := h.ws.le
  unfold maxLen at hm1 hm3 hm5
  have HB := Box.new w 32 (cfgCells C ap ac aw cp cc cw)
  have HA := h.keep ((Chg.refl w (fun _ => False)).alloc (.cells (cfgCells C ap ac aw cp cc cw) 32))
  by_cases h1 : 20 < C.parts.length
  · have HR : Hid (bigV C = true) := by show _ = _; unfold bigV; rw [decide_eq_true h1]; rfl
    have q1 : decide (20 < (C.parts.length : Int)) = true := decide_eq_true (by omega)
    unfold cfgCells at *
    go_enter Try.func20, Try.ntmps20
    go_wp2_with fail
    go_ret
    exact ⟨ret_bool HR.out.symm, (Chg.refl _ _).alloc _⟩
  have q1 : decide (20 < (C.parts.length : Int)) = false := decide_eq_false (by omega)
  by_cases h2 : 40 < C.chans.length
  · have HR : Hid (bigV C = true) := by show _ = _; unfold bigV; rw [decide_eq_true h2]; simp
    have q2 : decide (40 < (C.chans.length : Int)) = true := decide_eq_true (by omega)
    unfold cfgCells at *
    go_enter Try.func20, Try.ntmps20
    go_wp2_with fail
    go_ret
    exact ⟨ret_bool HR.out.symm, (Chg.refl _ _).alloc _⟩
  have q2 : decide (40 < (C.chans.length : Int)) = false := decide_eq_false (by omega)
  by_cases h3 : 60 < C.wins.length
  · have HR : Hid (bigV C = true) := by show _ = _; unfold bigV; rw [decide_eq_true h3]; simp
    have q3 : decide (60 < (C.wins.length : Int)) = true := decide_eq_true (by omega)
    unfold cfgCells at *
    go_enter Try.func20, Try.ntmps20
    go_wp2_with fail
    go_ret
    exact ⟨ret_bool HR.out.symm, (Chg.refl _ _).alloc _⟩
  have q3 : decide (60 < (C.wins.length : Int)) = false := decide_eq_false (by omega)
  have HV : Hid (bigV C = C.parts.any (fun p => decide (200 < p.name.size))) := by show _ = _; unfold bigV; rw [decide_eq_false h1, decide_eq_false h2, decide_eq_false h3]; simp
  unfold cfgCells at *
  go_enter Try.func20, Try.ntmps20
  go_wp2_with fail
  clear q1 q2 q3
  go_loop [3] (fun i => ∃ k : Nat, k ≤ C.parts.length ∧ i = .int .i64 k ∧ Hid ((C.parts.take k).any (fun p => decide (200 < p.name.size)) = false)) (fun i => C.parts.length - (intOf i).toNat)
  case atStart => exact ⟨0, by omega, rfl, rfl⟩
  case round =>
    obtain ⟨k, hk, rfl, HAK⟩ := hrel
    have x3 := HB.cell 3
    by_cases hlt : k < C.parts.length
    · obtain ⟨b, o, rfl⟩ := h.ps.pos (by omega)
      have c0 := Lst.cell0 (n := 3) (fun _ => rfl) HA.ps k (by decide) hlt rfl
      have hns : C.parts[k].name.size ≤ 9223372036854775807 := h.names _ (List.getElem_mem hlt)
      have HS : Hid ((C.parts.take (k + 1)).any (fun p => decide (200 < p.name.size)) = decide (200 < C.parts[k].name.size)) := by
        show _ = _
        rw [List.take_succ_eq_append_getElem hlt, List.any_append, HAK.out]
        simp
      have HT : Hid (200 < C.parts[k].name.size → bigV C = true) := fun hb => by
        rw [HV.out, List.any_eq_true]
        exact ⟨C.parts[k], List.getElem_mem hlt, decide_eq_true hb⟩
      obtain ⟨x, hx⟩ : ∃ x, C.parts[k] = x := ⟨_, rfl⟩
      rw [hx] at c0 HS HT hns
      clear hx
      by_cases hb : 200 < x.name.size
      · have q4 : decide (200 < (x.name.size : Int)) = true := decide_eq_true (by omega)
        have HR := Lib.hid (HT.out hb)
        clear hb
        go_wp2_with fail
        go_ret
        exact ⟨ret_bool HR.out.symm, (Chg.refl _ _).alloc _⟩
      · have q4 : decide (200 < (x.name.size : Int)) = false := decide_eq_false (by omega)
        have HR : Hid ((C.parts.take (k + 1)).any (fun p => decide (200 < p.name.size)) = false) := by show _ = _; rw [HS.out]; exact decide_eq_false hb
        clear hb
        go_wp2_with fail
        go_round
        case rel => exact ⟨k + 1, by omega, by go_num, HR.out⟩
        case measure => simp [intOf]; omega
    · have h5 : k = C.parts.length := by omega
      subst h5
      have HR : Hid (bigV C = false) := by show _ = _; rw [HV.out]; have := HAK.out; rwa [List.take_length] at this
      go_wp2_with fail
      go_ret
      exact ⟨ret_bool HR.out.symm, (Chg.refl _ _).alloc _⟩
end Go.Proofs.Ytiedfglkjkaefaa

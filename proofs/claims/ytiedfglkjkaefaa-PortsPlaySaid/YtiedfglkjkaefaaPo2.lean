/- ports: find, from, count, Status, Messages. -/
import Derived.Test.YtiedfglkjkaefaaPo1
import Derived.Deep.DeepCutAuto
import Derived.Deep.LoopGhost
import Derived.BigQuiet
import Derived.Handy
namespace Go.Proofs.Ytiedfglkjkaefaa
open Go.RowKit

theorem wr_zero {port : Int} {c : Nat} (h1 : -9223372036854775808 ≤ port) (h2 : port ≤ 9223372036854775807) (hc : c ≤ 16) : wrap64 (port - c) = 0 ↔ (c : Int) = port := by
  simp only [wrap64]
  omega
theorem wr_step {port : Int} {c : Nat} : wrap64 (wrap64 (port - c) - 1) = wrap64 (port - ((c + 1 : Nat) : Int)) := by
  simp only [wrap64]
  omega
theorem wr_rng (x : Int) : -9223372036854775808 ≤ wrap64 x ∧ wrap64 x ≤ 9223372036854775807 := by
  simp only [wrap64]
  omega

set_option maxHeartbeats 1000000 in
theorem find_any {w : World} {F : Nat → Prop} {D : NetD} {Q : Que} {vs : Nat → Value} (N : NetAt w F D Q vs) (part port : Int) (h1 : -9223372036854775808 ≤ port) (h2 : port ≤ 9223372036854775807) :
    Calls Try.prog 37 #[.pointer (some ⟨D.n, 0, none⟩), .int .i64 part, .int .i64 port] w fun e w' => e = .returned (.int .i64 (portV D.l part port)) ∧ Chg w w' (fun _ => False) := by
  have hmax := N.max
  obtain ⟨L, hL⟩ : ∃ L, D.l.length = L := ⟨_, rfl⟩
  have HL := Lib.hid hL
  have q4 : w.cell? ⟨D.n, 4, none⟩ = some (.slice D.ac L D.cc) := by rw [← hL]; exact N.box.cell 4
  have HN := Lib.hid N
  have hmx : L ≤ 16 := by omega
  have H12 := Lib.hid (And.intro h1 h2)
  clear N hmax hL h1 h2
  go_enter Try.func37, Try.ntmps37
  go_wp2_with fail
  clear q4
  go_loopg [2, 15] L (fun g s2 s15 wr => ∃ k c : Nat, g + k = L ∧ s15 = .int .i64 k ∧ s2 = .int .i64 (wrap64 (port - c)) ∧ c ≤ k ∧ Hid (portV D.l part port = portGo part port (D.l.drop k) k c) ∧ Chg w wr (fun _ => False))
  case atStart => exact ⟨0, 0, rfl, rfl, by rw [IntWalk.wrap64_in _ (by have := H12.out; omega)]; exact congrArg (Value.int .i64) (by omega), Nat.le_refl _, rfl, Chg.refl _ _⟩
  case round =>
    obtain ⟨k, c, hk, rfl, rfl, hck, HG, Ck⟩ := hrel
    have HK := Lib.hid hk
    by_cases hlt : k < L
    · have hlt2 : k < D.l.length := by rw [HL.out]; exact hlt
      obtain ⟨gc, gh, ea, eh, hc1, hc2, _, _, hls, _⟩ := HN.out.cells (by omega)
      have hls := hls.chg Ck (fun _ _ h => h)
      have d0 := Lst.cell0 (n := 5) (f := chanCells) (fun _ => rfl) hls k (by decide) hlt2 rfl
      have d1 := Lst.cell (n := 5) (f := chanCells) (fun _ => rfl) hls k 1 (by decide) hlt2 rfl
      have d2 := Lst.cell (n := 5) (f := chanCells) (fun _ => rfl) hls k 2 (by decide) hlt2 rfl
      have d3 := Lst.cell (n := 5) (f := chanCells) (fun _ => rfl) hls k 3 (by decide) hlt2 rfl
      have d4 := Lst.cell (n := 5) (f := chanCells) (fun _ => rfl) hls k 4 (by decide) hlt2 rfl
      have HG2 := Lib.hid (HG.out.trans (portGo_at part port D.l k c hlt2))
      obtain ⟨x, hx⟩ : ∃ x, D.l[k] = x := ⟨_, rfl⟩
      rw [hx] at d0 d1 d2 d3 d4 HG2
      obtain ⟨x0, x1, x2, x3, x4⟩ := x
      simp only [Nat.zero_add] at d0 d1 d2 d3 d4
      obtain ⟨y, hy⟩ : ∃ y, wrap64 (port - c) = y := ⟨_, rfl⟩
      have HY : Hid (y = 0 ↔ (c : Int) = port) := by
        show _ ↔ _
        rw [← hy]; exact wr_zero H12.out.1 H12.out.2 (by omega)
      have HS : Hid (wrap64 (y - 1) = wrap64 (port - ((c + 1 : Nat) : Int))) := by
        show _ = _
        rw [← hy]; exact wr_step
      obtain ⟨hy1, hy2⟩ : -9223372036854775808 ≤ y ∧ y ≤ 9223372036854775807 := by rw [← hy]; exact wr_rng _
      clear hx hls hc2 hk HG
      rw [ea, hy]
      by_cases hit : x1 = part ∨ x2 = part
      · by_cases hz : y = 0
        · have HR : Hid (portV D.l part port = (k : Int)) := by
            show _ = _
            rw [HG2.out, if_pos hit, if_pos (HY.out.1 hz)]
          subst hz
          have hcl := HR
          by_cases e1 : x1 = part
          · have b1 : (x1 != part) = false := by simp [e1]
            clear hit hy
            go_wp2_with fail
            go_ret
            exact ⟨ret_int HR.out.symm, Ck.alloc _⟩
          · have b1 : (x1 != part) = true := by simp [e1]
            have b2 : (x2 != part) = false := by simp [hit.resolve_left e1]
            clear hit hy e1
            go_wp2_with fail
            go_ret
            exact ⟨ret_int HR.out.symm, Ck.alloc _⟩
        · have HR : Hid (portV D.l part port = portGo part port (D.l.drop (k + 1)) (k + 1) (c + 1)) := by
            show _ = _
            rw [HG2.out, if_pos hit, if_neg (fun e => hz (HY.out.2 e))]
          have hzb : (y == 0) = false := by simp [hz]
          by_cases e1 : x1 = part
          · have b1 : (x1 != part) = false := by simp [e1]
            clear hit hy hz
            go_wp2_with fail
            rw [← ea]
            go_roundg (gk - 1)
            case measure => have := HK.out; omega
            case rel => exact ⟨k + 1, c + 1, by have := HK.out; omega, by go_num, congrArg (Value.int .i64) HS.out, by omega, HR, Ck.alloc _⟩
          · have b1 : (x1 != part) = true := by simp [e1]
            have b2 : (x2 != part) = false := by simp [hit.resolve_left e1]
            clear hit hy hz e1
            go_wp2_with fail
            rw [← ea]
            go_roundg (gk - 1)
            case measure => have := HK.out; omega
            case rel => exact ⟨k + 1, c + 1, by have := HK.out; omega, by go_num, congrArg (Value.int .i64) HS.out, by omega, HR, Ck.alloc _⟩
      · have b1 : (x1 != part) = true := bne_iff_ne.2 (fun e => hit (.inl e))
        have b2 : (x2 != part) = true := bne_iff_ne.2 (fun e => hit (.inr e))
        have HR : Hid (portV D.l part port = portGo part port (D.l.drop (k + 1)) (k + 1) c) := by
          show _ = _
          rw [HG2.out, if_neg hit]
        have HYE := Lib.hid hy
        clear hit hy
        go_wp2_with fail
        rw [← ea]
        go_roundg (gk - 1)
        case measure => have := HK.out; omega
        case rel => exact ⟨k + 1, c, by have := HK.out; omega, by go_num, congrArg (Value.int .i64) HYE.out.symm, by omega, HR, Ck.alloc _⟩
    · have HR : Hid (portV D.l part port = -1) := HG.out.trans (portGo_end part port D.l k c (by rw [HL.out]; omega))
      obtain rfl : L = k := by omega
      clear hk
      go_wp2_with fail
      go_ret
      exact ⟨ret_int HR.out.symm, Ck⟩

/-- The row's cell of a channel, for the walk. -/
theorem cntS {w : World} {b : Nat} {ao : Option Addr} {m c : Nat} (B : Box w b 79 #[.slice ao m c]) (q : Nat) (hq : q = if m = 0 then 0 else 1) (hm : m ≤ 1000000) :
    Calls Try.prog 74 #[.pointer (some ⟨b, 0, none⟩)] w fun e w' => e = .returned (.int .i64 (q : Int)) ∧ w = w' := by
  have y0 := B.cell 0
  have HQ : Hid ((q : Int) = if m = 0 then 0 else 1) := by show _ = _; rw [hq]; split <;> rfl
  clear hq
  by_cases hm0 : m = 0
  · subst hm0
    go_enter Try.func74, Try.ntmps74
    go_wp2_with fail
    go_ret
    exact ⟨ret_int (by rw [HQ.out]; rfl), rfl⟩
  · have h2 : (1 : Int) ≤ (m : Int) := by omega
    go_enter Try.func74, Try.ntmps74
    go_wp2_with fail
    all_goals (go_ret; exact ⟨ret_int (by rw [HQ.out, if_neg hm0]; try omega), rfl⟩)
theorem cntQ {w : World} {b : Nat} {d : Int} {ao : Option Addr} {m c : Nat} (B : Box w b 82 #[.int .i64 d, .slice ao m c]) :
    Calls Try.prog 76 #[.pointer (some ⟨b, 0, none⟩)] w fun e w' => e = .returned (.int .i64 (m : Int)) ∧ w = w' := by
  have y1 := B.cell 1
  go_enter Try.func76, Try.ntmps76
  go_wp2_with fail
  go_ret
  exact ⟨rfl, rfl⟩
end Go.Proofs.Ytiedfglkjkaefaa

/- config.Check: the whole. -/
import Derived.Test.YtiedfglkjkaefaaCfgChk
import Derived.Test.YtiedfglkjkaefaaCfgParts
namespace Go.Proofs.Ytiedfglkjkaefaa
open Go.RowKit

/-- What Check says of a configuration: 0, or an error's number. -/
def chk (C : Cfg) : Int :=
  if wi C.pages 5 256 = false then 11 else if partsOk C = false then 10 else if memOk C = false then 11 else if chansOk C = false then 13 else if winsOk C = false then 12 else 0

/-- What is still to be asked from the k-th question on. -/
def chkK (C : Cfg) : Nat → Int
  | 0 => chk C
  | 1 => if partsOk C = false then 10 else if memOk C = false then 11 else if chansOk C = false then 13 else if winsOk C = false then 12 else 0
  | 2 => if memOk C = false then 11 else if chansOk C = false then 13 else if winsOk C = false then 12 else 0
  | 3 => if chansOk C = false then 13 else if winsOk C = false then 12 else 0
  | 4 => if winsOk C = false then 12 else 0
  | _ => 0

theorem chkK_0f {C : Cfg} (h : wi C.pages 5 256 = false) : chkK C 0 = 11 := by
  show chk C = 11
  unfold chk
  rw [if_pos h]
theorem chkK_0t {C : Cfg} (h : wi C.pages 5 256 = true) : chkK C 0 = chkK C 1 := by
  show chk C = _
  unfold chk
  rw [if_neg (by rw [h]; decide)]
  rfl
theorem chkK_1f {C : Cfg} (h : partsOk C = false) : chkK C 1 = 10 := by
  show (if _ then _ else _) = _
  rw [if_pos h]
theorem chkK_1t {C : Cfg} (h : partsOk C = true) : chkK C 1 = chkK C 2 := by
  show (if partsOk C = false then _ else _) = _
  rw [if_neg (by rw [h]; decide)]
  rfl
theorem chkK_2f {C : Cfg} (h : memOk C = false) : chkK C 2 = 11 := by
  show (if _ then _ else _) = _
  rw [if_pos h]
theorem chkK_2t {C : Cfg} (h : memOk C = true) : chkK C 2 = chkK C 3 := by
  show (if memOk C = false then _ else _) = _
  rw [if_neg (by rw [h]; decide)]
  rfl
theorem chkK_3f {C : Cfg} (h : chansOk C = false) : chkK C 3 = 13 := by
  show (if _ then _ else _) = _
  rw [if_pos h]
theorem chkK_3t {C : Cfg} (h : chansOk C = true) : chkK C 3 = chkK C 4 := by
  show (if chansOk C = false then _ else _) = _
  rw [if_neg (by rw [h]; decide)]
  rfl
theorem chkK_4f {C : Cfg} (h : winsOk C = false) : chkK C 4 = 12 := by
  show (if _ then _ else _) = _
  rw [if_pos h]
theorem chkK_4t {C : Cfg} (h : winsOk C = true) : chkK C 4 = chkK C 5 := by
  show (if winsOk C = false then _ else _) = _
  rw [if_neg (by rw [h]; decide)]
  rfl

def checkFuncs (C : Cfg) (ap ac aw : Option Addr) (cp cc cw : Nat) : Array Value := #[.func (.func 46) #[.agg #[.int .i64 C.pages, .int .i64 C.major, .int .i64 C.switch, .slice ap C.parts.length cp, .slice ac C.chans.length cc, .slice aw C.wins.length cw]] #[], .func (.func 47) #[.agg #[.int .i64 C.pages, .int .i64 C.major, .int .i64 C.switch, .slice ap C.parts.length cp, .slice ac C.chans.length cc, .slice aw C.wins.length cw]] #[], .func (.func 48) #[.agg #[.int .i64 C.pages, .int .i64 C.major, .int .i64 C.switch, .slice ap C.parts.length cp, .slice ac C.chans.length cc, .slice aw C.wins.length cw]] #[], .func (.func 49) #[.agg #[.int .i64 C.pages, .int .i64 C.major, .int .i64 C.switch, .slice ap C.parts.length cp, .slice ac C.chans.length cc, .slice aw C.wins.length cw]] #[], .func (.func 50) #[.agg #[.int .i64 C.pages, .int .i64 C.major, .int .i64 C.switch, .slice ap C.parts.length cp, .slice ac C.chans.length cc, .slice aw C.wins.length cw]] #[]]

theorem box_third (w : World) (o1 o2 : Obj) (t : TypeId) (cs : Array Value) : Box (((w.alloc o1).alloc o2).alloc (.cells cs t)) (w.heap.size + 1 + 1) t cs := by
  have := Box.new ((w.alloc o1).alloc o2) t cs
  rw [show ((w.alloc o1).alloc o2).heap.size = w.heap.size + 1 + 1 from by simp] at this
  exact this
theorem chk_bounds {C : Cfg} (h1 : partsOk C = true) : C.parts.length ≤ 8 := by
  unfold partsOk at h1
  simp only [Bool.and_eq_true] at h1
  have := wi_true h1.1
  omega

set_option maxHeartbeats 1000000 in
theorem check_any {C : Cfg} {ap ac aw : Option Addr} {cp cc cw : Nat} (w : World) (h : CfgAt w C ap ac aw cp cc cw) :
    Calls Try.prog 30 #[.agg (cfgCells C ap ac aw cp cc cw)] w fun e w' => e = .returned (.int .i64 (chk C)) ∧ Chg w w' (fun _ => False) := by
  unfold cfgCells
  go_enter Try.func30, Try.ntmps30
  go_wp2_with fail
  go_loopw [21] (fun i wr => ∃ k : Nat, k ≤ 5 ∧ i = .int .i64 k ∧ Hid (chk C = chkK C k) ∧ Hid (1 ≤ k → wi C.pages 5 256 = true) ∧ Hid (2 ≤ k → partsOk C = true) ∧ Chg w wr (fun _ => False) ∧ Box wr (w.heap.size + 1 + 1) 106 (checkFuncs C ap ac aw cp cc cw)) (fun i _ => 5 - (intOf i).toNat)
  case atStart => exact ⟨0, by omega, rfl, rfl, fun h => absurd h (by decide), fun h => absurd h (by decide), (((Chg.refl _ _).alloc _).alloc _).alloc _, box_third w _ _ _ _⟩
  case round =>
    obtain ⟨k, hk, rfl, HK, H1, H2, Ck, Bk⟩ := hrel
    have hkk := h.keep Ck
    have hk' : k = 0 ∨ k = 1 ∨ k = 2 ∨ k = 3 ∨ k = 4 ∨ k = 5 := by omega
    clear hk
    rcases hk' with rfl | rfl | rfl | rfl | rfl | rfl
    · have d0 : wr.cell? ⟨w.heap.size + 1 + 1, 0, none⟩ = some (.func (.func 46) #[.agg #[.int .i64 C.pages, .int .i64 C.major, .int .i64 C.switch, .slice ap C.parts.length cp, .slice ac C.chans.length cc, .slice aw C.wins.length cw]] #[]) := Bk.cell 0
      have HC : Calls Try.prog 46 #[.agg #[.int .i64 C.pages, .int .i64 C.major, .int .i64 C.switch, .slice ap C.parts.length cp, .slice ac C.chans.length cc, .slice aw C.wins.length cw]] wr fun e w' => e = .returned (.int .i64 (fineV (wi C.pages 5 256) 11)) ∧ Chg wr w' (fun _ => False) := host_any (C := C) (ap := ap) (ac := ac) (aw := aw) (cp := cp) (cc := cc) (cw := cw) wr
      cases hv : wi C.pages 5 256
      · rw [hv] at HC
        have HR : Hid (chk C = 11) := HK.out.trans (chkK_0f hv)
        clear hv
        go_wp2_with (go_at_call 46; refine HC.mono ?_; rintro e w2 ⟨rfl, C2⟩; simp only [fineV, Bool.false_eq_true, if_false])
        go_ret
        exact ⟨ret_int HR.out.symm, Ck.trans C2⟩
      · rw [hv] at HC
        have HR : Hid (chk C = chkK C 1) := HK.out.trans (chkK_0t hv)
        have HV := Lib.hid hv
        clear hv
        go_wp2_with (go_at_call 46; refine HC.mono ?_; rintro e w2 ⟨rfl, C2⟩; simp only [fineV, if_true])
        go_roundw
        case rel => exact ⟨1, by omega, rfl, HR, fun _ => trivial, fun h => absurd h (by decide), Ck.trans C2, Bk.chg C2 (fun h => h)⟩
        case measure => simp [intOf]
    · have d0 : wr.cell? ⟨w.heap.size + 1 + 1, 1, none⟩ = some (.func (.func 47) #[.agg #[.int .i64 C.pages, .int .i64 C.major, .int .i64 C.switch, .slice ap C.parts.length cp, .slice ac C.chans.length cc, .slice aw C.wins.length cw]] #[]) := Bk.cell 1
      have HC : Calls Try.prog 47 #[.agg #[.int .i64 C.pages, .int .i64 C.major, .int .i64 C.switch, .slice ap C.parts.length cp, .slice ac C.chans.length cc, .slice aw C.wins.length cw]] wr fun e w' => e = .returned (.int .i64 (fineV (partsOk C) 10)) ∧ Chg wr w' (fun _ => False) := parts_any _ hkk
      cases hv : partsOk C
      · rw [hv] at HC
        have HR : Hid (chk C = 10) := HK.out.trans (chkK_1f hv)
        clear hv
        go_wp2_with (go_at_call 47; refine HC.mono ?_; rintro e w2 ⟨rfl, C2⟩; simp only [fineV, Bool.false_eq_true, if_false])
        go_ret
        exact ⟨ret_int HR.out.symm, Ck.trans C2⟩
      · rw [hv] at HC
        have HR : Hid (chk C = chkK C 2) := HK.out.trans (chkK_1t hv)
        have HV := Lib.hid hv
        clear hv
        go_wp2_with (go_at_call 47; refine HC.mono ?_; rintro e w2 ⟨rfl, C2⟩; simp only [fineV, if_true])
        go_roundw
        case rel => exact ⟨2, by omega, rfl, HR, fun _ => H1.out (by decide), fun _ => trivial, Ck.trans C2, Bk.chg C2 (fun h => h)⟩
        case measure => simp [intOf]
    · have d0 : wr.cell? ⟨w.heap.size + 1 + 1, 2, none⟩ = some (.func (.func 48) #[.agg #[.int .i64 C.pages, .int .i64 C.major, .int .i64 C.switch, .slice ap C.parts.length cp, .slice ac C.chans.length cc, .slice aw C.wins.length cw]] #[]) := Bk.cell 2
      have HC : Calls Try.prog 48 #[.agg #[.int .i64 C.pages, .int .i64 C.major, .int .i64 C.switch, .slice ap C.parts.length cp, .slice ac C.chans.length cc, .slice aw C.wins.length cw]] wr fun e w' => e = .returned (.int .i64 (fineV (memOk C) 11)) ∧ Chg wr w' (fun _ => False) := memory_any _ hkk (wi_true (H1.out (by decide))) (chk_bounds (H2.out (by decide)))
      cases hv : memOk C
      · rw [hv] at HC
        have HR : Hid (chk C = 11) := HK.out.trans (chkK_2f hv)
        clear hv
        go_wp2_with (go_at_call 48; refine HC.mono ?_; rintro e w2 ⟨rfl, C2⟩; simp only [fineV, Bool.false_eq_true, if_false])
        go_ret
        exact ⟨ret_int HR.out.symm, Ck.trans C2⟩
      · rw [hv] at HC
        have HR : Hid (chk C = chkK C 3) := HK.out.trans (chkK_2t hv)
        have HV := Lib.hid hv
        clear hv
        go_wp2_with (go_at_call 48; refine HC.mono ?_; rintro e w2 ⟨rfl, C2⟩; simp only [fineV, if_true])
        go_roundw
        case rel => exact ⟨3, by omega, rfl, HR, fun _ => H1.out (by decide), fun _ => H2.out (by decide), Ck.trans C2, Bk.chg C2 (fun h => h)⟩
        case measure => simp [intOf]
    · have d0 : wr.cell? ⟨w.heap.size + 1 + 1, 3, none⟩ = some (.func (.func 49) #[.agg #[.int .i64 C.pages, .int .i64 C.major, .int .i64 C.switch, .slice ap C.parts.length cp, .slice ac C.chans.length cc, .slice aw C.wins.length cw]] #[]) := Bk.cell 3
      have HC : Calls Try.prog 49 #[.agg #[.int .i64 C.pages, .int .i64 C.major, .int .i64 C.switch, .slice ap C.parts.length cp, .slice ac C.chans.length cc, .slice aw C.wins.length cw]] wr fun e w' => e = .returned (.int .i64 (fineV (chansOk C) 13)) ∧ Chg wr w' (fun _ => False) := channels_any _ hkk
      cases hv : chansOk C
      · rw [hv] at HC
        have HR : Hid (chk C = 13) := HK.out.trans (chkK_3f hv)
        clear hv
        go_wp2_with (go_at_call 49; refine HC.mono ?_; rintro e w2 ⟨rfl, C2⟩; simp only [fineV, Bool.false_eq_true, if_false])
        go_ret
        exact ⟨ret_int HR.out.symm, Ck.trans C2⟩
      · rw [hv] at HC
        have HR : Hid (chk C = chkK C 4) := HK.out.trans (chkK_3t hv)
        have HV := Lib.hid hv
        clear hv
        go_wp2_with (go_at_call 49; refine HC.mono ?_; rintro e w2 ⟨rfl, C2⟩; simp only [fineV, if_true])
        go_roundw
        case rel => exact ⟨4, by omega, rfl, HR, fun _ => H1.out (by decide), fun _ => H2.out (by decide), Ck.trans C2, Bk.chg C2 (fun h => h)⟩
        case measure => simp [intOf]
    · have d0 : wr.cell? ⟨w.heap.size + 1 + 1, 4, none⟩ = some (.func (.func 50) #[.agg #[.int .i64 C.pages, .int .i64 C.major, .int .i64 C.switch, .slice ap C.parts.length cp, .slice ac C.chans.length cc, .slice aw C.wins.length cw]] #[]) := Bk.cell 4
      have HC : Calls Try.prog 50 #[.agg #[.int .i64 C.pages, .int .i64 C.major, .int .i64 C.switch, .slice ap C.parts.length cp, .slice ac C.chans.length cc, .slice aw C.wins.length cw]] wr fun e w' => e = .returned (.int .i64 (fineV (winsOk C) 12)) ∧ Chg wr w' (fun _ => False) := windows_any _ hkk
      cases hv : winsOk C
      · rw [hv] at HC
        have HR : Hid (chk C = 12) := HK.out.trans (chkK_4f hv)
        clear hv
        go_wp2_with (go_at_call 50; refine HC.mono ?_; rintro e w2 ⟨rfl, C2⟩; simp only [fineV, Bool.false_eq_true, if_false])
        go_ret
        exact ⟨ret_int HR.out.symm, Ck.trans C2⟩
      · rw [hv] at HC
        have HR : Hid (chk C = chkK C 5) := HK.out.trans (chkK_4t hv)
        have HV := Lib.hid hv
        clear hv
        go_wp2_with (go_at_call 50; refine HC.mono ?_; rintro e w2 ⟨rfl, C2⟩; simp only [fineV, if_true])
        go_roundw
        case rel => exact ⟨5, by omega, rfl, HR, fun _ => H1.out (by decide), fun _ => H2.out (by decide), Ck.trans C2, Bk.chg C2 (fun h => h)⟩
        case measure => simp [intOf]
    · go_wp2_with fail
      go_ret
      exact ⟨ret_int (by rw [HK.out]; rfl), Ck⟩

end Go.Proofs.Ytiedfglkjkaefaa

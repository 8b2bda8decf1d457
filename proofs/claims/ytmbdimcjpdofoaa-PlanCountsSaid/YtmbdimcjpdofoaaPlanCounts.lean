/- PlanCounts: that the steps that are told are those that are there, tick by tick, that each tick is one partition's at most, and that the next one is the first one. No condition. -/
import Derived.Test.YtmbdimcjpdofoaaPlan4
import Derived.Test.YtmbdimcjpdofoaaPlanR
import Derived.Test.YtmbdimcjpdofoaaPlanLaw
import Derived.Test.YtmbdimcjpdofoaaPlanB2
import Derived.Test.YtmbdimcjpdofoaaBig
import Derived.Test.YtmbdimcjpdofoaaCfgArg
import Derived.Test.YtmbdimcjpdofoaaAlive15
import Derived.Test.YtmbdimcjpdofoaaSeq
import Derived.Test.YtmbdimcjpdofoaaRow
import Derived.Test.YtmbdimcjpdofoaaChkAt
namespace Go.Proofs.Ytmbdimcjpdofoaa
open Go.ChangeShapes Go.WideShapes Go.ChangeAt Go.RowKit

/-- What 'first' holds. -/
def FirstS (C : Cfg) (part a j f : Int) : Prop := (f = -1 ∧ ∀ s, a ≤ s → s < a + j → runP C part s = false) ∨ (a ≤ f ∧ f < a + j ∧ runP C part f = true ∧ ∀ s, a ≤ s → s < f → runP C part s = false)
theorem first_in {C : Cfg} {part a j f : Int} (h : FirstS C part a j f) (h0 : 0 ≤ a) (h1 : a ≤ 274877906944) (h2 : j ≤ 300) : -1 ≤ f ∧ f ≤ 274877907244 := by
  rcases h with ⟨rfl, _⟩ | ⟨a, b, _⟩ <;> omega
theorem first_no {C : Cfg} {part a j f : Int} (h : FirstS C part a j f) (hr : runP C part (a + j) = false) : FirstS C part a (j + 1) f := by
  rcases h with ⟨rfl, h⟩ | ⟨h1, h2, h3, h4⟩
  · refine .inl ⟨rfl, fun s a1 a2 => ?_⟩
    by_cases e : s = a + j
    · rw [e]; exact hr
    · exact h s a1 (by omega)
  · exact .inr ⟨h1, by omega, h3, h4⟩
theorem first_yes {C : Cfg} {part a j f : Int} (h : FirstS C part a j f) (hf : 0 ≤ f) : FirstS C part a (j + 1) f := by
  rcases h with ⟨rfl, h⟩ | ⟨h1, h2, h3, h4⟩
  · omega
  · exact .inr ⟨h1, by omega, h3, h4⟩
theorem first_new {C : Cfg} {part a j f : Int} (h0 : 0 ≤ a) (hj : 0 ≤ j) (h : FirstS C part a j f) (hf : f < 0) (hr : runP C part (a + j) = true) : FirstS C part a (j + 1) (a + j) := by
  rcases h with ⟨rfl, h⟩ | ⟨h1, h2, h3, h4⟩
  · exact .inr ⟨by omega, by omega, hr, fun s a1 a2 => h s a1 a2⟩
  · omega
theorem first_next {C : Cfg} (hF : WFine C) (hc : chk C = 0) {part a n f : Int} (h : FirstS C part a n f) (h0 : 0 ≤ a) (h1 : a ≤ 274877906944) : (f = -1 ∧ ((nextV C part a).2 = false ∨ ((nextV C part a).2 = true ∧ a + n ≤ (nextV C part a).1))) ∨ (0 ≤ f ∧ nextV C part a = (f, true)) := by
  have ht : tickB C [a] = true := by unfold tickB; rw [hc, all_one, show okT a = true from decide_eq_true (by omega)]; rfl
  rcases next_spec hF part h0 ht with ⟨v, e, hv1, hv2, hv3⟩ | ⟨e, hv⟩
  · rw [e]
    rcases h with ⟨rfl, h⟩ | ⟨h1, h2, h3, h4⟩
    · refine .inl ⟨rfl, .inr ⟨rfl, ?_⟩⟩
      refine Decidable.byContradiction fun hh => ?_
      have := h v hv1 (by omega)
      rw [this] at hv2
      cases hv2
    · refine .inr ⟨by omega, ?_⟩
      have : v = f := by
        refine Decidable.byContradiction fun hne => ?_
        by_cases hlt : v < f
        · rw [h4 v hv1 hlt] at hv2; cases hv2
        · rw [hv3 f h1 (by omega)] at h3; cases h3
      rw [this]
  · rw [e]
    rcases h with ⟨rfl, h⟩ | ⟨h1, h2, h3, h4⟩
    · exact .inl ⟨rfl, .inl rfl⟩
    · rw [hv f] at h3; cases h3
theorem cnt_le (C : Cfg) (part a : Int) : ∀ n : Nat, 0 ≤ cnt C part a n ∧ cnt C part a n ≤ n
  | 0 => ⟨Int.le_refl _, by unfold cnt; omega⟩
  | n + 1 => by
    have := cnt_le C part a n
    unfold cnt b2i
    split <;> omega
theorem cnt_yes {C : Cfg} {part a : Int} {n : Nat} (h : runP C part (a + n) = true) : cnt C part a (n + 1) = cnt C part a n + 1 := by
  show cnt C part a n + b2i (runP C part (a + n)) = _
  rw [h]
  rfl
theorem cnt_no {C : Cfg} {part a : Int} {n : Nat} (h : runP C part (a + n) = false) : cnt C part a (n + 1) = cnt C part a n := by
  show cnt C part a n + b2i (runP C part (a + n)) = _
  rw [h]
  exact Int.add_zero _
theorem cnt_steps {C : Cfg} (hF : WFine C) (hc : chk C = 0) (part a : Int) (n : Nat) (h0 : 0 ≤ a) (h1 : a + n ≤ 1099511627776) : stepsV C part a (a + n) = cnt C part a n := by
  unfold stepsV
  rw [if_pos ⟨by rw [tickB_two, hc, show okT a = true from decide_eq_true (by omega), show okT (a + n) = true from decide_eq_true (by omega)]; rfl, by omega⟩, upto_add hF part n h0]
  omega

set_option maxRecDepth 100000 in
set_option maxHeartbeats 4000000 in
theorem planCounts_any {C : Cfg} {ap ac aw : Option Addr} {cp cc cw : Nat} (part fr n : Int) (w : World) (h : CfgAt w C ap ac aw cp cc cw) :
    Calls Try.prog 8 #[.agg (cfgCells C ap ac aw cp cc cw), .int .i64 part, .int .i64 fr, .int .i64 n] w fun e w' => e = .returned (.bool true) ∧ Below w.heap.size w w' := by
  have HB := Box.new w 26 (cfgCells C ap ac aw cp cc cw)
  have HA := h.keep ((Chg.refl w (fun _ => False)).alloc (.cells (cfgCells C ap ac aw cp cc cw) 26))
  obtain ⟨w0, hw0⟩ : ∃ w0, w.alloc (.cells (cfgCells C ap ac aw cp cc cw) 26) = w0 := ⟨_, rfl⟩
  have C0 : Chg w w0 (fun _ => False) := by rw [← hw0]; exact (Chg.refl _ _).alloc _
  rw [hw0] at HB HA
  unfold cfgCells at *
  go_enter Try.func8, Try.ntmps8
  go_wp2_with fail
  clear hw0
  refine (alive15 _).mono ?_
  rintro e w1 ⟨rfl, C1⟩
  have HKB : ∀ w', Chg w0 w' (fun _ => False) → Box w' w.heap.size 26 #[.int .i64 C.pages, .int .i64 C.major, .int .i64 C.switch, .slice ap C.parts.length cp, .slice ac C.chans.length cc, .slice aw C.wins.length cw] := fun w' c => HB.chg c (fun h => h)
  replace HKB := Lib.hid HKB
  replace HA := Lib.hid HA
  clear HB
  have B := HKB.out _ C1
  have x0 := B.cell 0
  have x1 := B.cell 1
  have x2 := B.cell 2
  have x3 := B.cell 3
  have x4 := B.cell 4
  have x5 := B.cell 5
  clear B
  go_wp2_with fail
  refine (big_any _ (HA.out.keep C1)).mono ?_
  rintro e w2 ⟨rfl, C2'⟩
  have C2 := C1.trans C2'
  clear x0 x1 x2 x3 x4 x5 C2'
  cases hbig : bigV C
  case true =>
    clear hbig
    go_wp2_with fail
    go_ret
    exact ⟨rfl, (C0.trans C2).below_of (Nat.le_refl _) (fun _ h => h.elim)⟩
  clear hbig
  have B := HKB.out _ C2
  have x0 := B.cell 0
  have x1 := B.cell 1
  have x2 := B.cell 2
  have x3 := B.cell 3
  have x4 := B.cell 4
  have x5 := B.cell 5
  clear B
  go_wp2_with fail
  refine (rcheck_any _ (HA.out.keep C2)).mono ?_
  rintro e w3 ⟨rfl, C3'⟩
  have C3 := C2.trans C3'
  clear x0 x1 x2 x3 x4 x5 C3'
  by_cases hchk : chk C = 0
  case neg =>
    have qc : (chk C != 0) = true := bne_iff_ne.2 hchk
    clear hchk
    go_wp2_with fail
    go_ret
    exact ⟨rfl, (C0.trans C3).below_of (Nat.le_refl _) (fun _ h => h.elim)⟩
  rw [hchk]
  by_cases g0 : fr < 0
  case pos =>
    have q0 : decide (fr < 0) = true := decide_eq_true g0
    clear g0 hchk
    go_wp2_with fail
    go_ret
    exact ⟨rfl, (C0.trans C3).below_of (Nat.le_refl _) (fun _ h => h.elim)⟩
  have q0 : decide (fr < 0) = false := decide_eq_false g0
  have b0 : 0 ≤ fr := by omega
  clear g0
  by_cases g1 : 274877906944 < fr
  case pos =>
    have q1 : decide (274877906944 < fr) = true := decide_eq_true g1
    clear g1 hchk
    go_wp2_with fail
    go_ret
    exact ⟨rfl, (C0.trans C3).below_of (Nat.le_refl _) (fun _ h => h.elim)⟩
  have q1 : decide (274877906944 < fr) = false := decide_eq_false g1
  have b1 : fr ≤ 274877906944 := by omega
  clear g1
  by_cases g2 : n < 0
  case pos =>
    have q2 : decide (n < 0) = true := decide_eq_true g2
    clear g2 hchk
    go_wp2_with fail
    go_ret
    exact ⟨rfl, (C0.trans C3).below_of (Nat.le_refl _) (fun _ h => h.elim)⟩
  have q2 : decide (n < 0) = false := decide_eq_false g2
  have b2 : 0 ≤ n := by omega
  clear g2
  by_cases g3 : 300 < n
  case pos =>
    have q3 : decide (300 < n) = true := decide_eq_true g3
    clear g3 hchk
    go_wp2_with fail
    go_ret
    exact ⟨rfl, (C0.trans C3).below_of (Nat.le_refl _) (fun _ h => h.elim)⟩
  have q3 : decide (300 < n) = false := decide_eq_false g3
  have b3 : n ≤ 300 := by omega
  clear g3
  have HF := Lib.hid (chk_wins hchk)
  have HCK := Lib.hid hchk
  clear hchk
  obtain ⟨m, rfl⟩ := Int.eq_ofNat_of_zero_le b2
  have HCS := Lib.hid (cnt_steps HF.out HCK.out part fr m b0 (by omega))
  go_wp2_with fail
  go_loopw [11, 12, 13] (fun k f t wr => ∃ (j : Nat) (fv : Int), j ≤ m ∧ t = .int .i64 (fr + j) ∧ k = .int .i64 (cnt C part fr j) ∧ f = .int .i64 fv ∧ Hid (FirstS C part fr j fv) ∧ Chg w0 wr (fun _ => False)) (fun _ _ t _ => (fr + m - intOf t).toNat)
  case atStart => exact ⟨0, -1, by omega, by simp, rfl, rfl, .inl ⟨rfl, fun s a1 a2 => by omega⟩, C3⟩
  case round =>
    obtain ⟨j, fv, hj, rfl, rfl, rfl, HFI, Cj⟩ := hrel
    have hf := first_in HFI.out b0 b1 (by omega)
    obtain ⟨hf1, hf2⟩ := hf
    have hc := cnt_le C part fr j
    obtain ⟨hc1, hc2⟩ := hc
    have hj0 : (0 : Int) ≤ fr + j := by omega
    have hj1 : fr + j ≤ 274877907244 := by omega
    have B := HKB.out _ Cj
    have x0 := B.cell 0
    have x1 := B.cell 1
    have x2 := B.cell 2
    have x3 := B.cell 3
    have x4 := B.cell 4
    have x5 := B.cell 5
    clear B
    by_cases hlt : j < m
    · have q8 : decide (fr + (j : Int) < fr + (m : Int)) = true := decide_eq_true (by omega)
      go_wp2_with fail
      refine (runs_any _ (HA.out.keep Cj) (fr + j)).mono ?_
      rintro e w4 ⟨rfl, C4'⟩
      have C4 := Cj.trans C4'
      clear x0 x1 x2 x3 x4 x5 C4'
      have hrr := runs_runP HF.out part (t := fr + j) (by unfold tickB; rw [HCK.out, all_one, show okT (fr + j) = true from decide_eq_true (by omega)]; rfl)
      obtain ⟨rv, hrv⟩ : ∃ rv, runsV C (fr + j) = rv := ⟨_, rfl⟩
      rw [hrv] at hrr ⊢
      clear hrv
      obtain ⟨p, ok⟩ := rv
      have HRR := Lib.hid hrr
      clear hrr
      obtain ⟨ck, hck⟩ : ∃ ck, cnt C part fr j = ck := ⟨_, rfl⟩
      have HCKK := Lib.hid hck
      rw [hck] at hc1 hc2 ⊢
      clear hck
      cases ok
      case false =>
        have hr : runP C part (fr + j) = false := by rw [← HRR.out]; rfl
        have HFN := Lib.hid (first_no HFI.out hr)
        have HCN := Lib.hid (cnt_no hr)
        clear hr
        go_wp2_with fail
        go_roundw
        case rel => exact ⟨j + 1, fv, by omega, int_eq (by omega), by rw [HCN.out, HCKK.out], rfl, HFN.out, C4⟩
        case measure => simp [intOf]; omega
      case true =>
        by_cases hp : p = part
        · have hr : runP C part (fr + j) = true := by rw [← HRR.out]; simp [hp]
          have q9 : (p == part) = true := beq_iff_eq.2 hp
          have HCN := Lib.hid (cnt_yes hr)
          clear hp
          by_cases hf0 : fv < 0
          · have HFN := Lib.hid (first_new b0 (by omega) HFI.out hf0 hr)
            have q7 : decide (fv < 0) = true := decide_eq_true hf0
            clear hr hf0
            go_wp2_with fail
            go_roundw
            case rel => exact ⟨j + 1, fr + j, by omega, int_eq (by omega), by rw [HCN.out, HCKK.out], rfl, HFN.out, C4⟩
            case measure => simp [intOf]; omega
          · have HFN := Lib.hid (first_yes HFI.out (by omega))
            have q7 : decide (fv < 0) = false := decide_eq_false hf0
            clear hr hf0
            go_wp2_with fail
            go_roundw
            case rel => exact ⟨j + 1, fv, by omega, int_eq (by omega), by rw [HCN.out, HCKK.out], rfl, HFN.out, C4⟩
            case measure => simp [intOf]; omega
        · have hr : runP C part (fr + j) = false := by rw [← HRR.out]; simp [hp]
          have q9 : (p == part) = false := beq_eq_false_iff_ne.2 hp
          have HFN := Lib.hid (first_no HFI.out hr)
          have HCN := Lib.hid (cnt_no hr)
          clear hr hp
          go_wp2_with fail
          go_roundw
          case rel => exact ⟨j + 1, fv, by omega, int_eq (by omega), by rw [HCN.out, HCKK.out], rfl, HFN.out, C4⟩
          case measure => simp [intOf]; omega
    · have h5 : j = m := by omega
      subst h5
      have q8 : decide (fr + (j : Int) < fr + (j : Int)) = false := decide_eq_false (by omega)
      have hfn := first_next HF.out HCK.out HFI.out b0 b1
      obtain ⟨nv, hnv⟩ : ∃ nv, nextV C part fr = nv := ⟨_, rfl⟩
      rw [hnv] at hfn
      have HNV := Lib.hid hnv
      obtain ⟨ck, hck⟩ : ∃ ck, cnt C part fr j = ck := ⟨_, rfl⟩
      rw [hck] at hc1 hc2 HCS ⊢
      have HFN := Lib.hid hfn
      clear hnv hck hfn
      obtain ⟨n1, n2⟩ := nv
      go_wp2_with fail
      refine (next_any _ (HA.out.keep Cj) part fr).mono ?_
      rintro e w4 ⟨rfl, C4'⟩
      have C4 := Cj.trans C4'
      rw [HNV.out]
      clear x0 x1 x2 x3 x4 x5 C4'
      have B := HKB.out _ C4
      have x0 := B.cell 0
      have x1 := B.cell 1
      have x2 := B.cell 2
      have x3 := B.cell 3
      have x4 := B.cell 4
      have x5 := B.cell 5
      clear B
      go_wp2_with fail
      refine (steps_any _ (HA.out.keep C4) part fr (fr + j)).mono ?_
      rintro e w5 ⟨rfl, C5'⟩
      have C5 := C4.trans C5'
      rw [HCS.out]
      clear x0 x1 x2 x3 x4 x5 C5'
      have hfn := HFN.out
      rcases hfn with ⟨rfl, hh | ⟨hh, hh2⟩⟩ | ⟨hh, hh2⟩
      · have hh' : n2 = false := hh
        subst hh'
        go_wp2_with fail
        go_ret
        exact ⟨rfl, (C0.trans C5).below_of (Nat.le_refl _) (fun _ h => h.elim)⟩
      · have hh' : n2 = true := hh
        subst hh'
        have q10 : decide (fr + (j : Int) ≤ n1) = true := decide_eq_true hh2
        clear hh2
        go_wp2_with fail
        go_ret
        exact ⟨rfl, (C0.trans C5).below_of (Nat.le_refl _) (fun _ h => h.elim)⟩
      · injection hh2 with e1 e2
        subst e1 e2
        have q10 : decide (0 ≤ n1) = true := decide_eq_true hh
        go_wp2_with fail
        go_ret
        exact ⟨rfl, (C0.trans C5).below_of (Nat.le_refl _) (fun _ h => h.elim)⟩

set_option maxRecDepth 100000 in
theorem planCounts_walk : LawWalk 8 Try.f8 := by
  intro H enc W base args ds p hval hA
  rw [Try.params8] at hA hval
  obtain ⟨v0, v1, v2, v3, d0, d1, d2, d3, p0, p1, p2, p3, rfl, rfl, rfl, h0, h1, h2, h3⟩ := trodAll_four hA
  obtain ⟨C, ap, ac, aw, cp, cc, cw, rfl, hC, _⟩ := open_cfg (hval 0 26 v0 rfl rfl) h0
  obtain ⟨a1, rfl, rfl, rfl, w1⟩ := open_int Try.underlying3 (hval 1 3 v1 rfl rfl) h1
  obtain ⟨a2, rfl, rfl, rfl, w2⟩ := open_int Try.underlying3 (hval 2 3 v2 rfl rfl) h2
  obtain ⟨a3, rfl, rfl, rfl, w3⟩ := open_int Try.underlying3 (hval 3 3 v3 rfl rfl) h3
  exact planCounts_any a1 a2 a3 W hC

set_option maxRecDepth 100000 in
theorem planCounts_lifted (os : Os) (started : os.Started) (H : Type) (enc : TypeId × Value → H) :
    ReturnsInHanded {} Try.checked os 8 .any (Rows.planCountsSpec.pre6 enc Try.prog Try.f8 Rows.planCountsRow.domain false) (Rows.planCountsSpec.post enc Try.prog Try.f8 false true false false) :=
  law_lifted (s := Rows.planCountsSpec) Try.func8 (by kernel_rfl) rfl (by kernel_rfl) (by kernel_rfl)
    (fun H ds h => by
      match ds, h with
      | [d0, d1, d2, d3], _ => rfl)
    planCounts_walk os started H enc
    (ChangeSpec.witness6 (enc := enc) (C := Try.checked) false ⟨#[], #[.agg #[.int .i64 0, .int .i64 0, .int .i64 0, .slice none 0 0, .slice none 0 0, .slice none 0 0], .int .i64 0, .int .i64 0, .int .i64 0], []⟩ 8 (by kernel_rfl) (by kernel_rfl) (by kernel_rfl) (by kernel_rfl))

set_option maxRecDepth 100000 in
/-- THE STATEMENT. -/
theorem planCounts_holds : Rows.PlanCountsSaid :=
  OpenClaim.holds_of_wide 8 Try.f8 rfl rfl rfl rfl rfl rfl rfl ⟨rfl, rfl, rfl, rfl, rfl⟩ rfl rfl rfl rfl rfl (by kernel_rfl) Try.func8 (by kernel_rfl)
    (of_decide_eq_true (by kernel_rfl)) (by unfold Func.isWrapper; first | (rw [if_pos (by decide +kernel)]; kernel_rfl) | (rw [if_neg (by decide +kernel)]; exact ⟨rfl, rfl⟩))
    (fun os started H enc _ => planCounts_lifted os started H enc)
#print axioms planCounts_holds
end Go.Proofs.Ytmbdimcjpdofoaa

/- PlanShares: that a partition's share is that of its windows, less what the switches take, in every major frame. No condition. -/
import Derived.Test.YtmbdimcjpdofoaaPlan4
import Derived.Test.YtmbdimcjpdofoaaPlanLaw
import Derived.Test.YtmbdimcjpdofoaaPlanB2
import Derived.Test.YtmbdimcjpdofoaaBig
import Derived.Test.YtmbdimcjpdofoaaCfgArg
import Derived.Test.YtmbdimcjpdofoaaAlive15
import Derived.Test.YtmbdimcjpdofoaaSeq
import Derived.Test.YtmbdimcjpdofoaaRow
import Derived.Test.YtmbdimcjpdofoaaChkAt
namespace Go.Proofs.Ytmbdimcjpdofoaa
open Go.ChangeShapes Go.WideShapes Go.ChangeAt Go.RowKit

theorem wantK_le {C : Cfg} (hF : WFine C) (part : Int) : ∀ k, k ≤ C.wins.length → 0 ≤ wantK C part k ∧ wantK C part k ≤ 100000 * k := by
  intro k
  induction k with
  | zero => intro _; simp [wantK]
  | succ k ih =>
    intro hk
    have h1 := ih (by omega)
    have h2 := hF.each _ (List.getElem_mem (show k < C.wins.length by omega))
    have h3 := hF.major
    have h4 := hF.switch
    rw [wantK_succ _ _ _ (by omega)]
    split <;> omega
theorem frame_steps {C : Cfg} (hF : WFine C) (hc : chk C = 0) (part f : Int) (h0 : 0 ≤ f) (h1 : f ≤ 1000000) : 0 ≤ f * C.major ∧ f * C.major ≤ 100000000000 ∧ stepsV C part (f * C.major) (f * C.major + C.major) = wantK C part C.wins.length := by
  have hm := hF.major
  have a := Int.mul_nonneg h0 (show 0 ≤ C.major by omega)
  have b := Int.mul_le_mul h1 hm.2 (by omega) (by decide)
  refine ⟨a, by omega, ?_⟩
  unfold stepsV
  rw [if_pos ⟨by rw [tickB_two, hc, show okT (f * C.major) = true from decide_eq_true (by omega), show okT (f * C.major + C.major) = true from decide_eq_true (by omega)]; rfl, by omega⟩]
  have e0 := later_upto hF part 0 f
  have e1 := later_upto hF part 0 (f + 1)
  rw [Int.zero_add] at e0 e1
  rw [Int.add_mul, Int.one_mul] at e1
  rw [e0, e1, Int.add_mul, Int.one_mul, want_share hF]
  omega

set_option maxRecDepth 100000 in
set_option maxHeartbeats 4000000 in
theorem planShares_any {C : Cfg} {ap ac aw : Option Addr} {cp cc cw : Nat} (part fr : Int) (w : World) (h : CfgAt w C ap ac aw cp cc cw) :
    Calls Try.prog 5 #[.agg (cfgCells C ap ac aw cp cc cw), .int .i64 part, .int .i64 fr] w fun e w' => e = .returned (.bool true) ∧ Below w.heap.size w w' := by
  have HB := Box.new w 26 (cfgCells C ap ac aw cp cc cw)
  have HA := h.keep ((Chg.refl w (fun _ => False)).alloc (.cells (cfgCells C ap ac aw cp cc cw) 26))
  obtain ⟨w0, hw0⟩ : ∃ w0, w.alloc (.cells (cfgCells C ap ac aw cp cc cw) 26) = w0 := ⟨_, rfl⟩
  have C0 : Chg w w0 (fun _ => False) := by rw [← hw0]; exact (Chg.refl _ _).alloc _
  rw [hw0] at HB HA
  unfold cfgCells at *
  go_enter Try.func5, Try.ntmps5
  go_wp2_with fail
  clear hw0
  refine (alive15 _).mono ?_
  rintro e w1 ⟨rfl, C1⟩
  have HKB : ∀ w', Chg w0 w' (fun _ => False) → Box w' w.heap.size 26 #[.int .i64 C.pages, .int .i64 C.major, .int .i64 C.switch, .slice ap C.parts.length cp, .slice ac C.chans.length cc, .slice aw C.wins.length cw] := fun w' c => HB.chg c (fun h => h)
  replace HKB := Lib.hid HKB
  replace HA := Lib.hid HA
  clear HB
  have B := HKB.out _ C1
  have x0 := B.cell 0
  have x1 := B.cell 1
  have x2 := B.cell 2
  have x3 := B.cell 3
  have x4 := B.cell 4
  have x5 := B.cell 5
  clear B
  go_wp2_with fail
  refine (big_any _ (HA.out.keep C1)).mono ?_
  rintro e w2 ⟨rfl, C2'⟩
  have C2 := C1.trans C2'
  clear x0 x1 x2 x3 x4 x5 C2'
  cases hbig : bigV C
  case true =>
    clear hbig
    go_wp2_with fail
    go_ret
    exact ⟨rfl, (C0.trans C2).below_of (Nat.le_refl _) (fun _ h => h.elim)⟩
  clear hbig
  have B := HKB.out _ C2
  have x0 := B.cell 0
  have x1 := B.cell 1
  have x2 := B.cell 2
  have x3 := B.cell 3
  have x4 := B.cell 4
  have x5 := B.cell 5
  clear B
  go_wp2_with fail
  refine (rcheck_any _ (HA.out.keep C2)).mono ?_
  rintro e w3 ⟨rfl, C3'⟩
  have C3 := C2.trans C3'
  clear x0 x1 x2 x3 x4 x5 C3'
  by_cases hchk : chk C = 0
  case neg =>
    have qc : (chk C != 0) = true := bne_iff_ne.2 hchk
    clear hchk
    go_wp2_with fail
    go_ret
    exact ⟨rfl, (C0.trans C3).below_of (Nat.le_refl _) (fun _ h => h.elim)⟩
  rw [hchk]
  by_cases g0 : fr < 0
  case pos =>
    have q0 : decide (fr < 0) = true := decide_eq_true g0
    clear g0 hchk
    go_wp2_with fail
    go_ret
    exact ⟨rfl, (C0.trans C3).below_of (Nat.le_refl _) (fun _ h => h.elim)⟩
  have q0 : decide (fr < 0) = false := decide_eq_false g0
  have b0 : 0 ≤ fr := by omega
  clear g0
  by_cases g1 : 1000000 < fr
  case pos =>
    have q1 : decide (1000000 < fr) = true := decide_eq_true g1
    clear g1 hchk
    go_wp2_with fail
    go_ret
    exact ⟨rfl, (C0.trans C3).below_of (Nat.le_refl _) (fun _ h => h.elim)⟩
  have q1 : decide (1000000 < fr) = false := decide_eq_false g1
  have b1 : fr ≤ 1000000 := by omega
  clear g1
  have HF := Lib.hid (chk_wins hchk)
  have HCK := Lib.hid hchk
  clear hchk
  have HWL := Lib.hid (wantK_le HF.out part)
  have hwl := HF.out.len
  have hsw := HF.out.switch
  obtain ⟨hsw1, hsw2⟩ := hsw
  have hfs := frame_steps HF.out HCK.out part fr b0 b1
  obtain ⟨pr, hpr⟩ : ∃ pr, fr * C.major = pr := ⟨_, rfl⟩
  rw [hpr] at hfs
  obtain ⟨hp0, hp1, hfs⟩ := hfs
  have hm := HF.out.major
  obtain ⟨hm1, hm2⟩ := hm
  have hpr2 : (fr + 1) * C.major = pr + C.major := by rw [Int.add_mul, Int.one_mul, hpr]
  have HPR := Lib.hid hpr
  have HPR2 := Lib.hid hpr2
  have hsa : shareAll C part = wantK C part C.wins.length := by unfold shareAll; rw [if_pos HCK.out, want_share HF.out]
  obtain ⟨wl, hwv⟩ : ∃ wl, wantK C part C.wins.length = wl := ⟨_, rfl⟩
  have HWV := Lib.hid hwv
  rw [hwv] at hfs hsa
  have HFS := Lib.hid hfs
  have HSA := Lib.hid hsa
  clear hpr hpr2 hfs hsa hwv
  go_wp2_with fail
  go_loopw [9, 10] (fun n i wr => ∃ k : Nat, k ≤ C.wins.length ∧ i = .int .i64 k ∧ n = .int .i64 (wantK C part k) ∧ Chg w0 wr (fun _ => False)) (fun _ i _ => C.wins.length - (intOf i).toNat)
  case atStart => exact ⟨0, by omega, rfl, rfl, C3⟩
  case round =>
    obtain ⟨k, hk, rfl, rfl, Ck⟩ := hrel
    have B := HKB.out _ Ck
    have x0 := B.cell 0
    have x1 := B.cell 1
    have x2 := B.cell 2
    have x3 := B.cell 3
    have x4 := B.cell 4
    have x5 := B.cell 5
    clear B
    by_cases hlt : k < C.wins.length
    · obtain ⟨b, o, rfl⟩ := HA.out.ws.pos (by omega)
      have hkk := (HA.out.keep Ck).ws
      have c1 := Lst.cell (n := 3) (fun _ => rfl) hkk k 1 (by decide) hlt rfl
      have c2 := Lst.cell (n := 3) (fun _ => rfl) hkk k 2 (by decide) hlt rfl
      have hx := HF.out.each _ (List.getElem_mem hlt)
      have HS := Lib.hid (wantK_succ C part k hlt)
      have hw := HWL.out k hk
      obtain ⟨x, hxe⟩ : ∃ x, C.wins[k] = x := ⟨_, rfl⟩
      rw [hxe] at c1 c2 hx HS
      obtain ⟨z1, z2, z3, z4, z5⟩ := hx
      obtain ⟨wk, hwk⟩ : ∃ wk, wantK C part k = wk := ⟨_, rfl⟩
      rw [hwk] at HS hw ⊢
      obtain ⟨hw1, hw2⟩ := hw
      have hw3 : wk ≤ 3200000 := by omega
      have hlx : x.len ≤ 100000 := by omega
      clear hkk hxe hwk hw2
      by_cases hp : x.part = part
      · have q5 : (x.part == part) = true := beq_iff_eq.2 hp
        have HR : Hid (wantK C part (k + 1) = wk + (x.len - C.switch)) := by show _ = _; rw [HS.out, if_pos hp]
        clear hp
        go_wp2_with fail
        go_quiet (fail)
        go_wp2_with fail
        go_roundw
        case rel => exact ⟨k + 1, by omega, by go_num, by rw [HR.out]; exact int_eq (by omega), Ck.drewN _⟩
        case measure => simp [intOf]; omega
      · have q5 : (x.part == part) = false := beq_eq_false_iff_ne.2 hp
        have HR : Hid (wantK C part (k + 1) = wk) := by show _ = _; rw [HS.out, if_neg hp, Int.add_zero]
        clear hp
        go_wp2_with fail
        go_roundw
        case rel => exact ⟨k + 1, by omega, by go_num, by rw [HR.out], Ck⟩
        case measure => simp [intOf]; omega
    · have h5 : k = C.wins.length := by omega
      subst h5
      rw [HWV.out]
      go_wp2_with fail
      refine (shareall_any _ (HA.out.keep Ck) part).mono ?_
      rintro e w4 ⟨rfl, C4'⟩
      have C4 := Ck.trans C4'
      rw [HSA.out]
      clear x0 x1 x2 x3 x4 x5 C4'
      have B := HKB.out _ C4
      have x0 := B.cell 0
      have x1 := B.cell 1
      have x2 := B.cell 2
      have x3 := B.cell 3
      have x4 := B.cell 4
      have x5 := B.cell 5
      clear B
      have hpr := HPR.out
      have hpr2 := HPR2.out
      go_wp2_with fail
      refine (steps_any _ (HA.out.keep C4) part pr (pr + C.major)).mono ?_
      rintro e w5 ⟨rfl, C5'⟩
      have C5 := C4.trans C5'
      rw [HFS.out]
      clear x0 x1 x2 x3 x4 x5 C5'
      go_wp2_with fail
      go_ret
      exact ⟨rfl, (C0.trans C5).below_of (Nat.le_refl _) (fun _ h => h.elim)⟩

set_option maxRecDepth 100000 in
theorem planShares_walk : LawWalk 5 Try.f5 := by
  intro H enc W base args ds p hval hA
  rw [Try.params5] at hA hval
  obtain ⟨v0, v1, v2, d0, d1, d2, p0, p1, p2, rfl, rfl, rfl, h0, h1, h2⟩ := trodAll_three hA
  obtain ⟨C, ap, ac, aw, cp, cc, cw, rfl, hC, _⟩ := open_cfg (hval 0 26 v0 rfl rfl) h0
  obtain ⟨a1, rfl, rfl, rfl, w1⟩ := open_int Try.underlying3 (hval 1 3 v1 rfl rfl) h1
  obtain ⟨a2, rfl, rfl, rfl, w2⟩ := open_int Try.underlying3 (hval 2 3 v2 rfl rfl) h2
  exact planShares_any a1 a2 W hC

set_option maxRecDepth 100000 in
theorem planShares_lifted (os : Os) (started : os.Started) (H : Type) (enc : TypeId × Value → H) :
    ReturnsInHanded {} Try.checked os 5 .any (Rows.planSharesSpec.pre6 enc Try.prog Try.f5 Rows.planSharesRow.domain false) (Rows.planSharesSpec.post enc Try.prog Try.f5 false true false false) :=
  law_lifted (s := Rows.planSharesSpec) Try.func5 (by kernel_rfl) rfl (by kernel_rfl) (by kernel_rfl)
    (fun H ds h => by
      match ds, h with
      | [d0, d1, d2], _ => rfl)
    planShares_walk os started H enc
    (ChangeSpec.witness6 (enc := enc) (C := Try.checked) false ⟨#[], #[.agg #[.int .i64 0, .int .i64 0, .int .i64 0, .slice none 0 0, .slice none 0 0, .slice none 0 0], .int .i64 0, .int .i64 0], []⟩ 8 (by kernel_rfl) (by kernel_rfl) (by kernel_rfl) (by kernel_rfl))

set_option maxRecDepth 100000 in
/-- THE STATEMENT. -/
theorem planShares_holds : Rows.PlanSharesSaid :=
  OpenClaim.holds_of_wide 5 Try.f5 rfl rfl rfl rfl rfl rfl rfl ⟨rfl, rfl, rfl, rfl, rfl⟩ rfl rfl rfl rfl rfl (by kernel_rfl) Try.func5 (by kernel_rfl)
    (of_decide_eq_true (by kernel_rfl)) (by unfold Func.isWrapper; first | (rw [if_pos (by decide +kernel)]; kernel_rfl) | (rw [if_neg (by decide +kernel)]; exact ⟨rfl, rfl⟩))
    (fun os started H enc _ => planShares_lifted os started H enc)
#print axioms planShares_holds
end Go.Proofs.Ytmbdimcjpdofoaa

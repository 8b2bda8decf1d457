/- WalkBits: which accesses each row of an entry's bits lets through. No condition. -/
import Derived.Test.YtmkhpahkcicfnaaWalkPlain2
import Derived.Test.YtmkhpahkcicfnaaRow
namespace Go.Proofs.Ytmkhpahkcicfnaa
open Go.ChangeShapes Go.WideShapes Go.ChangeAt Go.RowKit


set_option maxRecDepth 100000 in
set_option maxHeartbeats 8000000 in
theorem walkBits_any (bt0 : Int) (frame : Int) (va : Int) (kind : Int) (user : Bool) (w : World) :
    Calls Try.prog 8 #[.int .i64 bt0, .int .i64 frame, .int .i64 va, .int .i64 kind, .bool user] w fun e w' => e = .returned (.bool true) ∧ Below w.heap.size w w' := by
  by_cases hin : 0 ≤ frame ∧ frame ≤ 1048575 ∧ 0 ≤ kind ∧ kind ≤ 2
  · have q0 : decide (frame < 0) = false := decide_eq_false (by omega)
    have q1 : decide (1048575 < frame) = false := decide_eq_false (by omega)
    have q2 : decide (kind < 0) = false := decide_eq_false (by omega)
    have q3 : decide (2 < kind) = false := decide_eq_false (by omega)
    go_enter Try.func8, Try.ntmps8
    go_wp2_with fail
    refine (alive5 _).mono ?_
    rintro e w1 ⟨rfl, B1⟩
    have hz := B1.size
    have HWA := w_any va
    have eb : bits .and .i64 bt0 31 = bt0 % 32 := and31 bt0
    have vr : 0 ≤ va % 4294967296 ∧ va % 4294967296 < 4294967296 := by omega
    have br : 0 ≤ bt0 % 32 ∧ bt0 % 32 < 32 := by omega
    obtain ⟨vw, hvw⟩ : ∃ vw, va % 4294967296 = vw := ⟨_, rfl⟩
    obtain ⟨bt, hbt⟩ : ∃ bt, bt0 % 32 = bt := ⟨_, rfl⟩
    rw [hvw] at HWA vr
    rw [hbt] at eb br
    clear hvw hbt
    go_wp2_with fail
    refine (HWA _).mono ?_
    rintro e wx ⟨rfl, rfl⟩
    clear HWA
    have ef : bits .or .i64 (frame * 4096) bt = frame * 4096 + bt := or12 frame bt (by omega) (by omega) (by omega) (by omega)
    have ev : bits .and .i64 (vw / 4096) 1023 = vw / 4096 % 1024 := and1023 _
    have ew : bits .and .i64 vw 4095 = vw % 4096 := and4095 _
    have eg : bits .or .i64 (frame * 4096) (vw % 4096) = frame * 4096 + vw % 4096 := or12 frame (vw % 4096) (by omega) (by omega) (by omega) (by omega)
    have HL := bits_law frame bt vw kind user (by omega) br vr
    have HB := Box.new w1 48 #[.int .i64 (1024 + vw / 4194304), .int .i64 8193, .int .i64 (2048 + vw / 4096 % 1024), .int .i64 (frame * 4096 + bt)]
    have HC := both_at 3 (m := 2) [⟨1024 + vw / 4194304, 8193⟩, ⟨2048 + vw / 4096 % 1024, frame * 4096 + bt⟩] (w1.alloc (.cells #[.int .i64 (1024 + vw / 4194304), .int .i64 8193, .int .i64 (2048 + vw / 4096 % 1024), .int .i64 (frame * 4096 + bt)] 48)) HB rfl rfl (by decide) pgN_three
    have HF : Hid (needFault kind = 5 + kind) := by show _ = _; have := need_cases kind; omega
    rw [HF.out] at HL
    have HA : Hid (accB bt kind user = (decide (bt % 2 = 1) && (hasB bt kind && ((!user || decide (bt / 16 % 2 = 1)) && !(decide (kind % 4 = 0) && (decide (bt / 16 % 2 = 1) && !user)))))) := rfl
    have h1 : (bits .and .i64 bt 1 == 1) = decide (bt % 2 = 1) := by rw [bit0, Bool.eq_iff_iff]; simp
    have h16 : (bits .and .i64 bt 16 != 0) = decide (bt / 16 % 2 = 1) := by rw [bit4, Bool.eq_iff_iff]; simp; omega
    have h16' : (bits .and .i64 bt 16 == 0) = !decide (bt / 16 % 2 = 1) := by rw [bit4, Bool.eq_iff_iff]; simp; omega
    obtain ⟨x1, hx1⟩ : ∃ x1, decide (bt % 2 = 1) = x1 := ⟨_, rfl⟩
    obtain ⟨xb, hxb⟩ : ∃ xb, hasB bt kind = xb := ⟨_, rfl⟩
    obtain ⟨x16, hx16⟩ : ∃ x16, decide (bt / 16 % 2 = 1) = x16 := ⟨_, rfl⟩
    rw [hx1, hxb, hx16] at HA
    rw [hx1] at h1
    rw [hx16] at h16 h16'
    have hk3 : kind = 0 ∨ kind = 1 ∨ kind = 2 := by omega
    have hv0 := vr.1
    have hv1 := vr.2
    have hb0 := br.1
    have hb1 := br.2
    have hf0 : 0 ≤ frame := by omega
    have hf1 : frame ≤ 1048575 := by omega
    clear HB hx1 hx16 HF br vr hin q0 q1 q2 q3
    rcases hk3 with rfl | rfl | rfl
    · have hb : (bits .and .i64 bt 8 != 0) = xb := by rw [← hxb, bit3, Bool.eq_iff_iff]; simp [hasB]; omega
      clear hxb
      go_wp2_with fail
      refine HC.mono ?_
      rintro e w2 ⟨a, b, c, d, rfl, M2, R2, C2, ha, hb2, hc, hd⟩
      have HW := walk_any M2 2147483649 vw 0 user
      rw [HL] at HW
      have C2' := ((Chg.refl w1 (fun _ => False)).alloc _).trans C2
      clear M2 R2 HL HC
      cases x1 <;> cases xb <;> cases user <;> cases x16
      all_goals
        rw [HA.out] at HW
        simp only [Bool.false_and, Bool.and_false, Bool.true_and, Bool.and_true, Bool.not_true, Bool.not_false, Bool.true_or, Bool.or_true, Bool.false_or, Bool.or_false, if_true, if_false, Bool.false_eq_true, decide_true, decide_false, Int.reduceMod, Int.reduceEq] at HW
        go_wp2_with fail
        refine HW.mono ?_
        rintro e w3 ⟨rfl, rfl⟩
        clear HW HA
        go_wp2_with fail
        go_ret
        exact ⟨rfl, B1.trans ((C2'.alloc _).below_of hz (fun _ h => h.elim))⟩
    · have hb : (bits .and .i64 bt 2 != 0) = xb := by rw [← hxb, bit1, Bool.eq_iff_iff]; simp [hasB]; omega
      clear hxb
      go_wp2_with fail
      refine HC.mono ?_
      rintro e w2 ⟨a, b, c, d, rfl, M2, R2, C2, ha, hb2, hc, hd⟩
      have HW := walk_any M2 2147483649 vw 1 user
      rw [HL] at HW
      have C2' := ((Chg.refl w1 (fun _ => False)).alloc _).trans C2
      clear M2 R2 HL HC
      cases x1 <;> cases xb <;> cases user <;> cases x16
      all_goals
        rw [HA.out] at HW
        simp only [Bool.false_and, Bool.and_false, Bool.true_and, Bool.and_true, Bool.not_true, Bool.not_false, Bool.true_or, Bool.or_true, Bool.false_or, Bool.or_false, if_true, if_false, Bool.false_eq_true, decide_true, decide_false, Int.reduceMod, Int.reduceEq] at HW
        go_wp2_with fail
        refine HW.mono ?_
        rintro e w3 ⟨rfl, rfl⟩
        clear HW HA
        go_wp2_with fail
        go_ret
        exact ⟨rfl, B1.trans ((C2'.alloc _).below_of hz (fun _ h => h.elim))⟩
    · have hb : (bits .and .i64 bt 4 != 0) = xb := by rw [← hxb, bit2, Bool.eq_iff_iff]; simp [hasB]; omega
      clear hxb
      go_wp2_with fail
      refine HC.mono ?_
      rintro e w2 ⟨a, b, c, d, rfl, M2, R2, C2, ha, hb2, hc, hd⟩
      have HW := walk_any M2 2147483649 vw 2 user
      rw [HL] at HW
      have C2' := ((Chg.refl w1 (fun _ => False)).alloc _).trans C2
      clear M2 R2 HL HC
      cases x1 <;> cases xb <;> cases user <;> cases x16
      all_goals
        rw [HA.out] at HW
        simp only [Bool.false_and, Bool.and_false, Bool.true_and, Bool.and_true, Bool.not_true, Bool.not_false, Bool.true_or, Bool.or_true, Bool.false_or, Bool.or_false, if_true, if_false, Bool.false_eq_true, decide_true, decide_false, Int.reduceMod, Int.reduceEq] at HW
        go_wp2_with fail
        refine HW.mono ?_
        rintro e w3 ⟨rfl, rfl⟩
        clear HW HA
        go_wp2_with fail
        go_ret
        exact ⟨rfl, B1.trans ((C2'.alloc _).below_of hz (fun _ h => h.elim))⟩
  · go_enter Try.func8, Try.ntmps8
    go_wp2_with fail
    refine (alive5 _).mono ?_
    rintro e w1 ⟨rfl, B1⟩
    go_upto_if 36 with fail
    all_goals first
      | (exfalso; omega)
      | (go_wp2_with fail
         go_ret
         exact ⟨rfl, B1⟩)

set_option maxRecDepth 100000 in
theorem walkBits_walk : LawWalk 8 Try.f8 := by
  intro H enc W base args ds p hval hA
  rw [Try.params8] at hA hval
  obtain ⟨largs⟩ := args
  obtain ⟨v0, l0, d0, e0, p0, q0, rfl, rfl, rfl, h0, hA0⟩ := trodAll_cons hA
  obtain ⟨v1, l1, d1, e1, p1, q1, rfl, rfl, rfl, h1, hA1⟩ := trodAll_cons hA0
  obtain ⟨v2, l2, d2, e2, p2, q2, rfl, rfl, rfl, h2, hA2⟩ := trodAll_cons hA1
  obtain ⟨v3, l3, d3, e3, p3, q3, rfl, rfl, rfl, h3, hA3⟩ := trodAll_cons hA2
  obtain ⟨v4, l4, d4, e4, p4, q4, rfl, rfl, rfl, h4, hA4⟩ := trodAll_cons hA3
  obtain ⟨rfl, rfl, rfl⟩ := trodAll_nil hA4
  obtain ⟨a0, rfl, rfl, rfl, w0⟩ := open_int Try.underlying3 (hval 0 3 v0 rfl rfl) h0
  obtain ⟨a1, rfl, rfl, rfl, w1⟩ := open_int Try.underlying3 (hval 1 3 v1 rfl rfl) h1
  obtain ⟨a2, rfl, rfl, rfl, w2⟩ := open_int Try.underlying3 (hval 2 3 v2 rfl rfl) h2
  obtain ⟨a3, rfl, rfl, rfl, w3⟩ := open_int Try.underlying3 (hval 3 3 v3 rfl rfl) h3
  obtain ⟨a4, rfl, rfl, rfl⟩ := open_bool Try.underlying4 (hval 4 4 v4 rfl rfl) h4
  exact walkBits_any a0 a1 a2 a3 a4 W

set_option maxRecDepth 100000 in
theorem walkBits_lifted (os : Os) (started : os.Started) (H : Type) (enc : TypeId × Value → H) :
    ReturnsInHanded {} Try.checked os 8 .any (Rows.walkBitsSpec.pre6 enc Try.prog Try.f8 Rows.walkBitsRow.domain false) (Rows.walkBitsSpec.post enc Try.prog Try.f8 false true false false) :=
  law_lifted (s := Rows.walkBitsSpec) Try.func8 (by kernel_rfl) rfl (by kernel_rfl) (by kernel_rfl)
    (fun H ds h => by
      match ds, h with
      | [d0, d1, d2, d3, d4], _ => rfl)
    walkBits_walk os started H enc
    (ChangeSpec.witness6 (enc := enc) (C := Try.checked) false ⟨#[], #[.int .i64 0, .int .i64 0, .int .i64 0, .int .i64 0, .bool false], []⟩ 8 (by kernel_rfl) (by kernel_rfl) (by kernel_rfl) (by kernel_rfl))

set_option maxRecDepth 100000 in
/-- THE STATEMENT. -/
theorem walkBits_holds : Rows.WalkBitsSaid :=
  OpenClaim.holds_of_wide 8 Try.f8 rfl rfl rfl rfl rfl rfl rfl ⟨rfl, rfl, rfl, rfl, rfl⟩ rfl rfl rfl rfl rfl (by kernel_rfl) Try.func8 (by kernel_rfl)
    (of_decide_eq_true (by kernel_rfl)) (by unfold Func.isWrapper; first | (rw [if_pos (by decide +kernel)]; kernel_rfl) | (rw [if_neg (by decide +kernel)]; exact ⟨rfl, rfl⟩))
    (fun os started H enc _ => walkBits_lifted os started H enc)
#print axioms walkBits_holds
end Go.Proofs.Ytmkhpahkcicfnaa

/- WalkTwo: two pages may be one frame, and a change of the table is seen at once. No condition. -/
import Derived.Test.YtmkhpahkcicfnaaWalkPlain2
import Derived.Test.YtmkhpahkcicfnaaRow
namespace Go.Proofs.Ytmkhpahkcicfnaa
open Go.ChangeShapes Go.WideShapes Go.ChangeAt Go.RowKit


set_option maxRecDepth 100000 in
set_option maxHeartbeats 2000000 in
theorem walkTwo_any (a : Int) (b : Int) (frame : Int) (off : Int) (w : World) :
    Calls Try.prog 10 #[.int .i64 a, .int .i64 b, .int .i64 frame, .int .i64 off] w fun e w' => e = .returned (.bool true) ∧ Below w.heap.size w w' := by
  by_cases hin : 0 ≤ a ∧ a ≤ 1023 ∧ 0 ≤ b ∧ b ≤ 1023 ∧ a ≠ b ∧ 0 ≤ frame ∧ frame ≤ 1048575 ∧ 0 ≤ off ∧ off ≤ 4095
  · have q0 : decide (a < 0) = false := decide_eq_false (by omega)
    have q1 : decide (1023 < a) = false := decide_eq_false (by omega)
    have q2 : decide (b < 0) = false := decide_eq_false (by omega)
    have q3 : decide (1023 < b) = false := decide_eq_false (by omega)
    have q4 : decide (frame < 0) = false := decide_eq_false (by omega)
    have q5 : decide (1048575 < frame) = false := decide_eq_false (by omega)
    have q6 : decide (off < 0) = false := decide_eq_false (by omega)
    have q7 : decide (4095 < off) = false := decide_eq_false (by omega)
    go_enter Try.func10, Try.ntmps10
    go_wp2_with fail
    refine (alive5 _).mono ?_
    rintro e w1 ⟨rfl, B1⟩
    have hz := B1.size
    have qe : (a == b) = false := beq_eq_false_iff_ne.2 hin.2.2.2.2.1
    have e1 : bits .or .i64 (frame * 4096) 7 = frame * 4096 + 7 := or12 frame 7 (by omega) (by omega) (by omega) (by omega)
    have e2 : bits .or .i64 (frame * 4096) 3 = frame * 4096 + 3 := or12 frame 3 (by omega) (by omega) (by omega) (by omega)
    have e3 : bits .or .i64 (a * 4096) off = a * 4096 + off := or12 a off (by omega) (by omega) (by omega) (by omega)
    have e4 : bits .or .i64 (b * 4096) off = b * 4096 + off := or12 b off (by omega) (by omega) (by omega) (by omega)
    have e5 : bits .or .i64 (frame * 4096) off = frame * 4096 + off := or12 frame off (by omega) (by omega) (by omega) (by omega)
    obtain ⟨L1, L2, L3, L4⟩ := two_law a b frame off (by omega) (by omega) hin.2.2.2.2.1 (by omega) (by omega)
    have HB := Box.new w1 48 #[.int .i64 1024, .int .i64 8193, .int .i64 (2048 + a), .int .i64 (frame * 4096 + 7), .int .i64 (2048 + b), .int .i64 (frame * 4096 + 3)]
    have HC := both_at 3 (m := 3) [⟨1024, 8193⟩, ⟨2048 + a, frame * 4096 + 7⟩, ⟨2048 + b, frame * 4096 + 3⟩] (w1.alloc (.cells #[.int .i64 1024, .int .i64 8193, .int .i64 (2048 + a), .int .i64 (frame * 4096 + 7), .int .i64 (2048 + b), .int .i64 (frame * 4096 + 3)] 48)) HB rfl rfl (by decide) pgN_three
    clear HB
    go_wp2_with fail
    refine HC.mono ?_
    rintro e w2 ⟨a', b', c, d, rfl, M2, R2, C2, ha, hb, hc, hd⟩
    have C2' := ((Chg.refl w1 (fun _ => False)).alloc _).trans C2
    have H1 := walk_any M2 2147483649 (a * 4096 + off) 2 false
    have H2 := walk_any M2 2147483649 (b * 4096 + off) 1 false
    have H3 := walk_any M2 2147483649 (b * 4096 + off) 2 false
    have HST := store_any M2 (4 * (2048 + a)) 4 0
    have H1' : Calls Try.prog 30 #[.iface 23 (.pointer (some ⟨a', 0, none⟩)), .int .i64 2147483649, .int .i64 (a * 4096 + off), .int .i64 2, .bool false] w2 fun e w' => e = .returned (.tuple #[.int .i64 (frame * 4096 + off), .int .i64 0]) ∧ w2 = w' := by
      have := H1
      rw [show walkV 12288 (pokes 12288 [⟨1024, 8193⟩, ⟨2048 + a, frame * 4096 + 7⟩, ⟨2048 + b, frame * 4096 + 3⟩] fun _ => 0) 2147483649 (a * 4096 + off) 2 false = (frame * 4096 + off, 0) from L1] at this
      exact this
    have H2' : Calls Try.prog 30 #[.iface 23 (.pointer (some ⟨a', 0, none⟩)), .int .i64 2147483649, .int .i64 (b * 4096 + off), .int .i64 1, .bool false] w2 fun e w' => e = .returned (.tuple #[.int .i64 (frame * 4096 + off), .int .i64 0]) ∧ w2 = w' := by
      have := H2
      rw [show walkV 12288 (pokes 12288 [⟨1024, 8193⟩, ⟨2048 + a, frame * 4096 + 7⟩, ⟨2048 + b, frame * 4096 + 3⟩] fun _ => 0) 2147483649 (b * 4096 + off) 1 false = (frame * 4096 + off, 0) from L2] at this
      exact this
    have H3' : Calls Try.prog 30 #[.iface 23 (.pointer (some ⟨a', 0, none⟩)), .int .i64 2147483649, .int .i64 (b * 4096 + off), .int .i64 2, .bool false] w2 fun e w' => e = .returned (.tuple #[.int .i64 0, .int .i64 7]) ∧ w2 = w' := by
      have := H3
      rw [show walkV 12288 (pokes 12288 [⟨1024, 8193⟩, ⟨2048 + a, frame * 4096 + 7⟩, ⟨2048 + b, frame * 4096 + 3⟩] fun _ => 0) 2147483649 (b * 4096 + off) 2 false = (0, 7) from L3] at this
      exact this
    replace L4 := Lib.hid L4
    clear H1 H2 H3 L1 L2 L3 M2 R2 HC qe
    go_wp2_with fail
    refine H1'.mono ?_
    rintro e w3 ⟨rfl, rfl⟩
    go_wp2_with fail
    refine H2'.mono ?_
    rintro e w3 ⟨rfl, rfl⟩
    go_wp2_with fail
    refine H3'.mono ?_
    rintro e w3 ⟨rfl, rfl⟩
    clear H1' H2' H3'
    go_wp2_with fail
    refine HST.mono ?_
    rintro e w3 ⟨rfl, M3, C3⟩
    have H4 := walk_any M3 2147483649 (a * 4096 + off) 2 false
    have H4' : Calls Try.prog 30 #[.iface 23 (.pointer (some ⟨a', 0, none⟩)), .int .i64 2147483649, .int .i64 (a * 4096 + off), .int .i64 2, .bool false] w3 fun e w' => e = .returned (.tuple #[.int .i64 0, .int .i64 7]) ∧ w3 = w' := by
      have := H4
      rw [show walkV 12288 (stV 12288 (pokes 12288 [⟨1024, 8193⟩, ⟨2048 + a, frame * 4096 + 7⟩, ⟨2048 + b, frame * 4096 + 3⟩] fun _ => 0) (4 * (2048 + a)) 4 0) 2147483649 (a * 4096 + off) 2 false = (0, 7) from L4.out] at this
      exact this
    have hb1 : w1.heap.size ≤ b' := by simp at hb; omega
    clear H4 HST M3
    go_wp2_with fail
    refine H4'.mono ?_
    rintro e w4 ⟨rfl, rfl⟩
    clear H4'
    go_wp2_with fail
    go_ret
    exact ⟨rfl, B1.trans ((C2'.trans' C3 (fun i hi e => by omega)).below_of hz (fun _ h => h.elim))⟩
  · by_cases hq : a = b
    · have hqb : (a == b) = true := beq_iff_eq.2 hq
      go_enter Try.func10, Try.ntmps10
      go_wp2_with fail
      refine (alive5 _).mono ?_
      rintro e w1 ⟨rfl, B1⟩
      go_upto_if 59 with fail
      all_goals first
        | (exfalso; omega)
        | (go_wp2_with fail
           go_ret
           exact ⟨rfl, B1⟩)
    · have hqb : (a == b) = false := beq_eq_false_iff_ne.2 hq
      go_enter Try.func10, Try.ntmps10
      go_wp2_with fail
      refine (alive5 _).mono ?_
      rintro e w1 ⟨rfl, B1⟩
      go_upto_if 59 with fail
      all_goals first
        | (exfalso; omega)
        | (go_wp2_with fail
           go_ret
           exact ⟨rfl, B1⟩)

set_option maxRecDepth 100000 in
theorem walkTwo_walk : LawWalk 10 Try.f10 := by
  intro H enc W base args ds p hval hA
  rw [Try.params10] at hA hval
  obtain ⟨largs⟩ := args
  obtain ⟨v0, l0, d0, e0, p0, q0, rfl, rfl, rfl, h0, hA0⟩ := trodAll_cons hA
  obtain ⟨v1, l1, d1, e1, p1, q1, rfl, rfl, rfl, h1, hA1⟩ := trodAll_cons hA0
  obtain ⟨v2, l2, d2, e2, p2, q2, rfl, rfl, rfl, h2, hA2⟩ := trodAll_cons hA1
  obtain ⟨v3, l3, d3, e3, p3, q3, rfl, rfl, rfl, h3, hA3⟩ := trodAll_cons hA2
  obtain ⟨rfl, rfl, rfl⟩ := trodAll_nil hA3
  obtain ⟨a0, rfl, rfl, rfl, w0⟩ := open_int Try.underlying3 (hval 0 3 v0 rfl rfl) h0
  obtain ⟨a1, rfl, rfl, rfl, w1⟩ := open_int Try.underlying3 (hval 1 3 v1 rfl rfl) h1
  obtain ⟨a2, rfl, rfl, rfl, w2⟩ := open_int Try.underlying3 (hval 2 3 v2 rfl rfl) h2
  obtain ⟨a3, rfl, rfl, rfl, w3⟩ := open_int Try.underlying3 (hval 3 3 v3 rfl rfl) h3
  exact walkTwo_any a0 a1 a2 a3 W

set_option maxRecDepth 100000 in
theorem walkTwo_lifted (os : Os) (started : os.Started) (H : Type) (enc : TypeId × Value → H) :
    ReturnsInHanded {} Try.checked os 10 .any (Rows.walkTwoSpec.pre6 enc Try.prog Try.f10 Rows.walkTwoRow.domain false) (Rows.walkTwoSpec.post enc Try.prog Try.f10 false true false false) :=
  law_lifted (s := Rows.walkTwoSpec) Try.func10 (by kernel_rfl) rfl (by kernel_rfl) (by kernel_rfl)
    (fun H ds h => by
      match ds, h with
      | [d0, d1, d2, d3], _ => rfl)
    walkTwo_walk os started H enc
    (ChangeSpec.witness6 (enc := enc) (C := Try.checked) false ⟨#[], #[.int .i64 0, .int .i64 0, .int .i64 0, .int .i64 0], []⟩ 8 (by kernel_rfl) (by kernel_rfl) (by kernel_rfl) (by kernel_rfl))

set_option maxRecDepth 100000 in
/-- THE STATEMENT. -/
theorem walkTwo_holds : Rows.WalkTwoSaid :=
  OpenClaim.holds_of_wide 10 Try.f10 rfl rfl rfl rfl rfl rfl rfl ⟨rfl, rfl, rfl, rfl, rfl⟩ rfl rfl rfl rfl rfl (by kernel_rfl) Try.func10 (by kernel_rfl)
    (of_decide_eq_true (by kernel_rfl)) (by unfold Func.isWrapper; first | (rw [if_pos (by decide +kernel)]; kernel_rfl) | (rw [if_neg (by decide +kernel)]; exact ⟨rfl, rfl⟩))
    (fun os started H enc _ => walkTwo_lifted os started H enc)
#print axioms walkTwo_holds
end Go.Proofs.Ytmkhpahkcicfnaa

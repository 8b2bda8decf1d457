/- WalkFar: a table that is not in the memory is a fault of the bus, one that is not valid a fault of the page. No condition. -/
import Derived.Test.YtmkhpahkcicfnaaWalkPlain2
import Derived.Test.YtmkhpahkcicfnaaRow
namespace Go.Proofs.Ytmkhpahkcicfnaa
open Go.ChangeShapes Go.WideShapes Go.ChangeAt Go.RowKit


set_option maxRecDepth 100000 in
set_option maxHeartbeats 2000000 in
theorem walkFar_any (pages : Int) (root : Int) (next : Int) (vpn : Int) (kind : Int) (w : World) :
    Calls Try.prog 13 #[.int .i64 pages, .int .i64 root, .int .i64 next, .int .i64 vpn, .int .i64 kind] w fun e w' => e = .returned (.bool true) ∧ Below w.heap.size w w' := by
  by_cases hin : 2 ≤ pages ∧ pages ≤ 32 ∧ 0 ≤ root ∧ root ≤ 64 ∧ 0 ≤ next ∧ next ≤ 64 ∧ 0 ≤ vpn ∧ vpn ≤ 1023 ∧ 0 ≤ kind ∧ kind ≤ 2 ∧ next ≠ root
  · have q0 : decide (pages < 2) = false := decide_eq_false (by omega)
    have q1 : decide (32 < pages) = false := decide_eq_false (by omega)
    have q2 : decide (root < 0) = false := decide_eq_false (by omega)
    have q3 : decide (64 < root) = false := decide_eq_false (by omega)
    have q4 : decide (next < 0) = false := decide_eq_false (by omega)
    have q5 : decide (64 < next) = false := decide_eq_false (by omega)
    have q6 : decide (vpn < 0) = false := decide_eq_false (by omega)
    have q7 : decide (1023 < vpn) = false := decide_eq_false (by omega)
    have q8 : decide (kind < 0) = false := decide_eq_false (by omega)
    have q9 : decide (2 < kind) = false := decide_eq_false (by omega)
    go_enter Try.func13, Try.ntmps13
    go_wp2_with fail
    refine (alive5 _).mono ?_
    rintro e w1 ⟨rfl, B1⟩
    have hz := B1.size
    have qe : (next == root) = false := beq_eq_false_iff_ne.2 hin.2.2.2.2.2.2.2.2.2.2
    have eo : bits .or .i64 2147483648 root = 2147483648 + root := or_on root (by omega) (by omega)
    have e1 : bits .or .i64 (next * 4096) 1 = next * 4096 + 1 := or12 next 1 (by omega) (by omega) (by omega) (by omega)
    have HL := far_law pages root next vpn kind (by omega) (by omega) (by omega) (by omega) hin.2.2.2.2.2.2.2.2.2.2
    have HB := Box.new w1 48 #[.int .i64 (root * 1024), .int .i64 (next * 4096 + 1)]
    obtain ⟨n, hn⟩ : ∃ n, pgN pages = n := ⟨_, rfl⟩
    have HC := both_at pages (m := 1) [⟨root * 1024, next * 4096 + 1⟩] (w1.alloc (.cells #[.int .i64 (root * 1024), .int .i64 (next * 4096 + 1)] 48)) HB rfl rfl (by decide) hn
    rw [hn] at HL
    have HX : Hid (pages ≤ root ∨ pages ≤ next → needFault kind = 5 + kind ∨ True) := fun _ => .inr trivial
    have HF : Hid (needFault kind = 5 + kind) := by show _ = _; have := need_cases kind; omega
    clear HB hn qe
    have qe : (next == root) = false := beq_eq_false_iff_ne.2 hin.2.2.2.2.2.2.2.2.2.2
    go_wp2_with fail
    refine HC.mono ?_
    rintro e w2 ⟨a, b, c, d, rfl, M2, R2, C2, ha, hb, hc, hd⟩
    have HM := map_any M2 (2147483648 + root) vpn
    have HW := walk_any M2 (2147483648 + root) (vpn * 4096) kind false
    rw [HL.1] at HW
    obtain ⟨r, hr⟩ : ∃ r, mapV n (pokes n [⟨root * 1024, next * 4096 + 1⟩] fun _ => 0) (2147483648 + root) vpn = r := ⟨_, rfl⟩
    rw [hr] at HM
    obtain ⟨r1, r2⟩ := r
    have h2 : r2 = false := by have := HL.2; rw [hr] at this; exact this
    subst h2
    have C2' := ((Chg.refl w1 (fun _ => False)).alloc _).trans C2
    clear M2 R2 hr HL HC HX
    by_cases t1 : pages ≤ root
    · rw [if_pos (.inl t1)] at HW
      have b1 : decide (pages ≤ root) = true := decide_eq_true t1
      go_wp2_with fail
      refine HW.mono ?_
      rintro e w3 ⟨rfl, rfl⟩
      go_wp2_with fail
      refine HM.mono ?_
      rintro e w3 ⟨rfl, rfl⟩
      go_wp2_with fail
      go_ret
      exact ⟨rfl, B1.trans (C2'.below_of hz (fun _ h => h.elim))⟩
    have b1 : decide (pages ≤ root) = false := decide_eq_false t1
    by_cases t2 : pages ≤ next
    · rw [if_pos (.inr t2)] at HW
      have b2 : decide (pages ≤ next) = true := decide_eq_true t2
      go_wp2_with fail
      refine HW.mono ?_
      rintro e w3 ⟨rfl, rfl⟩
      go_wp2_with fail
      refine HM.mono ?_
      rintro e w3 ⟨rfl, rfl⟩
      go_wp2_with fail
      go_ret
      exact ⟨rfl, B1.trans (C2'.below_of hz (fun _ h => h.elim))⟩
    have b2 : decide (pages ≤ next) = false := decide_eq_false t2
    rw [if_neg (by omega), HF.out] at HW
    go_wp2_with fail
    refine HW.mono ?_
    rintro e w3 ⟨rfl, rfl⟩
    go_wp2_with fail
    refine HM.mono ?_
    rintro e w3 ⟨rfl, rfl⟩
    go_wp2_with fail
    go_ret
    exact ⟨rfl, B1.trans (C2'.below_of hz (fun _ h => h.elim))⟩
  · by_cases hq : next = root
    · have hqb : (next == root) = true := beq_iff_eq.2 hq
      go_enter Try.func13, Try.ntmps13
      go_wp2_with fail
      refine (alive5 _).mono ?_
      rintro e w1 ⟨rfl, B1⟩
      go_upto_if 66 with fail
      all_goals first
        | (exfalso; omega)
        | (go_wp2_with fail
           go_ret
           exact ⟨rfl, B1⟩)
    · have hqb : (next == root) = false := beq_eq_false_iff_ne.2 hq
      go_enter Try.func13, Try.ntmps13
      go_wp2_with fail
      refine (alive5 _).mono ?_
      rintro e w1 ⟨rfl, B1⟩
      go_upto_if 66 with fail
      all_goals first
        | (exfalso; omega)
        | (go_wp2_with fail
           go_ret
           exact ⟨rfl, B1⟩)

set_option maxRecDepth 100000 in
theorem walkFar_walk : LawWalk 13 Try.f13 := by
  intro H enc W base args ds p hval hA
  rw [Try.params13] at hA hval
  obtain ⟨largs⟩ := args
  obtain ⟨v0, l0, d0, e0, p0, q0, rfl, rfl, rfl, h0, hA0⟩ := trodAll_cons hA
  obtain ⟨v1, l1, d1, e1, p1, q1, rfl, rfl, rfl, h1, hA1⟩ := trodAll_cons hA0
  obtain ⟨v2, l2, d2, e2, p2, q2, rfl, rfl, rfl, h2, hA2⟩ := trodAll_cons hA1
  obtain ⟨v3, l3, d3, e3, p3, q3, rfl, rfl, rfl, h3, hA3⟩ := trodAll_cons hA2
  obtain ⟨v4, l4, d4, e4, p4, q4, rfl, rfl, rfl, h4, hA4⟩ := trodAll_cons hA3
  obtain ⟨rfl, rfl, rfl⟩ := trodAll_nil hA4
  obtain ⟨a0, rfl, rfl, rfl, w0⟩ := open_int Try.underlying3 (hval 0 3 v0 rfl rfl) h0
  obtain ⟨a1, rfl, rfl, rfl, w1⟩ := open_int Try.underlying3 (hval 1 3 v1 rfl rfl) h1
  obtain ⟨a2, rfl, rfl, rfl, w2⟩ := open_int Try.underlying3 (hval 2 3 v2 rfl rfl) h2
  obtain ⟨a3, rfl, rfl, rfl, w3⟩ := open_int Try.underlying3 (hval 3 3 v3 rfl rfl) h3
  obtain ⟨a4, rfl, rfl, rfl, w4⟩ := open_int Try.underlying3 (hval 4 3 v4 rfl rfl) h4
  exact walkFar_any a0 a1 a2 a3 a4 W

set_option maxRecDepth 100000 in
theorem walkFar_lifted (os : Os) (started : os.Started) (H : Type) (enc : TypeId × Value → H) :
    ReturnsInHanded {} Try.checked os 13 .any (Rows.walkFarSpec.pre6 enc Try.prog Try.f13 Rows.walkFarRow.domain false) (Rows.walkFarSpec.post enc Try.prog Try.f13 false true false false) :=
  law_lifted (s := Rows.walkFarSpec) Try.func13 (by kernel_rfl) rfl (by kernel_rfl) (by kernel_rfl)
    (fun H ds h => by
      match ds, h with
      | [d0, d1, d2, d3, d4], _ => rfl)
    walkFar_walk os started H enc
    (ChangeSpec.witness6 (enc := enc) (C := Try.checked) false ⟨#[], #[.int .i64 0, .int .i64 0, .int .i64 0, .int .i64 0, .int .i64 0], []⟩ 8 (by kernel_rfl) (by kernel_rfl) (by kernel_rfl) (by kernel_rfl))

set_option maxRecDepth 100000 in
/-- THE STATEMENT. -/
theorem walkFar_holds : Rows.WalkFarSaid :=
  OpenClaim.holds_of_wide 13 Try.f13 rfl rfl rfl rfl rfl rfl rfl ⟨rfl, rfl, rfl, rfl, rfl⟩ rfl rfl rfl rfl rfl (by kernel_rfl) Try.func13 (by kernel_rfl)
    (of_decide_eq_true (by kernel_rfl)) (by unfold Func.isWrapper; first | (rw [if_pos (by decide +kernel)]; kernel_rfl) | (rw [if_neg (by decide +kernel)]; exact ⟨rfl, rfl⟩))
    (fun os started H enc _ => walkFar_lifted os started H enc)
#print axioms walkFar_holds
end Go.Proofs.Ytmkhpahkcicfnaa

/- WalkEntry: what is walked is the entry that Map tells, with its rights. No condition. -/
import Derived.Test.YtmkhpahkcicfnaaPokeArg
import Derived.Test.YtmkhpahkcicfnaaOrOn
import Derived.Test.YtmkhpahkcicfnaaRMap
import Derived.Test.YtmkhpahkcicfnaaRow
namespace Go.Proofs.Ytmkhpahkcicfnaa
open Go.ChangeShapes Go.WideShapes Go.ChangeAt Go.RowKit


set_option maxRecDepth 100000 in
set_option maxHeartbeats 2000000 in
theorem walkEntry_any (pages : Int) {ao : Option Addr} {cap : Nat} (l : List PokeD) (root : Int) (vpn : Int) (kind : Int) (w : World) (hl : Lst w ao l.length cap (l.flatMap pokeCells) 2) (hcap : ∀ ad, ao = some ad → 0 < l.length → ad.block < w.heap.size) :
    Calls Try.prog 14 #[.int .i64 pages, .slice ao l.length cap, .int .i64 root, .int .i64 vpn, .int .i64 kind] w fun e w' => e = .returned (.bool true) ∧ Below w.heap.size w w' := by
  have hm1 := hl.mx
  have hm2 := hl.le
  unfold maxLen at hm1
  by_cases hin : pages ≤ 32 ∧ l.length ≤ 200 ∧ 0 ≤ vpn ∧ vpn ≤ 1048575 ∧ 0 ≤ root ∧ root ≤ 1048575 ∧ 0 ≤ kind ∧ kind ≤ 2
  · have q0 : decide (32 < pages) = false := decide_eq_false (by omega)
    have q1 : decide ((200 : Int) < l.length) = false := decide_eq_false (by omega)
    have q2 : decide (vpn < 0) = false := decide_eq_false (by omega)
    have q3 : decide (1048575 < vpn) = false := decide_eq_false (by omega)
    have q4 : decide (root < 0) = false := decide_eq_false (by omega)
    have q5 : decide (1048575 < root) = false := decide_eq_false (by omega)
    have q6 : decide (kind < 0) = false := decide_eq_false (by omega)
    have q7 : decide (2 < kind) = false := decide_eq_false (by omega)
    go_enter Try.func14, Try.ntmps14
    go_wp2_with fail
    refine (alive5 _).mono ?_
    rintro e w1 ⟨rfl, B1⟩
    have hz := B1.size
    have C1 := Chg.of_below B1 (fun _ => False)
    have hl1 := hl.chg C1 (fun _ _ h => h)
    go_wp2_with fail
    refine (both_any pages l _ hl1 (fun ad e h => Nat.lt_of_lt_of_le (hcap ad e h) hz)).mono ?_
    rintro e w2 ⟨a, b, c, d, rfl, M2, R2, C2, ha, hb, hc, hd⟩
    have eo : bits .or .i64 2147483648 root = 2147483648 + root := or_on root (by omega) (by omega)
    have HL := law_entry M2.rng (2147483648 + root) vpn kind (onB_on root (by omega) (by omega)) (by omega) (by omega)
    have HM := map_any M2 (2147483648 + root) vpn
    have HB := walk_any M2 (2147483648 + root) (vpn * 4096) kind false
    have HRM := fun (w' : World) (c : Chg w2 w' (fun _ => False)) => rmap_any (R2.chg c (fun h => h) (fun h => h)) (2147483648 + root) vpn
    obtain ⟨r, hr⟩ : ∃ r, mapV (pgN pages) (pokes (pgN pages) l fun _ => 0) (2147483648 + root) vpn = r := ⟨_, rfl⟩
    obtain ⟨s, hs⟩ : ∃ s, walkV (pgN pages) (pokes (pgN pages) l fun _ => 0) (2147483648 + root) (vpn * 4096) kind false = s := ⟨_, rfl⟩
    rw [hr] at HM HL HRM
    rw [hs] at HB HL
    obtain ⟨r1, r2⟩ := r
    obtain ⟨s1, s2⟩ := s
    have r0 : 0 ≤ r1 := HL.rng.1
    have rr : r1 < 4294967296 := HL.rng.2
    replace HRM := Lib.hid HRM
    clear hr hs M2 R2
    go_wp2_with fail
    refine HM.mono ?_
    rintro e w3 ⟨rfl, rfl⟩
    go_wp2_with fail
    refine HB.mono ?_
    rintro e w3 ⟨rfl, rfl⟩
    clear HM HB
    cases r2
    · have b0 : (s2 != 0) = true := bne_iff_ne.2 (HL.no rfl)
      clear HL HRM
      go_wp2_with fail
      go_ret
      exact ⟨rfl, B1.trans (C2.below_of hz (fun _ h => h.elim))⟩
    have HMAY := Lib.hid (HL.may rfl)
    have HMAN := Lib.hid (HL.mayn rfl)
    clear HL
    have hu : (bits .and .i64 r1 16 == 0) = decide (r1 / 16 % 2 = 0) := by rw [bit4, Bool.eq_iff_iff]; simp; omega
    obtain ⟨x2, hx2⟩ : ∃ x2, decide (r1 / 16 % 2 = 0) = x2 := ⟨_, rfl⟩
    obtain ⟨x1, hx1⟩ : ∃ x1, hasB r1 kind = x1 := ⟨_, rfl⟩
    rw [hx2] at hu
    have hk3 : kind = 0 ∨ kind = 1 ∨ kind = 2 := by omega
    clear hin q0 q1 q2 q3 q4 q5 q6 q7
    rcases hk3 with rfl | rfl | rfl
    · have hb : (bits .and .i64 r1 8 != 0) = x1 := by rw [← hx1, bit3, Bool.eq_iff_iff]; simp [hasB]; omega
      cases x1
      case false =>
        have b1 : (s2 == 0) = false := beq_eq_false_iff_ne.2 (HMAN.out (fun h => by rw [hx1] at h; exact Bool.false_ne_true h.1))
        clear hx1 hx2 HMAY HMAN
        go_wp2_with fail
        refine (HRM.out _ ((Chg.refl _ _).alloc _)).mono ?_
        rintro e w3 ⟨rfl, rfl⟩
        clear HRM
        go_wp2_with fail
        go_ret
        exact ⟨rfl, B1.trans ((C2.alloc _).below_of hz (fun _ h => h.elim))⟩
      case true =>
        cases x2
        case false =>
          have b1 : (s2 == 0) = false := beq_eq_false_iff_ne.2 (HMAN.out (fun h => by rcases h.2 with h | h <;> (have h3 := of_decide_eq_false hx2; omega)))
          clear hx1 hx2 HMAY HMAN
          go_wp2_with fail
          refine (HRM.out _ ((Chg.refl _ _).alloc _)).mono ?_
          rintro e w3 ⟨rfl, rfl⟩
          clear HRM
          go_wp2_with fail
          go_ret
          exact ⟨rfl, B1.trans ((C2.alloc _).below_of hz (fun _ h => h.elim))⟩
        case true =>
          have hm := HMAY.out ⟨hx1, .inr (of_decide_eq_true hx2)⟩
          have b1 : (s2 == 0) = true := beq_iff_eq.2 hm.1
          have b2 : (s1 == r1 / 4096 * 4096) = true := beq_iff_eq.2 hm.2
          clear hm
          clear hx1 hx2 HMAY HMAN
          go_wp2_with fail
          refine (HRM.out _ ((Chg.refl _ _).alloc _)).mono ?_
          rintro e w3 ⟨rfl, rfl⟩
          clear HRM
          go_wp2_with fail
          go_ret
          exact ⟨rfl, B1.trans ((C2.alloc _).below_of hz (fun _ h => h.elim))⟩
    · have hb : (bits .and .i64 r1 2 != 0) = x1 := by rw [← hx1, bit1, Bool.eq_iff_iff]; simp [hasB]; omega
      cases x1
      case false =>
        have b1 : (s2 == 0) = false := beq_eq_false_iff_ne.2 (HMAN.out (fun h => by rw [hx1] at h; exact Bool.false_ne_true h.1))
        clear hx1 hx2 HMAY HMAN
        go_wp2_with fail
        refine (HRM.out _ ((Chg.refl _ _).alloc _)).mono ?_
        rintro e w3 ⟨rfl, rfl⟩
        clear HRM
        go_wp2_with fail
        go_ret
        exact ⟨rfl, B1.trans ((C2.alloc _).below_of hz (fun _ h => h.elim))⟩
      case true =>
        have hm := HMAY.out ⟨hx1, .inl (by decide)⟩
        have b1 : (s2 == 0) = true := beq_iff_eq.2 hm.1
        have b2 : (s1 == r1 / 4096 * 4096) = true := beq_iff_eq.2 hm.2
        clear hm
        clear hx1 hx2 HMAY HMAN
        go_wp2_with fail
        refine (HRM.out _ ((Chg.refl _ _).alloc _)).mono ?_
        rintro e w3 ⟨rfl, rfl⟩
        clear HRM
        go_wp2_with fail
        go_ret
        exact ⟨rfl, B1.trans ((C2.alloc _).below_of hz (fun _ h => h.elim))⟩
    · have hb : (bits .and .i64 r1 4 != 0) = x1 := by rw [← hx1, bit2, Bool.eq_iff_iff]; simp [hasB]; omega
      cases x1
      case false =>
        have b1 : (s2 == 0) = false := beq_eq_false_iff_ne.2 (HMAN.out (fun h => by rw [hx1] at h; exact Bool.false_ne_true h.1))
        clear hx1 hx2 HMAY HMAN
        go_wp2_with fail
        refine (HRM.out _ ((Chg.refl _ _).alloc _)).mono ?_
        rintro e w3 ⟨rfl, rfl⟩
        clear HRM
        go_wp2_with fail
        go_ret
        exact ⟨rfl, B1.trans ((C2.alloc _).below_of hz (fun _ h => h.elim))⟩
      case true =>
        have hm := HMAY.out ⟨hx1, .inl (by decide)⟩
        have b1 : (s2 == 0) = true := beq_iff_eq.2 hm.1
        have b2 : (s1 == r1 / 4096 * 4096) = true := beq_iff_eq.2 hm.2
        clear hm
        clear hx1 hx2 HMAY HMAN
        go_wp2_with fail
        refine (HRM.out _ ((Chg.refl _ _).alloc _)).mono ?_
        rintro e w3 ⟨rfl, rfl⟩
        clear HRM
        go_wp2_with fail
        go_ret
        exact ⟨rfl, B1.trans ((C2.alloc _).below_of hz (fun _ h => h.elim))⟩
  · go_enter Try.func14, Try.ntmps14
    go_wp2_with fail
    refine (alive5 _).mono ?_
    rintro e w1 ⟨rfl, B1⟩
    go_upto_if 57 with fail
    all_goals first
      | (exfalso; omega)
      | (go_wp2_with fail
         go_ret
         exact ⟨rfl, B1⟩)

set_option maxRecDepth 100000 in
theorem walkEntry_walk : LawWalk 14 Try.f14 := by
  intro H enc W base args ds p hval hA
  rw [Try.params14] at hA hval
  obtain ⟨largs⟩ := args
  obtain ⟨v0, l0, d0, e0, p0, q0, rfl, rfl, rfl, h0, hA0⟩ := trodAll_cons hA
  obtain ⟨v1, l1, d1, e1, p1, q1, rfl, rfl, rfl, h1, hA1⟩ := trodAll_cons hA0
  obtain ⟨v2, l2, d2, e2, p2, q2, rfl, rfl, rfl, h2, hA2⟩ := trodAll_cons hA1
  obtain ⟨v3, l3, d3, e3, p3, q3, rfl, rfl, rfl, h3, hA3⟩ := trodAll_cons hA2
  obtain ⟨v4, l4, d4, e4, p4, q4, rfl, rfl, rfl, h4, hA4⟩ := trodAll_cons hA3
  obtain ⟨rfl, rfl, rfl⟩ := trodAll_nil hA4
  obtain ⟨a0, rfl, rfl, rfl, w0⟩ := open_int Try.underlying3 (hval 0 3 v0 rfl rfl) h0
  obtain ⟨ao, cap, l, rfl, hl, hb⟩ := open_pokes (hval 1 49 v1 rfl rfl) h1
  obtain ⟨a2, rfl, rfl, rfl, w2⟩ := open_int Try.underlying3 (hval 2 3 v2 rfl rfl) h2
  obtain ⟨a3, rfl, rfl, rfl, w3⟩ := open_int Try.underlying3 (hval 3 3 v3 rfl rfl) h3
  obtain ⟨a4, rfl, rfl, rfl, w4⟩ := open_int Try.underlying3 (hval 4 3 v4 rfl rfl) h4
  exact walkEntry_any a0 l a2 a3 a4 W hl hb

set_option maxRecDepth 100000 in
theorem walkEntry_lifted (os : Os) (started : os.Started) (H : Type) (enc : TypeId × Value → H) :
    ReturnsInHanded {} Try.checked os 14 .any (Rows.walkEntrySpec.pre6 enc Try.prog Try.f14 Rows.walkEntryRow.domain false) (Rows.walkEntrySpec.post enc Try.prog Try.f14 false true false false) :=
  law_lifted (s := Rows.walkEntrySpec) Try.func14 (by kernel_rfl) rfl (by kernel_rfl) (by kernel_rfl)
    (fun H ds h => by
      match ds, h with
      | [d0, d1, d2, d3, d4], _ => rfl)
    walkEntry_walk os started H enc
    (ChangeSpec.witness6 (enc := enc) (C := Try.checked) false ⟨#[], #[.int .i64 0, .slice none 0 0, .int .i64 0, .int .i64 0, .int .i64 0], []⟩ 8 (by kernel_rfl) (by kernel_rfl) (by kernel_rfl) (by kernel_rfl))

set_option maxRecDepth 100000 in
/-- THE STATEMENT. -/
theorem walkEntry_holds : Rows.WalkEntrySaid :=
  OpenClaim.holds_of_wide 14 Try.f14 rfl rfl rfl rfl rfl rfl rfl ⟨rfl, rfl, rfl, rfl, rfl⟩ rfl rfl rfl rfl rfl (by kernel_rfl) Try.func14 (by kernel_rfl)
    (of_decide_eq_true (by kernel_rfl)) (by unfold Func.isWrapper; first | (rw [if_pos (by decide +kernel)]; kernel_rfl) | (rw [if_neg (by decide +kernel)]; exact ⟨rfl, rfl⟩))
    (fun os started H enc _ => walkEntry_lifted os started H enc)
#print axioms walkEntry_holds
end Go.Proofs.Ytmkhpahkcicfnaa

/- WalkUser: what a user may reach a supervisor may reach, too, but for what it would fetch. No condition. -/
import Derived.Test.YtmkhpahkcicfnaaPokeArg
import Derived.Test.YtmkhpahkcicfnaaWalkPlain
import Derived.Test.YtmkhpahkcicfnaaRow
namespace Go.Proofs.Ytmkhpahkcicfnaa
open Go.ChangeShapes Go.WideShapes Go.ChangeAt Go.RowKit


set_option maxRecDepth 100000 in
set_option maxHeartbeats 2000000 in
theorem walkUser_any (pages : Int) {ao : Option Addr} {cap : Nat} (l : List PokeD) (ptbr : Int) (va : Int) (kind : Int) (w : World) (hl : Lst w ao l.length cap (l.flatMap pokeCells) 2) (hcap : ∀ ad, ao = some ad → 0 < l.length → ad.block < w.heap.size) :
    Calls Try.prog 9 #[.int .i64 pages, .slice ao l.length cap, .int .i64 ptbr, .int .i64 va, .int .i64 kind] w fun e w' => e = .returned (.bool true) ∧ Below w.heap.size w w' := by
  have hm1 := hl.mx
  have hm2 := hl.le
  unfold maxLen at hm1
  by_cases hin : pages ≤ 32 ∧ l.length ≤ 200
  · have q0 : decide (32 < pages) = false := decide_eq_false (by omega)
    have q1 : decide ((200 : Int) < l.length) = false := decide_eq_false (by omega)
    go_enter Try.func9, Try.ntmps9
    go_wp2_with fail
    refine (alive5 _).mono ?_
    rintro e w1 ⟨rfl, B1⟩
    have hz := B1.size
    have C1 := Chg.of_below B1 (fun _ => False)
    have hl1 := hl.chg C1 (fun _ _ h => h)
    go_wp2_with fail
    refine (both_any pages l _ hl1 (fun ad e h => Nat.lt_of_lt_of_le (hcap ad e h) hz)).mono ?_
    rintro e w2 ⟨a, b, c, d, rfl, M2, R2, C2, ha, hb, hc, hd⟩
    have HL := law_user (pgN pages) (pokes (pgN pages) l fun _ => 0) ptbr va kind
    have HA := walk_any M2 ptbr va kind true
    have HB := walk_any M2 ptbr va kind false
    obtain ⟨r, hr⟩ : ∃ r, walkV (pgN pages) (pokes (pgN pages) l fun _ => 0) ptbr va kind true = r := ⟨_, rfl⟩
    obtain ⟨s, hs⟩ : ∃ s, walkV (pgN pages) (pokes (pgN pages) l fun _ => 0) ptbr va kind false = s := ⟨_, rfl⟩
    rw [hr] at HA HL
    rw [hs] at HB HL
    obtain ⟨r1, r2⟩ := r
    obtain ⟨s1, s2⟩ := s
    have e3 : bits .and .i64 kind 3 = kind % 4 := and3 kind
    clear hr hs M2 R2
    go_wp2_with fail
    refine HA.mono ?_
    rintro e w3 ⟨rfl, rfl⟩
    go_wp2_with fail
    refine HB.mono ?_
    rintro e w3 ⟨rfl, rfl⟩
    clear HA HB
    by_cases c0 : r2 = 0
    · have b0 : (r2 != 0) = false := by rw [bne_eq_false_iff_eq]; exact c0
      by_cases c1 : kind % 4 = 0
      · have b1 : (kind % 4 == 0) = true := beq_iff_eq.2 c1
        clear HL c0 c1
        go_wp2_with fail
        go_ret
        exact ⟨rfl, B1.trans (C2.below_of hz (fun _ h => h.elim))⟩
      · have b1 : (kind % 4 == 0) = false := beq_eq_false_iff_ne.2 c1
        have HL2 : s2 = 0 ∧ r1 = s1 := (HL.resolve_left (fun h => h c0)).resolve_left c1
        have b2 : (s2 == 0) = true := beq_iff_eq.2 HL2.1
        have b3 : (r1 == s1) = true := beq_iff_eq.2 HL2.2
        clear HL HL2 c0 c1
        go_wp2_with fail
        go_ret
        exact ⟨rfl, B1.trans (C2.below_of hz (fun _ h => h.elim))⟩
    · have b0 : (r2 != 0) = true := bne_iff_ne.2 c0
      clear HL c0
      go_wp2_with fail
      go_ret
      exact ⟨rfl, B1.trans (C2.below_of hz (fun _ h => h.elim))⟩
  · go_enter Try.func9, Try.ntmps9
    go_wp2_with fail
    refine (alive5 _).mono ?_
    rintro e w1 ⟨rfl, B1⟩
    go_upto_if 29 with fail
    all_goals first
      | (exfalso; omega)
      | (go_wp2_with fail
         go_ret
         exact ⟨rfl, B1⟩)

set_option maxRecDepth 100000 in
theorem walkUser_walk : LawWalk 9 Try.f9 := by
  intro H enc W base args ds p hval hA
  rw [Try.params9] at hA hval
  obtain ⟨largs⟩ := args
  obtain ⟨v0, l0, d0, e0, p0, q0, rfl, rfl, rfl, h0, hA0⟩ := trodAll_cons hA
  obtain ⟨v1, l1, d1, e1, p1, q1, rfl, rfl, rfl, h1, hA1⟩ := trodAll_cons hA0
  obtain ⟨v2, l2, d2, e2, p2, q2, rfl, rfl, rfl, h2, hA2⟩ := trodAll_cons hA1
  obtain ⟨v3, l3, d3, e3, p3, q3, rfl, rfl, rfl, h3, hA3⟩ := trodAll_cons hA2
  obtain ⟨v4, l4, d4, e4, p4, q4, rfl, rfl, rfl, h4, hA4⟩ := trodAll_cons hA3
  obtain ⟨rfl, rfl, rfl⟩ := trodAll_nil hA4
  obtain ⟨a0, rfl, rfl, rfl, w0⟩ := open_int Try.underlying3 (hval 0 3 v0 rfl rfl) h0
  obtain ⟨ao, cap, l, rfl, hl, hb⟩ := open_pokes (hval 1 49 v1 rfl rfl) h1
  obtain ⟨a2, rfl, rfl, rfl, w2⟩ := open_int Try.underlying3 (hval 2 3 v2 rfl rfl) h2
  obtain ⟨a3, rfl, rfl, rfl, w3⟩ := open_int Try.underlying3 (hval 3 3 v3 rfl rfl) h3
  obtain ⟨a4, rfl, rfl, rfl, w4⟩ := open_int Try.underlying3 (hval 4 3 v4 rfl rfl) h4
  exact walkUser_any a0 l a2 a3 a4 W hl hb

set_option maxRecDepth 100000 in
theorem walkUser_lifted (os : Os) (started : os.Started) (H : Type) (enc : TypeId × Value → H) :
    ReturnsInHanded {} Try.checked os 9 .any (Rows.walkUserSpec.pre6 enc Try.prog Try.f9 Rows.walkUserRow.domain false) (Rows.walkUserSpec.post enc Try.prog Try.f9 false true false false) :=
  law_lifted (s := Rows.walkUserSpec) Try.func9 (by kernel_rfl) rfl (by kernel_rfl) (by kernel_rfl)
    (fun H ds h => by
      match ds, h with
      | [d0, d1, d2, d3, d4], _ => rfl)
    walkUser_walk os started H enc
    (ChangeSpec.witness6 (enc := enc) (C := Try.checked) false ⟨#[], #[.int .i64 0, .slice none 0 0, .int .i64 0, .int .i64 0, .int .i64 0], []⟩ 8 (by kernel_rfl) (by kernel_rfl) (by kernel_rfl) (by kernel_rfl))

set_option maxRecDepth 100000 in
/-- THE STATEMENT. -/
theorem walkUser_holds : Rows.WalkUserSaid :=
  OpenClaim.holds_of_wide 9 Try.f9 rfl rfl rfl rfl rfl rfl rfl ⟨rfl, rfl, rfl, rfl, rfl⟩ rfl rfl rfl rfl rfl (by kernel_rfl) Try.func9 (by kernel_rfl)
    (of_decide_eq_true (by kernel_rfl)) (by unfold Func.isWrapper; first | (rw [if_pos (by decide +kernel)]; kernel_rfl) | (rw [if_neg (by decide +kernel)]; exact ⟨rfl, rfl⟩))
    (fun os started H enc _ => walkUser_lifted os started H enc)
#print axioms walkUser_holds
end Go.Proofs.Ytmkhpahkcicfnaa

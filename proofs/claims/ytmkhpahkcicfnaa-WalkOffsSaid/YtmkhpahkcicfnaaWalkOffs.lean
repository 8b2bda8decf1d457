/- WalkOffs: all addresses of a page lead to one frame, each at its place within it, or all to one fault. No condition. -/
import Derived.Test.YtmkhpahkcicfnaaPokeArg
import Derived.Test.YtmkhpahkcicfnaaWalkPlain
import Derived.Test.YtmkhpahkcicfnaaRow
namespace Go.Proofs.Ytmkhpahkcicfnaa
open Go.ChangeShapes Go.WideShapes Go.ChangeAt Go.RowKit


set_option maxRecDepth 100000 in
set_option maxHeartbeats 2000000 in
theorem walkOffs_any (pages : Int) {ao : Option Addr} {cap : Nat} (l : List PokeD) (ptbr : Int) (vpn : Int) (x : Int) (y : Int) (kind : Int) (user : Bool) (w : World) (hl : Lst w ao l.length cap (l.flatMap pokeCells) 2) (hcap : ∀ ad, ao = some ad → 0 < l.length → ad.block < w.heap.size) :
    Calls Try.prog 11 #[.int .i64 pages, .slice ao l.length cap, .int .i64 ptbr, .int .i64 vpn, .int .i64 x, .int .i64 y, .int .i64 kind, .bool user] w fun e w' => e = .returned (.bool true) ∧ Below w.heap.size w w' := by
  have hm1 := hl.mx
  have hm2 := hl.le
  unfold maxLen at hm1
  by_cases hin : pages ≤ 32 ∧ l.length ≤ 200 ∧ 0 ≤ vpn ∧ vpn ≤ 1048575
  · have q0 : decide (32 < pages) = false := decide_eq_false (by omega)
    have q1 : decide ((200 : Int) < l.length) = false := decide_eq_false (by omega)
    have q2 : decide (vpn < 0) = false := decide_eq_false (by omega)
    have q3 : decide (1048575 < vpn) = false := decide_eq_false (by omega)
    go_enter Try.func11, Try.ntmps11
    go_wp2_with fail
    refine (alive5 _).mono ?_
    rintro e w1 ⟨rfl, B1⟩
    have hz := B1.size
    have C1 := Chg.of_below B1 (fun _ => False)
    have hl1 := hl.chg C1 (fun _ _ h => h)
    go_wp2_with fail
    refine (both_any pages l _ hl1 (fun ad e h => Nat.lt_of_lt_of_le (hcap ad e h) hz)).mono ?_
    rintro e w2 ⟨a, b, c, d, rfl, M2, R2, C2, ha, hb, hc, hd⟩
    have e3 : bits .and .i64 x 4095 = x % 4096 := and4095 x
    have e4 : bits .and .i64 y 4095 = y % 4096 := and4095 y
    have x0 : 0 ≤ x % 4096 ∧ x % 4096 < 4096 := by omega
    have y0 : 0 ≤ y % 4096 ∧ y % 4096 < 4096 := by omega
    obtain ⟨xa, hxa⟩ : ∃ xa, x % 4096 = xa := ⟨_, rfl⟩
    obtain ⟨ya, hya⟩ : ∃ ya, y % 4096 = ya := ⟨_, rfl⟩
    rw [hxa] at e3 x0
    rw [hya] at e4 y0
    clear hxa hya
    have e5 : bits .or .i64 (vpn * 4096) xa = vpn * 4096 + xa := or12 vpn xa (by omega) (by omega) x0.1 x0.2
    have e6 : bits .or .i64 (vpn * 4096) ya = vpn * 4096 + ya := or12 vpn ya (by omega) (by omega) y0.1 y0.2
    have HL := law_offs M2.rng ptbr vpn xa ya kind user (by omega) (by omega) x0.1 x0.2 y0.1 y0.2
    have HA := walk_any M2 ptbr (vpn * 4096 + xa) kind user
    have HB := walk_any M2 ptbr (vpn * 4096 + ya) kind user
    obtain ⟨r, hr⟩ : ∃ r, walkV (pgN pages) (pokes (pgN pages) l fun _ => 0) ptbr (vpn * 4096 + xa) kind user = r := ⟨_, rfl⟩
    obtain ⟨s, hs⟩ : ∃ s, walkV (pgN pages) (pokes (pgN pages) l fun _ => 0) ptbr (vpn * 4096 + ya) kind user = s := ⟨_, rfl⟩
    rw [hr] at HA HL
    rw [hs] at HB HL
    obtain ⟨r1, r2⟩ := r
    obtain ⟨s1, s2⟩ := s
    obtain rfl : r2 = s2 := HL.same
    clear hr hs M2 R2 x0 y0
    go_wp2_with fail
    refine HA.mono ?_
    rintro e w3 ⟨rfl, rfl⟩
    go_wp2_with fail
    refine HB.mono ?_
    rintro e w3 ⟨rfl, rfl⟩
    clear HA HB
    have e7 : bits .and .i64 r1 4095 = r1 % 4096 := and4095 r1
    have e8 : bits .and .i64 s1 4095 = s1 % 4096 := and4095 s1
    by_cases c0 : r2 = 0
    · obtain ⟨g0, g1, g2, g3, g4⟩ := HL.good c0
      have b0 : (r2 != 0) = false := by rw [bne_eq_false_iff_eq]; exact c0
      have b1 : (r2 == 0) = true := beq_iff_eq.2 c0
      have b2 : (r1 / 4096 == s1 / 4096) = true := beq_iff_eq.2 g2
      have b3 : (r1 % 4096 == xa) = true := beq_iff_eq.2 g3
      have b4 : (s1 % 4096 == ya) = true := beq_iff_eq.2 g4
      clear HL c0 g2 g3 g4
      go_wp2_with fail
      go_ret
      exact ⟨rfl, B1.trans (C2.below_of hz (fun _ h => h.elim))⟩
    · have b0 : (r2 != 0) = true := bne_iff_ne.2 c0
      obtain ⟨g1, g2⟩ := HL.bad c0
      have b1 : (r1 == 0) = true := beq_iff_eq.2 g1
      have b2 : (s1 == 0) = true := beq_iff_eq.2 g2
      clear HL c0 g1 g2
      go_wp2_with fail
      go_ret
      exact ⟨rfl, B1.trans (C2.below_of hz (fun _ h => h.elim))⟩
  · go_enter Try.func11, Try.ntmps11
    go_wp2_with fail
    refine (alive5 _).mono ?_
    rintro e w1 ⟨rfl, B1⟩
    go_upto_if 43 with fail
    all_goals first
      | (exfalso; omega)
      | (go_wp2_with fail
         go_ret
         exact ⟨rfl, B1⟩)

set_option maxRecDepth 100000 in
theorem walkOffs_walk : LawWalk 11 Try.f11 := by
  intro H enc W base args ds p hval hA
  rw [Try.params11] at hA hval
  obtain ⟨largs⟩ := args
  obtain ⟨v0, l0, d0, e0, p0, q0, rfl, rfl, rfl, h0, hA0⟩ := trodAll_cons hA
  obtain ⟨v1, l1, d1, e1, p1, q1, rfl, rfl, rfl, h1, hA1⟩ := trodAll_cons hA0
  obtain ⟨v2, l2, d2, e2, p2, q2, rfl, rfl, rfl, h2, hA2⟩ := trodAll_cons hA1
  obtain ⟨v3, l3, d3, e3, p3, q3, rfl, rfl, rfl, h3, hA3⟩ := trodAll_cons hA2
  obtain ⟨v4, l4, d4, e4, p4, q4, rfl, rfl, rfl, h4, hA4⟩ := trodAll_cons hA3
  obtain ⟨v5, l5, d5, e5, p5, q5, rfl, rfl, rfl, h5, hA5⟩ := trodAll_cons hA4
  obtain ⟨v6, l6, d6, e6, p6, q6, rfl, rfl, rfl, h6, hA6⟩ := trodAll_cons hA5
  obtain ⟨v7, l7, d7, e7, p7, q7, rfl, rfl, rfl, h7, hA7⟩ := trodAll_cons hA6
  obtain ⟨rfl, rfl, rfl⟩ := trodAll_nil hA7
  obtain ⟨a0, rfl, rfl, rfl, w0⟩ := open_int Try.underlying3 (hval 0 3 v0 rfl rfl) h0
  obtain ⟨ao, cap, l, rfl, hl, hb⟩ := open_pokes (hval 1 49 v1 rfl rfl) h1
  obtain ⟨a2, rfl, rfl, rfl, w2⟩ := open_int Try.underlying3 (hval 2 3 v2 rfl rfl) h2
  obtain ⟨a3, rfl, rfl, rfl, w3⟩ := open_int Try.underlying3 (hval 3 3 v3 rfl rfl) h3
  obtain ⟨a4, rfl, rfl, rfl, w4⟩ := open_int Try.underlying3 (hval 4 3 v4 rfl rfl) h4
  obtain ⟨a5, rfl, rfl, rfl, w5⟩ := open_int Try.underlying3 (hval 5 3 v5 rfl rfl) h5
  obtain ⟨a6, rfl, rfl, rfl, w6⟩ := open_int Try.underlying3 (hval 6 3 v6 rfl rfl) h6
  obtain ⟨a7, rfl, rfl, rfl⟩ := open_bool Try.underlying4 (hval 7 4 v7 rfl rfl) h7
  exact walkOffs_any a0 l a2 a3 a4 a5 a6 a7 W hl hb

set_option maxRecDepth 100000 in
theorem walkOffs_lifted (os : Os) (started : os.Started) (H : Type) (enc : TypeId × Value → H) :
    ReturnsInHanded {} Try.checked os 11 .any (Rows.walkOffsSpec.pre6 enc Try.prog Try.f11 Rows.walkOffsRow.domain false) (Rows.walkOffsSpec.post enc Try.prog Try.f11 false true false false) :=
  law_lifted (s := Rows.walkOffsSpec) Try.func11 (by kernel_rfl) rfl (by kernel_rfl) (by kernel_rfl)
    (fun H ds h => by
      match ds, h with
      | [d0, d1, d2, d3, d4, d5, d6, d7], _ => rfl)
    walkOffs_walk os started H enc
    (ChangeSpec.witness6 (enc := enc) (C := Try.checked) false ⟨#[], #[.int .i64 0, .slice none 0 0, .int .i64 0, .int .i64 0, .int .i64 0, .int .i64 0, .int .i64 0, .bool false], []⟩ 8 (by kernel_rfl) (by kernel_rfl) (by kernel_rfl) (by kernel_rfl))

set_option maxRecDepth 100000 in
/-- THE STATEMENT. -/
theorem walkOffs_holds : Rows.WalkOffsSaid :=
  OpenClaim.holds_of_wide 11 Try.f11 rfl rfl rfl rfl rfl rfl rfl ⟨rfl, rfl, rfl, rfl, rfl⟩ rfl rfl rfl rfl rfl (by kernel_rfl) Try.func11 (by kernel_rfl)
    (of_decide_eq_true (by kernel_rfl)) (by unfold Func.isWrapper; first | (rw [if_pos (by decide +kernel)]; kernel_rfl) | (rw [if_neg (by decide +kernel)]; exact ⟨rfl, rfl⟩))
    (fun os started H enc _ => walkOffs_lifted os started H enc)
#print axioms walkOffs_holds
end Go.Proofs.Ytmkhpahkcicfnaa

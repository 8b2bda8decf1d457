/- ShadowMoves: the same guest elsewhere on the host has the same entries, each as far away. No condition. -/
import Derived.Test.YtadcmelbcahecaaShP
namespace Go.Proofs.Ytadcmelbcahecaa
open Go.ChangeShapes Go.WideShapes Go.ChangeAt Go.RowKit

theorem pgN_16 : pgN 16 = 65536 := rfl

set_option maxRecDepth 100000 in
set_option maxHeartbeats 4000000 in
theorem shadowMoves_any (pages : Int) {ao : Option Addr} {cap : Nat} (l : List PokeD) (ptbr first n : Int) (w : World) (hl : Lst w ao l.length cap (l.flatMap pokeCells) 2) (hcap : ∀ ad, ao = some ad → 0 < l.length → ad.block < w.heap.size) :
    Calls Try.prog 8 #[.int .i64 pages, .slice ao l.length cap, .int .i64 ptbr, .int .i64 first, .int .i64 n] w fun e w' => e = .returned (.bool true) ∧ Below w.heap.size w w' := by
  have hm1 := hl.mx
  have hm2 := hl.le
  unfold maxLen at hm1
  by_cases hin : 0 ≤ pages ∧ pages ≤ 16 ∧ l.length ≤ 200 ∧ 0 ≤ first ∧ first ≤ 1000 ∧ 0 ≤ n ∧ n ≤ 2000
  · obtain ⟨h1, h2, h3, h4, h5, h6, h7⟩ := hin
    go_enter Try.func8, Try.ntmps8
    go_wp2_with fail
    refine (alive17 _).mono ?_
    rintro e w1 ⟨rfl, B1⟩
    have C1 := Chg.of_below B1 (fun _ => False)
    have hl1 := hl.chg C1 (fun _ _ h => h)
    have hz := B1.size
    have HB := both_any 16 l w1 hl1 (fun ad e h => Nat.lt_of_lt_of_le (hcap ad e h) hz)
    rw [pgN_16] at HB
    clear hl C1 hl1
    go_wp2_with fail
    refine HB.mono ?_
    rintro e w2 ⟨a, b, c, d, rfl, M2, R2, C2, ha, hb, hc, hd⟩
    obtain ⟨f, hf⟩ : ∃ f, pokes 65536 l (fun _ => 0) = f := ⟨_, rfl⟩
    rw [hf] at M2
    obtain ⟨L0, e0⟩ : ∃ L, entsL 65536 f ptbr pages 0 0 n = L := ⟨_, rfl⟩
    obtain ⟨L1, e1⟩ : ∃ L, entsL 65536 f ptbr pages first 0 n = L := ⟨_, rfl⟩
    have HL := ents_move M2.rng ptbr pages first 0 n h2 h4 h5 L0 L1 e0 e1
    have hl0 : L0.length ≤ 4096 := by rw [← e0]; exact ents_len _ _ _ _ _ _ _
    obtain ⟨hlen, HG⟩ := HL
    have HG := Lib.hid HG
    have B2 := B1.trans (C2.below_of hz (fun _ h => h.elim))
    clear hf HB R2 B1 C2
    go_wp2_with fail
    refine (build_lst M2 ptbr pages 0 0 n L0 e0).mono ?_
    rintro e w3 ⟨ao0, cap0, rfl, E0, C3⟩
    have M3 := M2.chg C3 (fun h => h) (fun h => h)
    have B3 := B2.trans (C3.below_of B2.size (fun _ h => h.elim))
    clear M2
    go_wp2_with fail
    refine (build_lst M3 ptbr pages first 0 n L1 e1).mono ?_
    rintro e w4 ⟨ao1, cap1, rfl, E1, C4⟩
    have B4 := B3.trans (C4.below_of B3.size (fun _ h => h.elim))
    have l0 := E0.lst.chg C4 (fun _ _ h => h)
    have l1 := E1.lst
    have HA0 := Lib.hid E0.at_
    have HA1 := Lib.hid E1.at_
    clear M3 e0 e1 E0 E1 C3 C4 B2 B3
    have HLEN := Lib.hid hlen
    have hlenI : (L0.length : Int) = (L1.length : Int) := by omega
    clear hlen
    go_wp2_with fail
    clear hlenI
    go_loopg [16] L1.length (fun g s16 wr => ∃ k : Nat, g + k = L1.length ∧ s16 = .int .i64 k ∧ Chg w4 wr (fun _ => False))
    case atStart => exact ⟨0, rfl, rfl, Chg.refl _ _⟩
    case round =>
      obtain ⟨k, hk, rfl, Ck⟩ := hrel
      have HK := Lib.hid hk
      have l0 := l0.chg Ck (fun _ _ h => h)
      have l1 := l1.chg Ck (fun _ _ h => h)
      by_cases hlt1 : k < L1.length
      · have hlt : k < L0.length := by have := HLEN.out; omega
        obtain ⟨g0, o0, rfl⟩ := l0.pos (by omega)
        obtain ⟨g1, o1, rfl⟩ := l1.pos (by omega)
        have c00 := Lst.cell0 (n := 3) (fun _ => rfl) l0 k (by decide) hlt rfl
        have c01 := Lst.cell (n := 3) (fun _ => rfl) l0 k 1 (by decide) hlt rfl
        have c02 := Lst.cell (n := 3) (fun _ => rfl) l0 k 2 (by decide) hlt rfl
        have c10 := Lst.cell0 (n := 3) (fun _ => rfl) l1 k (by decide) hlt1 rfl
        have c11 := Lst.cell (n := 3) (fun _ => rfl) l1 k 1 (by decide) hlt1 rfl
        have c12 := Lst.cell (n := 3) (fun _ => rfl) l1 k 2 (by decide) hlt1 rfl
        obtain ⟨u, y1, y2, y3, y4, y5, y6⟩ := HG.out k hlt hlt1
        rw [y1] at c01
        rw [y4] at c11
        rw [y5] at c10
        rw [y6] at c12
        obtain ⟨xv, hxv⟩ : ∃ x, L0[k].v = x := ⟨_, rfl⟩
        obtain ⟨xb, hxb⟩ : ∃ x, L0[k].bi = x := ⟨_, rfl⟩
        rw [hxv] at c00 c10
        rw [hxb] at c02 c12
        have hk0 : (0 : Int) ≤ (k : Int) := by omega
        have hk2 : (k : Int) < L1.length := by omega
        have hw : wrap64 (first + u - u) = first := by rw [IntWalk.wrap64_in _ (by omega)]; omega
        clear y1 y4 y5 y6 hxv hxb hk l0 l1
        go_wp2_with fail
        go_quiet (fail)
        go_wp2_with fail
        go_roundg (gk - 1)
        case measure => have := HK.out; omega
        case rel => exact ⟨k + 1, by have := HK.out; omega, by go_num, Ck.drewN _⟩
      · obtain rfl : k = L1.length := by omega
        clear hk
        go_wp2_with fail
        go_ret
        exact ⟨rfl, B4.trans (Ck.below_of B4.size (fun _ h => h.elim))⟩
  · go_enter Try.func8, Try.ntmps8
    go_wp2_with fail
    refine (alive17 _).mono ?_
    rintro e w1 ⟨rfl, B1⟩
    go_upto_if 48 with fail
    all_goals first
      | (exfalso; omega)
      | (go_wp2_with fail
         go_ret
         exact ⟨rfl, B1⟩)

set_option maxRecDepth 100000 in
theorem shadowMoves_walk : LawWalk 8 Try.f8 := by
  intro H enc W base args ds p hval hA
  rw [Try.params8] at hA hval
  obtain ⟨l⟩ := args
  obtain ⟨v0, l0, d0, e0, p0, q0, rfl, rfl, rfl, h0, hA0⟩ := trodAll_cons hA
  obtain ⟨v1, l1, d1, e1, p1, q1, rfl, rfl, rfl, h1, hA1⟩ := trodAll_cons hA0
  obtain ⟨v2, l2, d2, e2, p2, q2, rfl, rfl, rfl, h2, hA2⟩ := trodAll_cons hA1
  obtain ⟨v3, l3, d3, e3, p3, q3, rfl, rfl, rfl, h3, hA3⟩ := trodAll_cons hA2
  obtain ⟨v4, l4, d4, e4, p4, q4, rfl, rfl, rfl, h4, hA4⟩ := trodAll_cons hA3
  obtain ⟨rfl, rfl, rfl⟩ := trodAll_nil hA4
  obtain ⟨a0, rfl, rfl, rfl, w0⟩ := open_int Try.underlying3 (hval 0 3 v0 rfl rfl) h0
  obtain ⟨ao1, cap1, xs1, rfl, hl1, hb1⟩ := open_pokes (hval 1 22 v1 rfl rfl) h1
  obtain ⟨a2, rfl, rfl, rfl, w2⟩ := open_int Try.underlying3 (hval 2 3 v2 rfl rfl) h2
  obtain ⟨a3, rfl, rfl, rfl, w3⟩ := open_int Try.underlying3 (hval 3 3 v3 rfl rfl) h3
  obtain ⟨a4, rfl, rfl, rfl, w4⟩ := open_int Try.underlying3 (hval 4 3 v4 rfl rfl) h4
  exact shadowMoves_any a0 xs1 a2 a3 a4 W hl1 hb1

set_option maxRecDepth 100000 in
theorem shadowMoves_lifted (os : Os) (started : os.Started) (H : Type) (enc : TypeId × Value → H) :
    ReturnsInHanded {} Try.checked os 8 .any (Rows.shadowMovesSpec.pre6 enc Try.prog Try.f8 Rows.shadowMovesRow.domain false) (Rows.shadowMovesSpec.post enc Try.prog Try.f8 false true false false) :=
  law_lifted (s := Rows.shadowMovesSpec) Try.func8 (by kernel_rfl) rfl (by kernel_rfl) (by kernel_rfl)
    (fun H ds h => by
      match ds, h with
      | [d0, d1, d2, d3, d4], _ => rfl)
    shadowMoves_walk os started H enc
    (ChangeSpec.witness6 (enc := enc) (C := Try.checked) false ⟨#[], #[.int .i64 0, .slice none 0 0, .int .i64 0, .int .i64 0, .int .i64 0], []⟩ 8 (by kernel_rfl) (by kernel_rfl) (by kernel_rfl) (by kernel_rfl))

set_option maxRecDepth 100000 in
/-- THE STATEMENT. -/
theorem shadowMoves_holds : Rows.ShadowMovesSaid :=
  OpenClaim.holds_of_wide 8 Try.f8 rfl rfl rfl rfl rfl rfl rfl ⟨rfl, rfl, rfl, rfl, rfl⟩ rfl rfl rfl rfl rfl (by kernel_rfl) Try.func8 (by kernel_rfl)
    (of_decide_eq_true (by kernel_rfl)) (by unfold Func.isWrapper; first | (rw [if_pos (by decide +kernel)]; kernel_rfl) | (rw [if_neg (by decide +kernel)]; exact ⟨rfl, rfl⟩))
    (fun os started H enc _ => shadowMoves_lifted os started H enc)
#print axioms shadowMoves_holds
end Go.Proofs.Ytadcmelbcahecaa

/- ShadowWalks: where the guest's own walk leads to its memory, the shadow leads to the same bytes on the host, and lets through no more than the guest does. No condition. -/
import Derived.Test.YtadcmelbcahecaaShWk
import Derived.Test.YtadcmelbcahecaaRMap
namespace Go.Proofs.Ytadcmelbcahecaa
open Go.ChangeShapes Go.WideShapes Go.ChangeAt Go.RowKit

theorem bits4k (k : Nat) (hk : k < 4) : [(8 : Int), 2, 4, 2][k]'hk = needBit k := bit4k k hk

set_option maxRecDepth 100000 in
set_option maxHeartbeats 4000000 in
theorem shadowWalks_any (pages : Int) {ao : Option Addr} {cap : Nat} (l : List PokeD) (ptbr va' kind' : Int) (w : World) (hl : Lst w ao l.length cap (l.flatMap pokeCells) 2) (hcap : ∀ ad, ao = some ad → 0 < l.length → ad.block < w.heap.size) :
    Calls Try.prog 3 #[.int .i64 pages, .slice ao l.length cap, .int .i64 ptbr, .int .i64 va', .int .i64 kind'] w fun e w' => e = .returned (.bool true) ∧ Below w.heap.size w w' := by
  have hm1 := hl.mx
  have hm2 := hl.le
  unfold maxLen at hm1
  by_cases hin : 1 ≤ pages ∧ pages ≤ 16 ∧ l.length ≤ 200
  · obtain ⟨h1, h2, h3⟩ := hin
    have HOF := fun wx => rw_any va' wx
    obtain ⟨va, hva⟩ : ∃ va, va' % 4294967296 = va := ⟨_, rfl⟩
    have v0 : 0 ≤ va := by omega
    have v1 : va < 4294967296 := by omega
    rw [hva] at HOF
    have ek : bits .and .i64 kind' 3 = ((kind' % 4).toNat : Int) := by rw [and3]; omega
    obtain ⟨k, hkd⟩ : ∃ k, (kind' % 4).toNat = k := ⟨_, rfl⟩
    have hk : k < 4 := by omega
    rw [hkd] at ek
    clear hva hkd
    go_enter Try.func3, Try.ntmps3
    go_wp2_with fail
    refine (alive17 _).mono ?_
    rintro e w1 ⟨rfl, B1⟩
    have C1 := Chg.of_below B1 (fun _ => False)
    have hl1 := hl.chg C1 (fun _ _ h => h)
    have hz := B1.size
    have HB := both_any pages l w1 hl1 (fun ad e h => Nat.lt_of_lt_of_le (hcap ad e h) hz)
    obtain ⟨nn, hnn⟩ : ∃ nn, pgN pages = nn := ⟨_, rfl⟩
    rw [hnn] at HB
    clear hl C1 hl1 hnn
    go_wp2_with fail
    refine HB.mono ?_
    rintro e w2 ⟨a, b, c, d, rfl, M2, R2, C2, ha, hb, hc, hd⟩
    obtain ⟨f, hf⟩ : ∃ f, pokes nn l (fun _ => 0) = f := ⟨_, rfl⟩
    rw [hf] at M2 R2
    obtain ⟨L, e0⟩ : ∃ L, entsL nn f ptbr pages 100 (va / 4096) 1 = L := ⟨_, rfl⟩
    have WK := wk_law M2.rng ptbr pages va k hk v0 v1 h1 h2 L e0
    have HWW := fun wx (R : Mem 76 wx c d nn f) => rwalk_any R ptbr va k hk
    obtain ⟨pa, hpa⟩ : ∃ pa, (walkU nn f ptbr va k).1 = pa := ⟨_, rfl⟩
    obtain ⟨cc, hcc⟩ : ∃ cc, (walkU nn f ptbr va k).2 = cc := ⟨_, rfl⟩
    rw [hpa, hcc] at WK
    rw [hpa, hcc] at HWW
    have WK := Lib.hid WK
    have HWW := Lib.hid HWW
    have B2 := B1.trans (C2.below_of hz (fun _ h => h.elim))
    have hl0 : L.length ≤ 4096 := by rw [← e0]; exact ents_len _ _ _ _ _ _ _
    clear hf HB B1 C2 hpa hcc
    go_wp2_with (go_at_call 13; refine (HOF _).mono ?_; rintro e w' ⟨rfl, rfl⟩)
    refine (HWW.out _ R2).mono ?_
    rintro e w3 ⟨rfl, C3⟩
    have M3 := M2.chg C3 (fun h => h) (fun h => h)
    have R3 := R2.chg C3 (fun h => h) (fun h => h)
    have B3 := B2.trans (C3.below_of B2.size (fun _ h => h.elim))
    clear M2 R2 HWW C3 B2
    go_wp2_with fail
    refine (build_lst M3 ptbr pages 100 (va / 4096) 1 L e0).mono ?_
    rintro e w4 ⟨ao1, cap1, rfl, E4, C4⟩
    have R4 := R3.chg C4 (fun h => h) (fun h => h)
    have B4 := B3.trans (C4.below_of B3.size (fun _ h => h.elim))
    have l4 := E4.lst
    have HA := Lib.hid E4.at_
    clear M3 R3 e0 E4 C4 B3 HOF
    by_cases hc0 : cc = 0
    · subst hc0
      by_cases hlt : pa / 4096 < pages
      · obtain ⟨p0, bi, hL, hb⟩ := WK.out.yes rfl hlt
        subst hL
        obtain ⟨g, o, rfl⟩ := l4.pos (by simp)
        obtain ⟨g', hg', _, _⟩ := HA.out _ rfl
        cases hg'
        have c0 := Lst.cell0 (n := 3) (fun _ => rfl) l4 0 (by decide) (by simp) rfl
        have c1 := Lst.cell (n := 3) (fun _ => rfl) l4 0 1 (by decide) (by simp) rfl
        have c2 := Lst.cell (n := 3) (fun _ => rfl) l4 0 2 (by decide) (by simp) rfl
        simp only [Nat.zero_mul, Nat.zero_add, Nat.reduceAdd] at c0 c1 c2
        dsimp only [List.getElem_cons_zero] at c0 c1 c2
        have hp1 : 100 + pa / 4096 < 1000 := by omega
        have W5 : Chg w4 (w4.alloc (.cells #[.int .i64 8, .int .i64 2, .int .i64 4, .int .i64 2] 3)) (fun _ => False) := (Chg.refl w4 _).alloc _
        have c5 := row4 w4 3 8 2 4 2 k hk
        rw [bit4k] at c5
        have c6 := W5.cell c2 (fun h => h)
        have B5 := B4.trans (W5.below_of B4.size (fun _ h => h.elim))
        have hkI : (k : Int) < 4 := by omega
        have hk0 : (0 : Int) ≤ (k : Int) := by omega
        obtain ⟨nb, hnb⟩ : ∃ nb, needBit (k : Int) = nb := ⟨_, rfl⟩
        rw [hnb] at c5 hb
        clear hnb l4 WK HA W5
        by_cases hbn : bits .and .i64 bi nb = 0
        · have hn4 : nb = 4 := by
            rcases hb with h | h
            · exact absurd hbn h
            · exact h
          subst hn4
          have x1 : (bits .and .i64 bi 4 != 0) = false := by rw [hbn]; rfl
          clear hb hbn
          go_wp2_with fail
          go_ret
          exact ⟨rfl, B5⟩
        · have x1 : (bits .and .i64 bi nb != 0) = true := bne_iff_ne.2 hbn
          clear hb hbn
          go_wp2_with fail
          go_ret
          exact ⟨rfl, B5⟩
      · have hno : ¬ ((0 : Int) = 0 ∧ pa / 4096 < pages) := fun h => hlt h.2
        rcases WK.out.no hno with hL | ⟨fr, bi, hL, q1, q2, q3⟩
        · subst hL
          go_wp2_with fail
          go_ret
          exact ⟨rfl, B4⟩
        · subst hL
          obtain ⟨g, o, rfl⟩ := l4.pos (by simp)
          obtain ⟨g', hg', _, _⟩ := HA.out _ rfl
          cases hg'
          have c0 := Lst.cell0 (n := 3) (fun _ => rfl) l4 0 (by decide) (by simp) rfl
          have c1 := Lst.cell (n := 3) (fun _ => rfl) l4 0 1 (by decide) (by simp) rfl
          have c2 := Lst.cell (n := 3) (fun _ => rfl) l4 0 2 (by decide) (by simp) rfl
          simp only [Nat.zero_mul, Nat.zero_add, Nat.reduceAdd] at c0 c1 c2
          dsimp only [List.getElem_cons_zero] at c0 c1 c2
          have HM := rmap_any R4 ptbr (va / 4096)
          obtain ⟨mf, hmf⟩ : ∃ mf, (mapV nn f ptbr (va / 4096)).1 = mf := ⟨_, rfl⟩
          obtain ⟨mo, hmo⟩ : ∃ mo, (mapV nn f ptbr (va / 4096)).2 = mo := ⟨_, rfl⟩
          rw [hmf, hmo] at q3 HM
          have hpo : wrap64 (100 + pages) = 100 + pages := IntWalk.wrap64_in _ (by omega)
          clear hmf hmo l4 WK HA hno
          cases mo with
          | false =>
            go_wp2_with fail
            refine HM.mono ?_
            rintro e w' ⟨rfl, rfl⟩
            go_wp2_with fail
            go_ret
            exact ⟨rfl, B4⟩
          | true =>
            have q4 : bits .andNot .i64 bi mf = 0 := by
              rcases q3 with h | h
              · cases h
              · exact h
            clear q3
            go_wp2_with fail
            refine HM.mono ?_
            rintro e w' ⟨rfl, rfl⟩
            go_wp2_with fail
            go_ret
            exact ⟨rfl, B4⟩
    · have hno : ¬ (cc = 0 ∧ pa / 4096 < pages) := fun h => hc0 h.1
      have hcf : (cc == 0) = false := beq_eq_false_iff_ne.2 hc0
      clear hc0
      rcases WK.out.no hno with hL | ⟨fr, bi, hL, q1, q2, q3⟩
      · subst hL
        go_wp2_with fail
        go_ret
        exact ⟨rfl, B4⟩
      · subst hL
        obtain ⟨g, o, rfl⟩ := l4.pos (by simp)
        obtain ⟨g', hg', _, _⟩ := HA.out _ rfl
        cases hg'
        have c0 := Lst.cell0 (n := 3) (fun _ => rfl) l4 0 (by decide) (by simp) rfl
        have c1 := Lst.cell (n := 3) (fun _ => rfl) l4 0 1 (by decide) (by simp) rfl
        have c2 := Lst.cell (n := 3) (fun _ => rfl) l4 0 2 (by decide) (by simp) rfl
        simp only [Nat.zero_mul, Nat.zero_add, Nat.reduceAdd] at c0 c1 c2
        dsimp only [List.getElem_cons_zero] at c0 c1 c2
        have HM := rmap_any R4 ptbr (va / 4096)
        obtain ⟨mf, hmf⟩ : ∃ mf, (mapV nn f ptbr (va / 4096)).1 = mf := ⟨_, rfl⟩
        obtain ⟨mo, hmo⟩ : ∃ mo, (mapV nn f ptbr (va / 4096)).2 = mo := ⟨_, rfl⟩
        rw [hmf, hmo] at q3 HM
        have hpo : wrap64 (100 + pages) = 100 + pages := IntWalk.wrap64_in _ (by omega)
        clear hmf hmo l4 WK HA hno
        cases mo with
        | false =>
          go_wp2_with fail
          refine HM.mono ?_
          rintro e w' ⟨rfl, rfl⟩
          go_wp2_with fail
          go_ret
          exact ⟨rfl, B4⟩
        | true =>
          have q4 : bits .andNot .i64 bi mf = 0 := by
            rcases q3 with h | h
            · cases h
            · exact h
          clear q3
          go_wp2_with fail
          refine HM.mono ?_
          rintro e w' ⟨rfl, rfl⟩
          go_wp2_with fail
          go_ret
          exact ⟨rfl, B4⟩
  · go_enter Try.func3, Try.ntmps3
    go_wp2_with fail
    refine (alive17 _).mono ?_
    rintro e w1 ⟨rfl, B1⟩
    go_upto_if 35 with fail
    all_goals first
      | (exfalso; omega)
      | (go_wp2_with fail
         go_ret
         exact ⟨rfl, B1⟩)

set_option maxRecDepth 100000 in
theorem shadowWalks_walk : LawWalk 3 Try.f3 := by
  intro H enc W base args ds p hval hA
  rw [Try.params3] at hA hval
  obtain ⟨l⟩ := args
  obtain ⟨v0, l0, d0, e0, p0, q0, rfl, rfl, rfl, h0, hA0⟩ := trodAll_cons hA
  obtain ⟨v1, l1, d1, e1, p1, q1, rfl, rfl, rfl, h1, hA1⟩ := trodAll_cons hA0
  obtain ⟨v2, l2, d2, e2, p2, q2, rfl, rfl, rfl, h2, hA2⟩ := trodAll_cons hA1
  obtain ⟨v3, l3, d3, e3, p3, q3, rfl, rfl, rfl, h3, hA3⟩ := trodAll_cons hA2
  obtain ⟨v4, l4, d4, e4, p4, q4, rfl, rfl, rfl, h4, hA4⟩ := trodAll_cons hA3
  obtain ⟨rfl, rfl, rfl⟩ := trodAll_nil hA4
  obtain ⟨a0, rfl, rfl, rfl, w0⟩ := open_int Try.underlying3 (hval 0 3 v0 rfl rfl) h0
  obtain ⟨ao1, cap1, xs1, rfl, hl1, hb1⟩ := open_pokes (hval 1 22 v1 rfl rfl) h1
  obtain ⟨a2, rfl, rfl, rfl, w2⟩ := open_int Try.underlying3 (hval 2 3 v2 rfl rfl) h2
  obtain ⟨a3, rfl, rfl, rfl, w3⟩ := open_int Try.underlying3 (hval 3 3 v3 rfl rfl) h3
  obtain ⟨a4, rfl, rfl, rfl, w4⟩ := open_int Try.underlying3 (hval 4 3 v4 rfl rfl) h4
  exact shadowWalks_any a0 xs1 a2 a3 a4 W hl1 hb1

set_option maxRecDepth 100000 in
theorem shadowWalks_lifted (os : Os) (started : os.Started) (H : Type) (enc : TypeId × Value → H) :
    ReturnsInHanded {} Try.checked os 3 .any (Rows.shadowWalksSpec.pre6 enc Try.prog Try.f3 Rows.shadowWalksRow.domain false) (Rows.shadowWalksSpec.post enc Try.prog Try.f3 false true false false) :=
  law_lifted (s := Rows.shadowWalksSpec) Try.func3 (by kernel_rfl) rfl (by kernel_rfl) (by kernel_rfl)
    (fun H ds h => by
      match ds, h with
      | [d0, d1, d2, d3, d4], _ => rfl)
    shadowWalks_walk os started H enc
    (ChangeSpec.witness6 (enc := enc) (C := Try.checked) false ⟨#[], #[.int .i64 0, .slice none 0 0, .int .i64 0, .int .i64 0, .int .i64 0], []⟩ 8 (by kernel_rfl) (by kernel_rfl) (by kernel_rfl) (by kernel_rfl))

set_option maxRecDepth 100000 in
/-- THE STATEMENT. -/
theorem shadowWalks_holds : Rows.ShadowWalksSaid :=
  OpenClaim.holds_of_wide 3 Try.f3 rfl rfl rfl rfl rfl rfl rfl ⟨rfl, rfl, rfl, rfl, rfl⟩ rfl rfl rfl rfl rfl (by kernel_rfl) Try.func3 (by kernel_rfl)
    (of_decide_eq_true (by kernel_rfl)) (by unfold Func.isWrapper; first | (rw [if_pos (by decide +kernel)]; kernel_rfl) | (rw [if_neg (by decide +kernel)]; exact ⟨rfl, rfl⟩))
    (fun os started H enc _ => shadowWalks_lifted os started H enc)
#print axioms shadowWalks_holds
end Go.Proofs.Ytadcmelbcahecaa

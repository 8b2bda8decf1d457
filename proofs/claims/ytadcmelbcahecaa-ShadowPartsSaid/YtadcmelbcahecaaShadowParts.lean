/- ShadowParts: the entries of a range are those of its two halves, one behind the other, each page at most once. No condition. -/
import Derived.Test.YtadcmelbcahecaaShPart
namespace Go.Proofs.Ytadcmelbcahecaa
open Go.ChangeShapes Go.WideShapes Go.ChangeAt Go.RowKit

theorem pgN_16 : pgN 16 = 65536 := rfl

set_option maxRecDepth 100000 in
set_option maxHeartbeats 4000000 in
theorem shadowParts_any (pages : Int) {ao : Option Addr} {cap : Nat} (l : List PokeD) (ptbr fr a' b' : Int) (w : World) (hl : Lst w ao l.length cap (l.flatMap pokeCells) 2) (hcap : ∀ ad, ao = some ad → 0 < l.length → ad.block < w.heap.size) :
    Calls Try.prog 7 #[.int .i64 pages, .slice ao l.length cap, .int .i64 ptbr, .int .i64 fr, .int .i64 a', .int .i64 b'] w fun e w' => e = .returned (.bool true) ∧ Below w.heap.size w w' := by
  have hm1 := hl.mx
  have hm2 := hl.le
  unfold maxLen at hm1
  by_cases hin : 0 ≤ pages ∧ pages ≤ 16 ∧ l.length ≤ 200 ∧ 0 ≤ fr ∧ fr ≤ 1048576 ∧ 0 ≤ a' ∧ a' ≤ 1500 ∧ 0 ≤ b' ∧ b' ≤ 1500
  · obtain ⟨h1, h2, h3, h4, h5, h6, h7, h8, h9⟩ := hin
    obtain ⟨i0, hi0, hz0, hz1, hz2⟩ := info_parts info_ent
    go_enter Try.func7, Try.ntmps7
    go_wp2_with fail
    refine (alive17 _).mono ?_
    rintro e w1 ⟨rfl, B1⟩
    have C1 := Chg.of_below B1 (fun _ => False)
    have hl1 := hl.chg C1 (fun _ _ h => h)
    have hz := B1.size
    have HB := both_any 16 l w1 hl1 (fun ad e h => Nat.lt_of_lt_of_le (hcap ad e h) hz)
    rw [pgN_16] at HB
    clear hl C1 hl1
    go_wp2_with fail
    refine HB.mono ?_
    rintro e w2 ⟨a, b, c, d, rfl, M2, R2, C2, ha, hb, hc, hd⟩
    obtain ⟨f, hf⟩ : ∃ f, pokes 65536 l (fun _ => 0) = f := ⟨_, rfl⟩
    rw [hf] at M2
    obtain ⟨X, e0⟩ : ∃ L, entsL 65536 f ptbr pages 9 fr a' = L := ⟨_, rfl⟩
    obtain ⟨Y, e1⟩ : ∃ L, entsL 65536 f ptbr pages 9 (fr + a') b' = L := ⟨_, rfl⟩
    obtain ⟨Z, e2⟩ : ∃ L, entsL 65536 f ptbr pages 9 fr (a' + b') = L := ⟨_, rfl⟩
    have HS : Hid (Z = X ++ Y) := by show _ = _; rw [← e0, ← e1, ← e2]; exact ents_split 65536 f ptbr pages 9 fr a' b' h4 h5 h6 h7 h8 h9
    have HR : Hid (∀ i (h : i + 1 < Z.length), Z[i].v < Z[i + 1].v) := by
      subst e2
      exact fun i h => ents_rise 65536 f ptbr pages 9 fr (a' + b') i h
    have hx0 : X.length ≤ 4096 := by rw [← e0]; exact ents_len _ _ _ _ _ _ _
    have hy0 : Y.length ≤ 4096 := by rw [← e1]; exact ents_len _ _ _ _ _ _ _
    have hzz0 : Z.length ≤ 4096 := by rw [← e2]; exact ents_len _ _ _ _ _ _ _
    have B2 := B1.trans (C2.below_of hz (fun _ h => h.elim))
    clear hf HB R2 B1 C2
    go_wp2_with fail
    refine (build_lst M2 ptbr pages 9 fr a' X e0).mono ?_
    rintro e w3 ⟨ao0, cap0, rfl, E0, C3⟩
    have M3 := M2.chg C3 (fun h => h) (fun h => h)
    have B3 := B2.trans (C3.below_of B2.size (fun _ h => h.elim))
    clear M2
    go_wp2_with fail
    refine (build_lst M3 ptbr pages 9 (fr + a') b' Y e1).mono ?_
    rintro e w4 ⟨ao1, cap1, rfl, E1, C4⟩
    have M4 := M3.chg C4 (fun h => h) (fun h => h)
    have B4 := B3.trans (C4.below_of B3.size (fun _ h => h.elim))
    clear M3
    go_wp2_with fail
    refine (build_lst M4 ptbr pages 9 fr (a' + b') Z e2).mono ?_
    rintro e w5 ⟨ao2, cap2, rfl, E2, C5⟩
    have B5 := B4.trans (C5.below_of B4.size (fun _ h => h.elim))
    have SX := Lib.hid (((own_src E0.own).chg C4 (fun _ _ h => h)).chg C5 (fun _ _ h => h))
    have SY := Lib.hid ((own_src E1.own).chg C5 (fun _ _ h => h))
    have l2 := E2.lst
    have HA2 := Lib.hid E2.at_
    clear M4 e0 e1 e2 E0 E1 E2 C3 C4 C5 B2 B3 B4
    go_wp2_with fail
    go_loopg [19] Z.length (fun g s19 wr => ∃ q : Nat, g + q = Z.length ∧ s19 = .int .i64 ((q + 1 : Nat) : Int) ∧ Chg w5 wr (fun _ => False))
    case atStart => exact ⟨0, rfl, rfl, Chg.refl _ _⟩
    case round =>
      obtain ⟨q, hq, rfl, Ck⟩ := hrel
      have HK := Lib.hid hq
      have l2 := l2.chg Ck (fun _ _ h => h)
      by_cases hlt : q + 1 < Z.length
      · obtain ⟨g2, o2, rfl⟩ := l2.pos (by omega)
        have c0 := Lst.cell0 (n := 3) (fun _ => rfl) l2 q (by decide) (by omega) rfl
        have c1 := Lst.cell0 (n := 3) (fun _ => rfl) l2 (q + 1) (by decide) hlt rfl
        have hv := HR.out q hlt
        obtain ⟨x, hx⟩ : ∃ x, Z[q].v = x := ⟨_, rfl⟩
        obtain ⟨y, hy⟩ : ∃ y, Z[q + 1].v = y := ⟨_, rfl⟩
        rw [hx] at c0 hv
        rw [hy] at c1 hv
        have hk0 : (0 : Int) ≤ (q : Int) := by omega
        have hk1 : (q : Int) + 1 < Z.length := by omega
        clear hx hy hq l2
        go_wp2_with fail
        go_quiet (fail)
        go_wp2_with fail
        go_roundg (gk - 1)
        case measure => have := HK.out; omega
        case rel => exact ⟨q + 1, by have := HK.out; omega, by go_num, Ck.drewN _⟩
      · clear hq
        have HLZ := Lib.hid l2
        clear l2
        have SX1 := SX.out.chg Ck (fun _ _ h => h)
        have SY1 := SY.out.chg Ck (fun _ _ h => h)
        have hb5 := B5.size
        have hsz := Ck.size
        have hX3 : ∀ (L : List EntD), ∀ u ∈ L.flatMap entCells, u.oneCell' = true := by
          intro L u hu
          obtain ⟨x, -, hu⟩ := List.mem_flatMap.1 hu
          simp only [entCells, List.mem_cons, List.not_mem_nil, or_false] at hu
          rcases hu with rfl | rfl | rfl <;> rfl
        have HX3 := Lib.hid hX3
        clear hX3
        go_wp2_with (first
          | (at_builtin; go_loud (refine wpList_append_src _ rfl (.const (.slice none 0 0)) (.tmp 110) _ rfl wr.heap.size 35 i0 _ 3 24 Try.underlying31 hi0 hz0 hz1 hz2 rfl (by omega) _ 0 [] rfl ⟨rfl, .inl ⟨rfl, rfl⟩⟩ _ X.length cap0 _ rfl SX1 (HX3.out X) (by unfold maxLen; omega) (by omega) (Nat.le_refl _) ?_); go_loud (intro v6 w6 O6 hgr6); go_loud (refine ?roundEnd)))
        case roundEnd =>
          rw [Nat.zero_add, List.nil_append] at O6
          obtain ⟨ao6, cap6, rfl, hc6, hm6, hn6, ha6⟩ := own_form O6
          have C6 : Chg wr w6 (fun _ => False) := (Chg.refl wr _).grown hgr6 (fun k hk _ => by cases hk)
          have SY6 := SY1.chg C6 (fun _ _ h => h)
          have CR6 := Ck.trans C6
          have hz6 := C6.size
          have hlt6 := O6.lt
          go_wp2_with (first
            | (at_builtin; go_loud (refine wpList_append_src _ rfl (.tmp 111) (.tmp 112) _ rfl wr.heap.size 35 i0 _ 3 24 Try.underlying31 hi0 hz0 hz1 hz2 rfl (by omega) _ X.length _ rfl O6 _ Y.length cap1 _ rfl SY6 (HX3.out Y) (by unfold maxLen; omega) (by omega) hz6 ?_); go_loud (intro v7 w7 O7 hgr7); go_loud (refine ?roundEnd)))
          case roundEnd =>
            have hzl : X.length + Y.length = Z.length := by rw [HS.out, List.length_append]
            have hzf : X.flatMap entCells ++ Y.flatMap entCells = Z.flatMap entCells := by rw [HS.out, List.flatMap_append]
            rw [hzl, hzf] at O7
            obtain ⟨ao7, cap7, rfl, hc7, hm7, hn7, ha7⟩ := own_form O7
            have C7 : Chg w6 w7 (fun k => w5.heap.size ≤ k) := (Chg.refl w6 _).grown hgr7 (fun k hk _ => by have := hlt6 k hk; omega)
            have CR7 : Chg w5 w7 (fun _ => False) := CR6.grown hgr7 (fun k hk hlt => by have := hlt6 k hk; omega)
            have lz := (HLZ.out.chg C6 (fun _ _ h => h)).chg C7 (fun ad e h => by obtain ⟨g, rfl, _, hg⟩ := HA2.out ad e; exact absurd h (by show ¬ w5.heap.size ≤ g; omega))
            have l7 := own_lst O7
            have BZ := B5.trans (CR7.below_of B5.size (fun _ h => h.elim))
            clear O6 O7 hgr6 hgr7 SX SX1 SY SY1 SY6 HX3 HS HR
            go_wp2_with fail
            refine (same_ents Z w7 lz l7).mono ?_
            rintro e w8 ⟨rfl, C8⟩
            go_wp2_with fail
            go_ret
            exact ⟨rfl, BZ.trans (C8.below_of BZ.size (fun _ h => h.elim))⟩
  · go_enter Try.func7, Try.ntmps7
    go_wp2_with fail
    refine (alive17 _).mono ?_
    rintro e w1 ⟨rfl, B1⟩
    go_upto_if 59 with fail
    all_goals first
      | (exfalso; omega)
      | (go_wp2_with fail
         go_ret
         exact ⟨rfl, B1⟩)

set_option maxRecDepth 100000 in
theorem shadowParts_walk : LawWalk 7 Try.f7 := by
  intro H enc W base args ds p hval hA
  rw [Try.params7] at hA hval
  obtain ⟨l⟩ := args
  obtain ⟨v0, l0, d0, e0, p0, q0, rfl, rfl, rfl, h0, hA0⟩ := trodAll_cons hA
  obtain ⟨v1, l1, d1, e1, p1, q1, rfl, rfl, rfl, h1, hA1⟩ := trodAll_cons hA0
  obtain ⟨v2, l2, d2, e2, p2, q2, rfl, rfl, rfl, h2, hA2⟩ := trodAll_cons hA1
  obtain ⟨v3, l3, d3, e3, p3, q3, rfl, rfl, rfl, h3, hA3⟩ := trodAll_cons hA2
  obtain ⟨v4, l4, d4, e4, p4, q4, rfl, rfl, rfl, h4, hA4⟩ := trodAll_cons hA3
  obtain ⟨v5, l5, d5, e5, p5, q5, rfl, rfl, rfl, h5, hA5⟩ := trodAll_cons hA4
  obtain ⟨rfl, rfl, rfl⟩ := trodAll_nil hA5
  obtain ⟨a0, rfl, rfl, rfl, w0⟩ := open_int Try.underlying3 (hval 0 3 v0 rfl rfl) h0
  obtain ⟨ao1, cap1, xs1, rfl, hl1, hb1⟩ := open_pokes (hval 1 22 v1 rfl rfl) h1
  obtain ⟨a2, rfl, rfl, rfl, w2⟩ := open_int Try.underlying3 (hval 2 3 v2 rfl rfl) h2
  obtain ⟨a3, rfl, rfl, rfl, w3⟩ := open_int Try.underlying3 (hval 3 3 v3 rfl rfl) h3
  obtain ⟨a4, rfl, rfl, rfl, w4⟩ := open_int Try.underlying3 (hval 4 3 v4 rfl rfl) h4
  obtain ⟨a5, rfl, rfl, rfl, w5⟩ := open_int Try.underlying3 (hval 5 3 v5 rfl rfl) h5
  exact shadowParts_any a0 xs1 a2 a3 a4 a5 W hl1 hb1

set_option maxRecDepth 100000 in
theorem shadowParts_lifted (os : Os) (started : os.Started) (H : Type) (enc : TypeId × Value → H) :
    ReturnsInHanded {} Try.checked os 7 .any (Rows.shadowPartsSpec.pre6 enc Try.prog Try.f7 Rows.shadowPartsRow.domain false) (Rows.shadowPartsSpec.post enc Try.prog Try.f7 false true false false) :=
  law_lifted (s := Rows.shadowPartsSpec) Try.func7 (by kernel_rfl) rfl (by kernel_rfl) (by kernel_rfl)
    (fun H ds h => by
      match ds, h with
      | [d0, d1, d2, d3, d4, d5], _ => rfl)
    shadowParts_walk os started H enc
    (ChangeSpec.witness6 (enc := enc) (C := Try.checked) false ⟨#[], #[.int .i64 0, .slice none 0 0, .int .i64 0, .int .i64 0, .int .i64 0, .int .i64 0], []⟩ 8 (by kernel_rfl) (by kernel_rfl) (by kernel_rfl) (by kernel_rfl))

set_option maxRecDepth 100000 in
/-- THE STATEMENT. -/
theorem shadowParts_holds : Rows.ShadowPartsSaid :=
  OpenClaim.holds_of_wide 7 Try.f7 rfl rfl rfl rfl rfl rfl rfl ⟨rfl, rfl, rfl, rfl, rfl⟩ rfl rfl rfl rfl rfl (by kernel_rfl) Try.func7 (by kernel_rfl)
    (of_decide_eq_true (by kernel_rfl)) (by unfold Func.isWrapper; first | (rw [if_pos (by decide +kernel)]; kernel_rfl) | (rw [if_neg (by decide +kernel)]; exact ⟨rfl, rfl⟩))
    (fun os started H enc _ => shadowParts_lifted os started H enc)
#print axioms shadowParts_holds
end Go.Proofs.Ytadcmelbcahecaa

/- ShadowPage: the one entry that one page makes, where its frame is the guest's, and none where it is not. No condition. -/
import Derived.Test.YtadcmelbcahecaaShPg
namespace Go.Proofs.Ytadcmelbcahecaa
open Go.ChangeShapes Go.WideShapes Go.ChangeAt Go.RowKit

set_option maxRecDepth 100000 in
set_option maxHeartbeats 4000000 in
theorem shadowPage_any (vpn fr bi' pages first : Int) (w : World) :
    Calls Try.prog 6 #[.int .i64 vpn, .int .i64 fr, .int .i64 bi', .int .i64 pages, .int .i64 first] w fun e w' => e = .returned (.bool true) ∧ Below w.heap.size w w' := by
  by_cases hin : 0 ≤ vpn ∧ vpn ≤ 1023 ∧ 0 ≤ fr ∧ fr ≤ 100 ∧ 3 ≤ pages ∧ pages ≤ 32 ∧ 0 ≤ first ∧ first ≤ 100
  · obtain ⟨h1, h2, h3, h4, h5, h6, h7, h8⟩ := hin
    have eb := and31 bi'
    obtain ⟨bi, hbi⟩ : ∃ bi, bi' % 32 = bi := ⟨_, rfl⟩
    have b0 : 0 ≤ bi := by omega
    have b1 : bi < 32 := by omega
    rw [hbi] at eb
    clear hbi
    have eo : bits .or .i64 (fr * 4096) bi = fr * 4096 + bi := or12 fr bi (by omega) (by omega) (by omega) (by omega)
    have hnn : pgN pages = pages.toNat * 4096 := by unfold pgN; omega
    obtain ⟨nn, hnd⟩ : ∃ nn, pgN pages = nn := ⟨_, rfl⟩
    have hn : 12288 ≤ nn := by omega
    have HL : Hid (∀ L, entsL nn (pokes nn [⟨1024, 8193⟩, ⟨2048 + vpn, fr * 4096 + bi⟩] (fun _ => 0)) 2147483649 pages first 0 1024 = L → (bi % 2 = 0 ∨ pages ≤ fr → L = []) ∧ (bi % 2 = 1 → fr < pages → L = [⟨vpn, first + fr, if fr = 1 ∨ fr = 2 then bi / 2 % 16 * 2 - bi / 4 % 2 * 4 else bi / 2 % 16 * 2⟩])) :=
      fun L hL => pg_law hn h1 (by omega) h3 h4 b0 b1 pages first h5 h7 h8 L hL
    clear hnn
    go_enter Try.func6, Try.ntmps6
    go_wp2_with fail
    refine (alive17 _).mono ?_
    rintro e w1 ⟨rfl, B1⟩
    have C1 := Chg.of_below B1 (fun _ => False)
    have hz := B1.size
    obtain ⟨l, hl⟩ : ∃ l : List PokeD, [⟨1024, 8193⟩, ⟨2048 + vpn, fr * 4096 + bi⟩] = l := ⟨_, rfl⟩
    have LB := (Box.new w1 44 #[.int .i64 1024, .int .i64 8193, .int .i64 (2048 + vpn), .int .i64 (fr * 4096 + bi)]).lst 2 2 2 (l.flatMap pokeCells) (by rw [← hl]; rfl) (by rw [← hl]; rfl) (by decide) (by unfold maxLen; omega)
    have hll : l.length = 2 := by rw [← hl]; rfl
    have HB := both_any pages l (w1.alloc (.cells #[.int .i64 1024, .int .i64 8193, .int .i64 (2048 + vpn), .int .i64 (fr * 4096 + bi)] 44)) (by rw [hll]; exact LB) (fun ad e h => by cases e; rw [World.size_alloc]; exact Nat.lt_succ_self _)
    rw [hll, hnd] at HB
    rw [hl] at HL
    clear hl hll LB hnd
    go_wp2_with fail
    refine HB.mono ?_
    rintro e w2 ⟨a, b, c, d, rfl, M2, R2, C2, ha, hb, hc, hd⟩
    obtain ⟨f, hf⟩ : ∃ f, pokes nn l (fun _ => 0) = f := ⟨_, rfl⟩
    rw [hf] at M2 HL
    obtain ⟨L, e0⟩ : ∃ L, entsL nn f 2147483649 pages first 0 1024 = L := ⟨_, rfl⟩
    obtain ⟨g1, g2⟩ := HL.out L e0
    have B2 := B1.trans (((Chg.refl w1 (fun _ => False)).alloc _ |>.trans C2).below_of hz (fun _ h => h.elim))
    have hl0 : L.length ≤ 4096 := by rw [← e0]; exact ents_len _ _ _ _ _ _ _
    have G1 := Lib.hid g1
    have G2 := Lib.hid g2
    clear hf HB R2 C1 C2 HL g1 g2
    go_wp2_with fail
    refine (build_lst M2 2147483649 pages first 0 1024 L e0).mono ?_
    rintro e w3 ⟨ao0, cap0, rfl, E0, C3⟩
    have B3 := B2.trans (C3.below_of B2.size (fun _ h => h.elim))
    have l0 := E0.lst
    have HA := Lib.hid E0.at_
    clear M2 e0 E0 C3 B2 B1
    have x1 := bit0 bi
    have x2 := bit14 bi
    by_cases hbb : bi % 2 = 0
    · have hL := G1.out (.inl hbb)
      subst hL
      have x3 : (bits .and .i64 bi 1 == 0) = true := by rw [x1]; exact beq_iff_eq.2 hbb
      clear x1 hbb
      go_wp2_with fail
      go_ret
      exact ⟨rfl, B3⟩
    have x3 : (bits .and .i64 bi 1 == 0) = false := by rw [x1]; exact beq_eq_false_iff_ne.2 hbb
    by_cases hfp : pages ≤ fr
    · have hL := G1.out (.inr hfp)
      subst hL
      clear x1 hbb
      go_wp2_with fail
      go_ret
      exact ⟨rfl, B3⟩
    have hL := G2.out (by omega) (by omega)
    clear x1 hbb G1 G2
    have key : ∀ q, (if fr = 1 ∨ fr = 2 then bi / 2 % 16 * 2 - bi / 4 % 2 * 4 else bi / 2 % 16 * 2) = q → L = [⟨vpn, first + fr, q⟩] := fun q hq => by rw [hL, hq]
    have x4 := andnot4 bi
    by_cases f1 : fr = 1
    · have hL2 := key _ (if_pos (.inl f1))
      subst f1
      clear key hL
      subst hL2
      obtain ⟨g, o, rfl⟩ := l0.pos (by simp)
      obtain ⟨g', hg', _, _⟩ := HA.out _ rfl
      cases hg'
      have c0 := Lst.cell0 (n := 3) (fun _ => rfl) l0 0 (by decide) (by simp) rfl
      have c1 := Lst.cell (n := 3) (fun _ => rfl) l0 0 1 (by decide) (by simp) rfl
      have c2 := Lst.cell (n := 3) (fun _ => rfl) l0 0 2 (by decide) (by simp) rfl
      simp only [Nat.zero_mul, Nat.zero_add, Nat.reduceAdd] at c0 c1 c2
      obtain ⟨q, hq⟩ : ∃ q, bi / 2 % 16 * 2 - bi / 4 % 2 * 4 = q := ⟨_, rfl⟩
      rw [hq] at x4
      dsimp only [List.getElem_cons_zero] at c0 c1 c2
      rw [hq] at c2
      clear hq
      go_wp2_with fail
      go_ret
      exact ⟨rfl, B3⟩
    by_cases f2 : fr = 2
    · have hL2 := key _ (if_pos (.inr f2))
      subst f2
      clear key hL
      subst hL2
      obtain ⟨g, o, rfl⟩ := l0.pos (by simp)
      obtain ⟨g', hg', _, _⟩ := HA.out _ rfl
      cases hg'
      have c0 := Lst.cell0 (n := 3) (fun _ => rfl) l0 0 (by decide) (by simp) rfl
      have c1 := Lst.cell (n := 3) (fun _ => rfl) l0 0 1 (by decide) (by simp) rfl
      have c2 := Lst.cell (n := 3) (fun _ => rfl) l0 0 2 (by decide) (by simp) rfl
      simp only [Nat.zero_mul, Nat.zero_add, Nat.reduceAdd] at c0 c1 c2
      obtain ⟨q, hq⟩ : ∃ q, bi / 2 % 16 * 2 - bi / 4 % 2 * 4 = q := ⟨_, rfl⟩
      rw [hq] at x4
      dsimp only [List.getElem_cons_zero] at c0 c1 c2
      rw [hq] at c2
      clear hq
      go_wp2_with fail
      go_ret
      exact ⟨rfl, B3⟩
    have hL2 := key _ (if_neg (by omega))
    have f3 : (fr == 1) = false := beq_eq_false_iff_ne.2 f1
    have f4 : (fr == 2) = false := beq_eq_false_iff_ne.2 f2
    clear key hL
    subst hL2
    obtain ⟨g, o, rfl⟩ := l0.pos (by simp)
    obtain ⟨g', hg', _, _⟩ := HA.out _ rfl
    cases hg'
    have c0 := Lst.cell0 (n := 3) (fun _ => rfl) l0 0 (by decide) (by simp) rfl
    have c1 := Lst.cell (n := 3) (fun _ => rfl) l0 0 1 (by decide) (by simp) rfl
    have c2 := Lst.cell (n := 3) (fun _ => rfl) l0 0 2 (by decide) (by simp) rfl
    simp only [Nat.zero_mul, Nat.zero_add, Nat.reduceAdd] at c0 c1 c2
    dsimp only [List.getElem_cons_zero] at c0 c1 c2
    clear f1 f2 x4
    go_wp2_with fail
    go_ret
    exact ⟨rfl, B3⟩
  · go_enter Try.func6, Try.ntmps6
    go_wp2_with fail
    refine (alive17 _).mono ?_
    rintro e w1 ⟨rfl, B1⟩
    go_upto_if 50 with fail
    all_goals first
      | (exfalso; omega)
      | (go_wp2_with fail
         go_ret
         exact ⟨rfl, B1⟩)

set_option maxRecDepth 100000 in
theorem shadowPage_walk : LawWalk 6 Try.f6 := by
  intro H enc W base args ds p hval hA
  rw [Try.params6] at hA hval
  obtain ⟨l⟩ := args
  obtain ⟨v0, l0, d0, e0, p0, q0, rfl, rfl, rfl, h0, hA0⟩ := trodAll_cons hA
  obtain ⟨v1, l1, d1, e1, p1, q1, rfl, rfl, rfl, h1, hA1⟩ := trodAll_cons hA0
  obtain ⟨v2, l2, d2, e2, p2, q2, rfl, rfl, rfl, h2, hA2⟩ := trodAll_cons hA1
  obtain ⟨v3, l3, d3, e3, p3, q3, rfl, rfl, rfl, h3, hA3⟩ := trodAll_cons hA2
  obtain ⟨v4, l4, d4, e4, p4, q4, rfl, rfl, rfl, h4, hA4⟩ := trodAll_cons hA3
  obtain ⟨rfl, rfl, rfl⟩ := trodAll_nil hA4
  obtain ⟨a0, rfl, rfl, rfl, w0⟩ := open_int Try.underlying3 (hval 0 3 v0 rfl rfl) h0
  obtain ⟨a1, rfl, rfl, rfl, w1⟩ := open_int Try.underlying3 (hval 1 3 v1 rfl rfl) h1
  obtain ⟨a2, rfl, rfl, rfl, w2⟩ := open_int Try.underlying3 (hval 2 3 v2 rfl rfl) h2
  obtain ⟨a3, rfl, rfl, rfl, w3⟩ := open_int Try.underlying3 (hval 3 3 v3 rfl rfl) h3
  obtain ⟨a4, rfl, rfl, rfl, w4⟩ := open_int Try.underlying3 (hval 4 3 v4 rfl rfl) h4
  exact shadowPage_any a0 a1 a2 a3 a4 W 

set_option maxRecDepth 100000 in
theorem shadowPage_lifted (os : Os) (started : os.Started) (H : Type) (enc : TypeId × Value → H) :
    ReturnsInHanded {} Try.checked os 6 .any (Rows.shadowPageSpec.pre6 enc Try.prog Try.f6 Rows.shadowPageRow.domain false) (Rows.shadowPageSpec.post enc Try.prog Try.f6 false true false false) :=
  law_lifted (s := Rows.shadowPageSpec) Try.func6 (by kernel_rfl) rfl (by kernel_rfl) (by kernel_rfl)
    (fun H ds h => by
      match ds, h with
      | [d0, d1, d2, d3, d4], _ => rfl)
    shadowPage_walk os started H enc
    (ChangeSpec.witness6 (enc := enc) (C := Try.checked) false ⟨#[], #[.int .i64 0, .int .i64 0, .int .i64 0, .int .i64 0, .int .i64 0], []⟩ 8 (by kernel_rfl) (by kernel_rfl) (by kernel_rfl) (by kernel_rfl))

set_option maxRecDepth 100000 in
/-- THE STATEMENT. -/
theorem shadowPage_holds : Rows.ShadowPageSaid :=
  OpenClaim.holds_of_wide 6 Try.f6 rfl rfl rfl rfl rfl rfl rfl ⟨rfl, rfl, rfl, rfl, rfl⟩ rfl rfl rfl rfl rfl (by kernel_rfl) Try.func6 (by kernel_rfl)
    (of_decide_eq_true (by kernel_rfl)) (by unfold Func.isWrapper; first | (rw [if_pos (by decide +kernel)]; kernel_rfl) | (rw [if_neg (by decide +kernel)]; exact ⟨rfl, rfl⟩))
    (fun os started H enc _ => shadowPage_lifted os started H enc)
#print axioms shadowPage_holds
end Go.Proofs.Ytadcmelbcahecaa

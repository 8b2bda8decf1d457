/- ShadowGuards: no frame that holds a page table may be written through the shadow. No condition. -/
import Derived.Test.YtadcmelbcahecaaShP
namespace Go.Proofs.Ytadcmelbcahecaa
open Go.ChangeShapes Go.WideShapes Go.ChangeAt Go.RowKit

theorem ents_guard {n : Nat} {f : Nat → Int} (hf : ∀ i, i < n → 0 ≤ f i ∧ f i < 256) (ptbr pages fr cnt : Int) (hp0 : 1 ≤ pages) (hp : pages ≤ 16) (L : List EntD) (T : List Int) (e0 : entsL n f ptbr pages 0 fr cnt = L) (e1 : tabL n f ptbr pages = T) (i k : Nat) (h : i < L.length) (h' : k < T.length) (he : L[i].fr = T[k]) : bits .and .i64 L[i].bi 4 = 0 := by
  subst e0 e1
  have hm : i < (mpL (mvE n f ptbr) (max 0 pages) (shLo fr) (shC fr cnt)).length := by simpa [entsL] using h
  obtain ⟨x, hx⟩ : ∃ x, (mpL (mvE n f ptbr) (max 0 pages) (shLo fr) (shC fr cnt))[i] = x := ⟨_, rfl⟩
  have hmem : x ∈ mpL (mvE n f ptbr) (max 0 pages) (shLo fr) (shC fr cnt) := by rw [← hx]; exact List.getElem_mem hm
  obtain ⟨a1, a2, a3, a4⟩ := mp_ok hf (shLo_pos fr).1 hmem
  have g0 : (entsL n f ptbr pages 0 fr cnt)[i] = shEnt (tabL n f ptbr (max 0 pages)) 0 x := by simp only [entsL, List.getElem_map, hx]
  rw [g0] at he ⊢
  rw [shEnt_fr _ _ _ (by omega) (by omega) a3 (by omega)] at he
  have hc : (tabL n f ptbr (max 0 pages)).contains (x.2 / 4096) = true := by
    rw [show max 0 pages = pages by omega, List.contains_iff_mem, show x.2 / 4096 = (tabL n f ptbr pages)[k] by omega]
    exact List.getElem_mem h'
  show bits .and .i64 (shBits _ x.2) 4 = 0
  unfold shBits
  rw [if_pos hc, bit2]
  omega

set_option maxRecDepth 100000 in
set_option maxHeartbeats 4000000 in
theorem shadowGuards_any (pages : Int) {ao : Option Addr} {cap : Nat} (l : List PokeD) (ptbr fr : Int) (w : World) (hl : Lst w ao l.length cap (l.flatMap pokeCells) 2) (hcap : ∀ ad, ao = some ad → 0 < l.length → ad.block < w.heap.size) :
    Calls Try.prog 4 #[.int .i64 pages, .slice ao l.length cap, .int .i64 ptbr, .int .i64 fr] w fun e w' => e = .returned (.bool true) ∧ Below w.heap.size w w' := by
  have hm1 := hl.mx
  have hm2 := hl.le
  unfold maxLen at hm1
  have eb : bits .and .i64 ptbr 2147483648 = ptbr / 2147483648 % 2 * 2147483648 := bit31 ptbr
  by_cases hin : 1 ≤ pages ∧ pages ≤ 16 ∧ l.length ≤ 200 ∧ ptbr / 2147483648 % 2 = 1
  · obtain ⟨h1, h2, h3, h4⟩ := hin
    have eb2 : (bits .and .i64 ptbr 2147483648 == 0) = false := by rw [eb, h4]; rfl
    clear eb
    go_enter Try.func4, Try.ntmps4
    go_wp2_with fail
    refine (alive17 _).mono ?_
    rintro e w1 ⟨rfl, B1⟩
    have C1 := Chg.of_below B1 (fun _ => False)
    have hl1 := hl.chg C1 (fun _ _ h => h)
    have hz := B1.size
    have HB := both_any pages l w1 hl1 (fun ad e h => Nat.lt_of_lt_of_le (hcap ad e h) hz)
    obtain ⟨nn, hnn⟩ : ∃ nn, pgN pages = nn := ⟨_, rfl⟩
    rw [hnn] at HB
    clear hl C1 hl1 hnn
    go_wp2_with fail
    refine HB.mono ?_
    rintro e w2 ⟨a, b, c, d, rfl, M2, R2, C2, ha, hb, hc, hd⟩
    obtain ⟨f, hf⟩ : ∃ f, pokes nn l (fun _ => 0) = f := ⟨_, rfl⟩
    rw [hf] at M2
    obtain ⟨L, e0⟩ : ∃ L, entsL nn f ptbr pages 0 fr 1000 = L := ⟨_, rfl⟩
    obtain ⟨T, e1⟩ : ∃ T, tabL nn f ptbr pages = T := ⟨_, rfl⟩
    have HG := Lib.hid (fun i k h h' he => ents_guard M2.rng ptbr pages fr 1000 h1 h2 L T e0 e1 i k h h' he)
    have hl0 : L.length ≤ 4096 := by rw [← e0]; exact ents_len _ _ _ _ _ _ _
    have hl1 : T.length ≤ 1025 := by rw [← e1]; exact tabL_len _ _ _ _
    have B2 := B1.trans (C2.below_of hz (fun _ h => h.elim))
    have HT := tables_any M2 ptbr pages
    rw [e1] at HT
    clear hf HB R2 B1 C2
    go_wp2_with fail
    refine HT.mono ?_
    rintro e w3 ⟨ao0, cap0, rfl, l0, -, C3⟩
    have M3 := M2.chg C3 (fun h => h) (fun h => h)
    have B3 := B2.trans (C3.below_of B2.size (fun _ h => h.elim))
    clear M2 HT
    go_wp2_with fail
    refine (build_lst M3 ptbr pages 0 fr 1000 L e0).mono ?_
    rintro e w4 ⟨ao1, cap1, rfl, E1, C4⟩
    have B4 := B3.trans (C4.below_of B3.size (fun _ h => h.elim))
    have t1 := l0.chg C4 (fun _ _ h => h)
    have l1 := E1.lst
    clear M3 e0 e1 E1 C3 C4 B2 B3 l0
    go_wp2_with fail
    go_loopg [14] L.length (fun g s14 wr => ∃ i : Nat, g + i = L.length ∧ s14 = .int .i64 i ∧ Chg w4 wr (fun _ => False))
    case atStart => exact ⟨0, rfl, rfl, Chg.refl _ _⟩
    case round =>
      obtain ⟨i, hi, rfl, Ci⟩ := hrel
      obtain ⟨gq, hgq⟩ : ∃ gq, gk = gq := ⟨_, rfl⟩
      have HI := Lib.hid hi
      rw [hgq] at HI
      by_cases hlt : i < L.length
      · obtain ⟨g1, o1, rfl⟩ := l1.pos (by omega)
        have c1 := Lst.cell (n := 3) (fun _ => rfl) l1 i 1 (by decide) hlt rfl
        have c2 := Lst.cell (n := 3) (fun _ => rfl) l1 i 2 (by decide) hlt rfl
        have HGi := Lib.hid (fun k h' he => HG.out i k hlt h' he)
        obtain ⟨xf, hxf⟩ : ∃ x, L[i].fr = x := ⟨_, rfl⟩
        obtain ⟨xb, hxb⟩ : ∃ x, L[i].bi = x := ⟨_, rfl⟩
        rw [hxf] at c1 HGi
        rw [hxb] at c2 HGi
        have hk0 : (0 : Int) ≤ (i : Int) := by omega
        have hk1 : (i : Int) < L.length := by omega
        clear hxf hxb hi l1 
        go_wp2_with fail
        go_loopg [15] T.length (fun g' s15 wr => ∃ k : Nat, g' + k = T.length ∧ s15 = .int .i64 k ∧ Chg w4 wr (fun _ => False))
        case atStart => exact ⟨0, rfl, rfl, Ci⟩
        case round =>
          obtain ⟨k, hk, rfl, Ck⟩ := hrel
          have HK := Lib.hid hk
          have t1 := t1.chg Ck (fun _ _ h => h)
          have c1 := Ck.cell c1 (fun h => h)
          have c2 := Ck.cell c2 (fun h => h)
          by_cases hlt2 : k < T.length
          · obtain ⟨g2, o2, rfl⟩ := t1.pos (by omega)
            have d1 := Lst.cell0 (n := 1) (l := T) (f := icell) (fun _ => rfl) t1 k (by decide) hlt2 rfl
            rw [Nat.mul_one] at d1
            have HGk := Lib.hid (fun he => HGi.out k hlt2 he)
            obtain ⟨y, hy⟩ : ∃ y, T[k] = y := ⟨_, rfl⟩
            rw [hy] at d1 HGk
            have hk2 : (0 : Int) ≤ (k : Int) := by omega
            have hk3 : (k : Int) < T.length := by omega
            clear hy hk t1
            by_cases hxy : xf = y
            · have hb4 := HGk.out hxy
              subst hxy
              go_wp2_with fail
              go_quiet (fail)
              go_wp2_with fail
              go_roundg (gk - 1)
              case measure => have := HK.out; omega
              case rel => exact ⟨k + 1, by have := HK.out; omega, by go_num, Ck.drewN _⟩
            · have hne : (xf == y) = false := beq_eq_false_iff_ne.2 hxy
              go_wp2_with fail
              go_quiet (fail)
              go_wp2_with fail
              go_roundg (gk - 1)
              case measure => have := HK.out; omega
              case rel => exact ⟨k + 1, by have := HK.out; omega, by go_num, Ck.drewN _⟩
          · obtain rfl : k = T.length := by omega
            clear hk
            go_wp2_with fail
            go_roundg (gq - 1)
            case measure => have := HI.out; omega
            case rel => exact ⟨i + 1, by have := HI.out; omega, by go_num, Ck⟩
  
      · obtain rfl : i = L.length := by omega
        clear hi
        go_wp2_with fail
        go_ret
        exact ⟨rfl, B4.trans (Ci.below_of B4.size (fun _ h => h.elim))⟩
  · by_cases hh : ptbr / 2147483648 % 2 = 1
    · have eb2 : (bits .and .i64 ptbr 2147483648 == 0) = false := by rw [eb, hh]; rfl
      clear eb
      go_enter Try.func4, Try.ntmps4
      go_wp2_with fail
      refine (alive17 _).mono ?_
      rintro e w1 ⟨rfl, B1⟩
      go_upto_if 36 with fail
      all_goals first
        | (exfalso; omega)
        | (go_wp2_with fail
           go_ret
           exact ⟨rfl, B1⟩)
    · have eb2 : (bits .and .i64 ptbr 2147483648 == 0) = true := by rw [eb]; exact beq_iff_eq.2 (by omega)
      clear eb
      go_enter Try.func4, Try.ntmps4
      go_wp2_with fail
      refine (alive17 _).mono ?_
      rintro e w1 ⟨rfl, B1⟩
      go_upto_if 36 with fail
      all_goals first
        | (exfalso; omega)
        | (go_wp2_with fail
           go_ret
           exact ⟨rfl, B1⟩)

set_option maxRecDepth 100000 in
theorem shadowGuards_walk : LawWalk 4 Try.f4 := by
  intro H enc W base args ds p hval hA
  rw [Try.params4] at hA hval
  obtain ⟨l⟩ := args
  obtain ⟨v0, l0, d0, e0, p0, q0, rfl, rfl, rfl, h0, hA0⟩ := trodAll_cons hA
  obtain ⟨v1, l1, d1, e1, p1, q1, rfl, rfl, rfl, h1, hA1⟩ := trodAll_cons hA0
  obtain ⟨v2, l2, d2, e2, p2, q2, rfl, rfl, rfl, h2, hA2⟩ := trodAll_cons hA1
  obtain ⟨v3, l3, d3, e3, p3, q3, rfl, rfl, rfl, h3, hA3⟩ := trodAll_cons hA2
  obtain ⟨rfl, rfl, rfl⟩ := trodAll_nil hA3
  obtain ⟨a0, rfl, rfl, rfl, w0⟩ := open_int Try.underlying3 (hval 0 3 v0 rfl rfl) h0
  obtain ⟨ao1, cap1, xs1, rfl, hl1, hb1⟩ := open_pokes (hval 1 22 v1 rfl rfl) h1
  obtain ⟨a2, rfl, rfl, rfl, w2⟩ := open_int Try.underlying3 (hval 2 3 v2 rfl rfl) h2
  obtain ⟨a3, rfl, rfl, rfl, w3⟩ := open_int Try.underlying3 (hval 3 3 v3 rfl rfl) h3
  exact shadowGuards_any a0 xs1 a2 a3 W hl1 hb1

set_option maxRecDepth 100000 in
theorem shadowGuards_lifted (os : Os) (started : os.Started) (H : Type) (enc : TypeId × Value → H) :
    ReturnsInHanded {} Try.checked os 4 .any (Rows.shadowGuardsSpec.pre6 enc Try.prog Try.f4 Rows.shadowGuardsRow.domain false) (Rows.shadowGuardsSpec.post enc Try.prog Try.f4 false true false false) :=
  law_lifted (s := Rows.shadowGuardsSpec) Try.func4 (by kernel_rfl) rfl (by kernel_rfl) (by kernel_rfl)
    (fun H ds h => by
      match ds, h with
      | [d0, d1, d2, d3], _ => rfl)
    shadowGuards_walk os started H enc
    (ChangeSpec.witness6 (enc := enc) (C := Try.checked) false ⟨#[], #[.int .i64 0, .slice none 0 0, .int .i64 0, .int .i64 0], []⟩ 8 (by kernel_rfl) (by kernel_rfl) (by kernel_rfl) (by kernel_rfl))

set_option maxRecDepth 100000 in
/-- THE STATEMENT. -/
theorem shadowGuards_holds : Rows.ShadowGuardsSaid :=
  OpenClaim.holds_of_wide 4 Try.f4 rfl rfl rfl rfl rfl rfl rfl ⟨rfl, rfl, rfl, rfl, rfl⟩ rfl rfl rfl rfl rfl (by kernel_rfl) Try.func4 (by kernel_rfl)
    (of_decide_eq_true (by kernel_rfl)) (by unfold Func.isWrapper; first | (rw [if_pos (by decide +kernel)]; kernel_rfl) | (rw [if_neg (by decide +kernel)]; exact ⟨rfl, rfl⟩))
    (fun os started H enc _ => shadowGuards_lifted os started H enc)
#print axioms shadowGuards_holds
end Go.Proofs.Ytadcmelbcahecaa

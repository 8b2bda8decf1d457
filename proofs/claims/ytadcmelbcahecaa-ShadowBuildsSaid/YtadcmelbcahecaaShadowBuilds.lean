/- ShadowBuilds: the entries that any table of a guest makes, and the frames that hold it. No condition. -/
import Derived.Test.YtadcmelbcahecaaShRSh
import Derived.Test.YtadcmelbcahecaaShPart
namespace Go.Proofs.Ytadcmelbcahecaa
open Go.ChangeShapes Go.WideShapes Go.ChangeAt Go.RowKit

set_option maxRecDepth 100000 in
theorem fits_nil (first pages : Int) {ao : Option Addr} {cap : Nat} (w : World) :
    Calls Try.prog 22 #[.slice ao 0 cap, .int .i64 first, .int .i64 pages] w fun e w' => e = .returned (.bool true) ∧ Chg w w' (fun _ => False) := by
  go_enter Try.func22, Try.ntmps22
  go_wp2_with fail
  go_loopg [11] 0 (fun g i wr => g = 0 ∧ i = .int .i64 0 ∧ Chg w wr (fun _ => False))
  case atStart => exact ⟨rfl, rfl, Chg.refl _ _⟩
  case round =>
    obtain ⟨hg, rfl, Ck⟩ := hrel
    go_wp2_with fail
    go_ret
    exact ⟨rfl, Ck⟩

theorem fits_law {n : Nat} {f : Nat → Int} (hf : ∀ i, i < n → 0 ≤ f i ∧ f i < 256) (ptbr pages first fr cnt : Int) (hp : pages ≤ 300) (h0 : 0 ≤ first) (h1 : first ≤ 1000) (L : List EntD) (e0 : entsL n f ptbr pages first fr cnt = L) {ao : Option Addr} {cap : Nat} (w : World) (hl : Lst w ao L.length cap (L.flatMap entCells) 3) (hcap : ∀ ad, ao = some ad → ∃ g, ad = ⟨g, 0, none⟩ ∧ g < w.heap.size) :
    Calls Try.prog 22 #[.slice ao L.length cap, .int .i64 first, .int .i64 pages] w fun e w' => e = .returned (.bool true) ∧ Chg w w' (fun _ => False) := by
  have hfit := ents_fit hf ptbr pages first fr cnt hp h0 h1 L e0
  rcases Nat.eq_zero_or_pos L.length with hz | hz
  · rw [hz]
    exact fits_nil first pages w
  · have hall := List.all_eq_true.1 (show L.all _ = true from hfit)
    have hp1 : 1 ≤ pages := by
      have := of_decide_eq_true (hall L[0] (List.getElem_mem hz))
      omega
    refine (fits_any first pages (by omega) (by omega) (by omega) (by omega) L w (fun x hx => ?_) hl (fun ad e _ => by obtain ⟨g, rfl, h⟩ := hcap ad e; exact h)).mono ?_
    · have := of_decide_eq_true (hall x hx)
      omega
    · rintro e w' ⟨rfl, C⟩
      rw [hfit]
      exact ⟨rfl, C⟩

set_option maxRecDepth 100000 in
set_option maxHeartbeats 8000000 in
theorem shadowBuilds_any (pages : Int) {ao : Option Addr} {cap : Nat} (l : List PokeD) (ptbr told first fr cnt : Int) (w : World) (hl : Lst w ao l.length cap (l.flatMap pokeCells) 2) (hcap : ∀ ad, ao = some ad → 0 < l.length → ad.block < w.heap.size) (hfr0 : -9223372036854775808 ≤ fr) (hfr1 : fr < 9223372036854775808) :
    Calls Try.prog 9 #[.int .i64 pages, .slice ao l.length cap, .int .i64 ptbr, .int .i64 told, .int .i64 first, .int .i64 fr, .int .i64 cnt] w fun e w' => e = .returned (.bool true) ∧ Below w.heap.size w w' := by
  have hm1 := hl.mx
  have hm2 := hl.le
  unfold maxLen at hm1
  by_cases hin : pages ≤ 16 ∧ l.length ≤ 200 ∧ told ≤ 300 ∧ 0 ≤ first ∧ first ≤ 1000
  · obtain ⟨h1, h2, h3, h4, h5⟩ := hin
    go_enter Try.func9, Try.ntmps9
    go_wp2_with fail
    refine (alive17 _).mono ?_
    rintro e w1 ⟨rfl, B1⟩
    have C1 := Chg.of_below B1 (fun _ => False)
    have hl1 := hl.chg C1 (fun _ _ h => h)
    have hz := B1.size
    have HB := both_any pages l w1 hl1 (fun ad e h => Nat.lt_of_lt_of_le (hcap ad e h) hz)
    obtain ⟨nn, hnn⟩ : ∃ nn, pgN pages = nn := ⟨_, rfl⟩
    rw [hnn] at HB
    clear hl C1 hl1 hnn
    go_wp2_with fail
    refine HB.mono ?_
    rintro e w2 ⟨a, b, c, d, rfl, M2, R2, C2, ha, hb, hc, hd⟩
    obtain ⟨f, hf⟩ : ∃ f, pokes nn l (fun _ => 0) = f := ⟨_, rfl⟩
    rw [hf] at M2 R2
    obtain ⟨L, e0⟩ : ∃ L, entsL nn f ptbr told first fr cnt = L := ⟨_, rfl⟩
    obtain ⟨T, e1⟩ : ∃ T, tabL nn f ptbr told = T := ⟨_, rfl⟩
    have HFL := Lib.hid (fun (ao : Option Addr) (cap : Nat) (wx : World) (hl : Lst wx ao L.length cap (L.flatMap entCells) 3) (hcap : ∀ ad, ao = some ad → ∃ g, ad = ⟨g, 0, none⟩ ∧ g < wx.heap.size) => fits_law M2.rng ptbr told first fr cnt h3 h4 h5 L e0 wx hl hcap)
    have hl0 : L.length ≤ 4096 := by rw [← e0]; exact ents_len _ _ _ _ _ _ _
    have hl1 : T.length ≤ 1025 := by rw [← e1]; exact tabL_len _ _ _ _
    have B2 := B1.trans (C2.below_of hz (fun _ h => h.elim))
    clear hf HB B1 C2
    go_wp2_with fail
    refine (build_lst M2 ptbr told first fr cnt L e0).mono ?_
    rintro e w3 ⟨ao0, cap0, rfl, E0, C3⟩
    have M3 := M2.chg C3 (fun h => h) (fun h => h)
    have R3 := R2.chg C3 (fun h => h) (fun h => h)
    have B3 := B2.trans (C3.below_of B2.size (fun _ h => h.elim))
    clear M2 R2
    go_wp2_with fail
    refine (rshadow_any R3 ptbr told first fr cnt hfr0 hfr1 L e0).mono ?_
    rintro e w4 ⟨v4, rfl, O4, C4⟩
    obtain ⟨ao4, cap4, rfl, -, -, -, -⟩ := own_form O4
    have M4 := M3.chg C4 (fun h => h) (fun h => h)
    have R4 := R3.chg C4 (fun h => h) (fun h => h)
    have B4 := B3.trans (C4.below_of B3.size (fun _ h => h.elim))
    clear M3 R3
    have HT := tables_any M4 ptbr told
    rw [e1] at HT
    go_wp2_with fail
    refine HT.mono ?_
    rintro e w5 ⟨ao5, cap5, rfl, l5, -, C5⟩
    have R5 := R4.chg C5 (fun h => h) (fun h => h)
    have B5 := B4.trans (C5.below_of B4.size (fun _ h => h.elim))
    clear M4 R4 HT
    have C35 := C4.trans C5
    have O0 := own_chg E0.own C35 (fun _ _ h => h)
    have lz := own_lst O0
    have l4 := (own_lst O4).chg C5 (fun _ _ h => h)
    have hw2 := B2.size
    have hw3 := C3.size
    have hw5 := C35.size
    have HA0 : Hid (∀ ad, ao0 = some ad → ∃ g, ad = ⟨g, 0, none⟩ ∧ w2.heap.size ≤ g ∧ g < w5.heap.size) := fun ad e => by
      obtain ⟨g, h, h6, h7⟩ := E0.at_ ad e
      exact ⟨g, h, h6, by omega⟩
    clear E0 O4 C3 C4 C5 C35 B2 B3 B4 e0
    go_wp2_with fail
    refine (same_ents L w5 lz l4).mono ?_
    rintro e w6 ⟨rfl, C6⟩
    have R6 := R5.chg C6 (fun h => h) (fun h => h)
    have l6 := l5.chg C6 (fun _ _ h => h)
    have O6 := own_chg O0 C6 (fun _ _ h => h)
    have hw6 := C6.size
    have B6 := B5.trans (C6.below_of B5.size (fun _ h => h.elim))
    clear R5 l5 O0 lz l4 C6 B5
    go_wp2_with fail
    refine (rtables_any R6 ptbr told T (by rw [rtL_eq]; exact e1)).mono ?_
    rintro e w7 ⟨ao7, cap7, rfl, I7, C7⟩
    have l7 := own_lst I7.own
    have l77 := l6.chg C7 (fun _ _ h => h)
    have O7 := own_chg O6 C7 (fun _ _ h => h)
    have hw7 := C7.size
    have B7 := B6.trans (C7.below_of B6.size (fun _ h => h.elim))
    clear R6 l6 O6 I7 C7 B6 e1
    go_wp2_with fail
    refine (sameints_any T w7 l77 l7).mono ?_
    rintro e w8 ⟨rfl, C8⟩
    have O8 := own_chg O7 C8 (fun _ _ h => h)
    have hw8 := C8.size
    have B8 := B7.trans (C8.below_of B7.size (fun _ h => h.elim))
    clear l77 l7 O7 C8 B7
    go_wp2_with fail
    refine (HFL.out ao0 cap0 w8 (own_lst O8) (fun ad e => by obtain ⟨g, h, h6, h7⟩ := HA0.out ad e; exact ⟨g, h, by omega⟩)).mono ?_
    rintro e w9 ⟨rfl, C9⟩
    have O9 := own_chg O8 C9 (fun _ _ h => h)
    have B9 := B8.trans (C9.below_of B8.size (fun _ h => h.elim))
    have hw9 := C9.size
    have HB9 := Lib.hid B9
    clear O8 C9 B8 HFL B9
    go_wp2_with fail
    go_loopg [21] L.length (fun g s21 wr => ∃ k : Nat, ∃ xs, g + k = L.length ∧ s21 = .int .i64 k ∧ wr.ownsRow w2.heap.size 35 3 (.slice ao0 L.length cap0) L.length xs ∧ Chg w9 wr (fun j => w2.heap.size ≤ j))
    case atStart => exact ⟨0, _, rfl, rfl, O9, Chg.refl _ _⟩
    case round =>
      obtain ⟨k, xs, hk, rfl, Ok, Ck⟩ := hrel
      have HK := Lib.hid hk
      by_cases hlt : k < L.length
      · have hxl : xs.length = L.length * 3 := Ok.1
        obtain ⟨g0, c0, hv0, hg0, hg1, hcc, hmx⟩ := own_block Ok (by omega)
        injection hv0 with hv1 hv2 hv3
        subst hv1 hv3
        have y0 := own_cells Ok (k * 3) (xs[k * 3]'(by omega)) (by simp)
        have y1 := own_cells Ok (k * 3 + 1) (xs[k * 3 + 1]'(by omega)) (by simp)
        have y2 := own_cells Ok (k * 3 + 2) (xs[k * 3 + 2]'(by omega)) (by simp)
        have z0 := own_frozen Ok (k * 3)
        have z1 := own_frozen Ok (k * 3 + 1)
        have z2 := own_frozen Ok (k * 3 + 2)
        have OK := Lib.hid Ok
        have hk0 : (0 : Int) ≤ (k : Int) := by omega
        have hk1 : (k : Int) < L.length := by omega
        generalize xs[k * 3]'(by omega) = u0 at y0
        generalize xs[k * 3 + 1]'(by omega) = u1 at y1
        generalize xs[k * 3 + 2]'(by omega) = u2 at y2
        clear Ok hk hxl
        go_wp2_with fail
        go_roundg (gk - 1)
        case measure => have := HK.out; omega
        case rel =>
          have O2 := own_setB (own_setB (own_setB OK.out (k * 3) (.int .i64 0)) (k * 3 + 1) (.int .i64 0)) (k * 3 + 2) (.int .i64 0)
          exact ⟨k + 1, _, by have := HK.out; omega, by go_num, O2, ((Ck.setCell (p := ⟨g0, k * 3, none⟩) (fun _ => hg0) _).setCell (p := ⟨g0, k * 3 + 1, none⟩) (fun _ => hg0) _).setCell (p := ⟨g0, k * 3 + 2, none⟩) (fun _ => hg0) _⟩
      · obtain rfl : k = L.length := by omega
        clear hk
        go_wp2_with fail
        go_ret
        exact ⟨rfl, HB9.out.trans (Ck.below_of HB9.out.size (fun _ h => by have h6 : w2.heap.size ≤ _ := h; omega))⟩
  · go_enter Try.func9, Try.ntmps9
    go_wp2_with fail
    refine (alive17 _).mono ?_
    rintro e w1 ⟨rfl, B1⟩
    go_upto_if 45 with fail
    all_goals first
      | (exfalso; omega)
      | (go_wp2_with fail
         go_ret
         exact ⟨rfl, B1⟩)

set_option maxRecDepth 100000 in
theorem shadowBuilds_walk : LawWalk 9 Try.f9 := by
  intro H enc W base args ds p hval hA
  rw [Try.params9] at hA hval
  obtain ⟨l⟩ := args
  obtain ⟨v0, l0, d0, e0, p0, q0, rfl, rfl, rfl, h0, hA0⟩ := trodAll_cons hA
  obtain ⟨v1, l1, d1, e1, p1, q1, rfl, rfl, rfl, h1, hA1⟩ := trodAll_cons hA0
  obtain ⟨v2, l2, d2, e2, p2, q2, rfl, rfl, rfl, h2, hA2⟩ := trodAll_cons hA1
  obtain ⟨v3, l3, d3, e3, p3, q3, rfl, rfl, rfl, h3, hA3⟩ := trodAll_cons hA2
  obtain ⟨v4, l4, d4, e4, p4, q4, rfl, rfl, rfl, h4, hA4⟩ := trodAll_cons hA3
  obtain ⟨v5, l5, d5, e5, p5, q5, rfl, rfl, rfl, h5, hA5⟩ := trodAll_cons hA4
  obtain ⟨v6, l6, d6, e6, p6, q6, rfl, rfl, rfl, h6, hA6⟩ := trodAll_cons hA5
  obtain ⟨rfl, rfl, rfl⟩ := trodAll_nil hA6
  obtain ⟨a0, rfl, rfl, rfl, w0⟩ := open_int Try.underlying3 (hval 0 3 v0 rfl rfl) h0
  obtain ⟨ao1, cap1, xs1, rfl, hl1, hb1⟩ := open_pokes (hval 1 22 v1 rfl rfl) h1
  obtain ⟨a2, rfl, rfl, rfl, w2⟩ := open_int Try.underlying3 (hval 2 3 v2 rfl rfl) h2
  obtain ⟨a3, rfl, rfl, rfl, w3⟩ := open_int Try.underlying3 (hval 3 3 v3 rfl rfl) h3
  obtain ⟨a4, rfl, rfl, rfl, w4⟩ := open_int Try.underlying3 (hval 4 3 v4 rfl rfl) h4
  obtain ⟨a5, rfl, rfl, rfl, w5⟩ := open_int Try.underlying3 (hval 5 3 v5 rfl rfl) h5
  obtain ⟨a6, rfl, rfl, rfl, w6⟩ := open_int Try.underlying3 (hval 6 3 v6 rfl rfl) h6
  have hr5 := i64_of_wf w5
  exact shadowBuilds_any a0 xs1 a2 a3 a4 a5 a6 W hl1 hb1 hr5.1 (by omega)

set_option maxRecDepth 100000 in
theorem shadowBuilds_lifted (os : Os) (started : os.Started) (H : Type) (enc : TypeId × Value → H) :
    ReturnsInHanded {} Try.checked os 9 .any (Rows.shadowBuildsSpec.pre6 enc Try.prog Try.f9 Rows.shadowBuildsRow.domain false) (Rows.shadowBuildsSpec.post enc Try.prog Try.f9 false true false false) :=
  law_lifted (s := Rows.shadowBuildsSpec) Try.func9 (by kernel_rfl) rfl (by kernel_rfl) (by kernel_rfl)
    (fun H ds h => by
      match ds, h with
      | [d0, d1, d2, d3, d4, d5, d6], _ => rfl)
    shadowBuilds_walk os started H enc
    (ChangeSpec.witness6 (enc := enc) (C := Try.checked) false ⟨#[], #[.int .i64 0, .slice none 0 0, .int .i64 0, .int .i64 0, .int .i64 0, .int .i64 0, .int .i64 0], []⟩ 8 (by kernel_rfl) (by kernel_rfl) (by kernel_rfl) (by kernel_rfl))

set_option maxRecDepth 100000 in
/-- THE STATEMENT. -/
theorem shadowBuilds_holds : Rows.ShadowBuildsSaid :=
  OpenClaim.holds_of_wide 9 Try.f9 rfl rfl rfl rfl rfl rfl rfl ⟨rfl, rfl, rfl, rfl, rfl⟩ rfl rfl rfl rfl rfl (by kernel_rfl) Try.func9 (by kernel_rfl)
    (of_decide_eq_true (by kernel_rfl)) (by unfold Func.isWrapper; first | (rw [if_pos (by decide +kernel)]; kernel_rfl) | (rw [if_neg (by decide +kernel)]; exact ⟨rfl, rfl⟩))
    (fun os started H enc _ => shadowBuilds_lifted os started H enc)
#print axioms shadowBuilds_holds
end Go.Proofs.Ytadcmelbcahecaa

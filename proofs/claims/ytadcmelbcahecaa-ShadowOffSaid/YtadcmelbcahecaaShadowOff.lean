/- ShadowOff: without paging each page of the guest is itself, and there are no others. No condition. -/
import Derived.Test.YtadcmelbcahecaaShAlive
namespace Go.Proofs.Ytadcmelbcahecaa
open Go.ChangeShapes Go.WideShapes Go.ChangeAt Go.RowKit

theorem mpL_off (n : Nat) (f : Nat → Int) (ptbr pages lo : Int) (hoff : onB ptbr = false) (h0 : 0 ≤ lo) : ∀ k : Nat, mpL (mvE n f ptbr) pages lo k = (List.range (min k (pages - lo).toNat)).map (fun j : Nat => (lo + j, (lo + j) * 4096 + 31))
  | 0 => by simp [mpL]
  | k + 1 => by
    have hm : mvE n f ptbr (lo + k) = ((lo + k) * 4096 + 31, true) := by unfold mvE; rw [hoff]; rfl
    unfold mpL
    rw [mpL_off n f ptbr pages lo hoff h0 k, hm]
    by_cases h : lo + (k : Int) < pages
    · rw [if_pos ⟨rfl, by dsimp only; omega⟩, show min (k + 1) (pages - lo).toNat = k + 1 by omega, show min k (pages - lo).toNat = k by omega, List.range_succ, List.map_append]
      rfl
    · rw [if_neg (fun h2 => h (by have := h2.2; dsimp only at this; omega)), List.append_nil, show min (k + 1) (pages - lo).toNat = min k (pages - lo).toNat by omega]

/-- The entries without paging. -/
def offL (first lo : Int) (m : Nat) : List EntD := (List.range m).map (fun j : Nat => ⟨lo + j, first + (lo + j), 30⟩)
def offM (pages fr cnt : Int) : Nat := (min (fr + cnt) pages - max fr 0).toNat
theorem ents_off (n : Nat) (f : Nat → Int) (pages first fr cnt : Int) (h1 : 0 ≤ pages) (h2 : pages ≤ 32) (h3 : 0 ≤ first) (h4 : first ≤ 200) (h5 : -50 ≤ fr) (h6 : fr ≤ 50) (h7 : 0 ≤ cnt) (h8 : cnt ≤ 100) :
    entsL n f 5 pages first fr cnt = offL first (max fr 0) (offM pages fr cnt) := by
  have hlo : shLo fr = max fr 0 := by unfold shLo; split <;> omega
  have hT : tabL n f 5 (max 0 pages) = [] := rfl
  unfold entsL
  rw [hT, show max 0 pages = pages by omega, hlo, mpL_off n f 5 pages (max fr 0) rfl (by omega)]
  have hc : min (shC fr cnt) (pages - max fr 0).toNat = offM pages fr cnt := by
    unfold shC shHi shN offM
    rw [hlo]
    split <;> omega
  rw [hc, List.map_map]
  unfold offL
  refine List.map_congr_left (fun j hj => ?_)
  have hj' := List.mem_range.1 hj
  have hjm : (j : Int) < min (fr + cnt) pages - max fr 0 := by unfold offM at hj'; omega
  show shEnt [] first (max fr 0 + j, (max fr 0 + j) * 4096 + 31) = _
  unfold shEnt shBits
  dsimp only
  rw [show ((max fr 0 + (j : Int)) * 4096 + 31) / 4096 = max fr 0 + j by omega, IntWalk.wrap64_in _ (by omega), if_neg (by simp), show ((max fr 0 + (j : Int)) * 4096 + 31) / 2 % 16 * 2 = 30 by omega]

set_option maxRecDepth 100000 in
set_option maxHeartbeats 4000000 in
theorem shadowOff_any (pages first fr cnt : Int) (w : World) :
    Calls Try.prog 5 #[.int .i64 pages, .int .i64 first, .int .i64 fr, .int .i64 cnt] w fun e w' => e = .returned (.bool true) ∧ Below w.heap.size w w' := by
  by_cases hin : 0 ≤ pages ∧ pages ≤ 32 ∧ 0 ≤ first ∧ first ≤ 200 ∧ -50 ≤ fr ∧ fr ≤ 50 ∧ 0 ≤ cnt ∧ cnt ≤ 100
  · obtain ⟨h1, h2, h3, h4, h5, h6, h7, h8⟩ := hin
    have HE := Lib.hid (fun n f => ents_off n f pages first fr cnt h1 h2 h3 h4 h5 h6 h7 h8)
    obtain ⟨m, hm⟩ : ∃ m, offM pages fr cnt = m := ⟨_, rfl⟩
    obtain ⟨lo, hlo⟩ : ∃ lo, max fr 0 = lo := ⟨_, rfl⟩
    have HM : Hid ((m : Int) = max 0 (min (fr + cnt) pages - lo)) := by show _ = _; rw [← hm, ← hlo]; unfold offM; omega
    rw [hm, hlo] at HE
    have HLO := Lib.hid hlo
    have hml : m ≤ 32 := by rw [← hm]; unfold offM; omega
    clear hm hlo
    obtain ⟨L, hL⟩ : ∃ L, offL first lo m = L := ⟨_, rfl⟩
    have hLl' : Hid (L.length = m) := by show _ = _; rw [← hL]; simp [offL]
    have hLb : L.length ≤ 32 := by rw [hLl'.out]; exact hml
    have HG : Hid (∀ j (h : j < L.length), L[j] = ⟨lo + j, first + (lo + j), 30⟩) := fun j h => by subst hL; simp [offL]
    rw [hL] at HE
    clear hL
    have HB := fun wx => both_any pages (ao := none) (cap := 0) [] wx (Lst.none wx 2) (fun ad h => by cases h)
    obtain ⟨f, hf⟩ : ∃ f, pokes (pgN pages) [] (fun _ => 0) = f := ⟨_, rfl⟩
    obtain ⟨nn, hnn⟩ : ∃ nn, pgN pages = nn := ⟨_, rfl⟩
    rw [hf, hnn] at HB
    simp only [List.length_nil] at HB
    clear hf hnn
    go_enter Try.func5, Try.ntmps5
    go_wp2_with fail
    refine (alive17 _).mono ?_
    rintro e w1 ⟨rfl, B1⟩
    go_wp2_with fail
    refine (HB _).mono ?_
    rintro e w2 ⟨a, b, c, d, rfl, M2, R2, C2, ha, hb, hc, hd⟩
    go_wp2_with fail
    refine (build_lst M2 5 pages first fr cnt L (HE.out nn f)).mono ?_
    rintro e w3 ⟨ao, cap, rfl, EA, C3⟩
    have M3 := M2.chg C3 (fun h => h) (fun h => h)
    have HT := tables_any M3 5 pages
    rw [show tabL nn f 5 pages = [] from rfl] at HT
    have hl3 := EA.lst
    have B3 : Below w.heap.size w w3 := (B1.trans (C2.below_of B1.size (fun _ h => h.elim))).trans (C3.below_of (Nat.le_trans B1.size C2.size) (fun _ h => h.elim))
    have hsz := B3.size
    have HEA := Lib.hid EA.at_
    clear HB M2 R2 EA B1 C2 C3
    go_wp2_with fail
    go_loopg [13, 14] cnt.toNat (fun g s13 s14 wr => ∃ i : Nat, (g : Int) + i = cnt ∧ s14 = .int .i64 (fr + i) ∧ (∃ k : Nat, s13 = .int .i64 k ∧ (k : Int) = max 0 (min (fr + i) pages - lo)) ∧ wr = w3)
    case atStart => exact ⟨0, by omega, by simp, ⟨0, rfl, by have := HLO.out; omega⟩, rfl⟩
    case round =>
      obtain ⟨i, hi, rfl, ⟨k, rfl, hkk⟩, rfl⟩ := hrel
      have HK := Lib.hid hi
      have HKK := Lib.hid hkk
      obtain ⟨v, hv⟩ : ∃ v, fr + (i : Int) = v := ⟨_, rfl⟩
      have HV := Lib.hid hv
      rw [hv] at hkk ⊢
      have hvb0 : -50 ≤ v := by omega
      have hvb1 : v ≤ 150 := by omega
      by_cases hlt : v < fr + cnt
      · by_cases q1 : v < 0
        · clear hkk hv
          go_wp2_with fail
          go_roundg (gk - 1)
          case measure => have := HK.out; have := HV.out; omega
          case rel => exact ⟨i + 1, by have := HK.out; have := HV.out; omega, by have := HV.out; go_num, ⟨k, rfl, by have := HKK.out; have := HV.out; have := HLO.out; omega⟩, rfl⟩
        · by_cases q2 : v < pages
          · have hk2 : (k : Int) = v - lo := by have := HLO.out; omega
            have hkm : k < L.length := by have := HM.out; have := hLl'.out; omega
            have hx := HG.out k hkm
            obtain ⟨g, o, rfl⟩ := hl3.pos (by omega)
            have c0 := Lst.cell0 (n := 3) (fun _ => rfl) hl3 k (by decide) hkm rfl
            have c1 := Lst.cell (n := 3) (fun _ => rfl) hl3 k 1 (by decide) hkm rfl
            have c2 := Lst.cell (n := 3) (fun _ => rfl) hl3 k 2 (by decide) hkm rfl
            rw [hx] at c0 c1 c2
            rw [show lo + (k : Int) = v by omega] at c0 c1
            have hk0 : (0 : Int) ≤ (k : Int) := by omega
            have hk1 : (k : Int) < L.length := by omega
            clear hkk hv hx hk2 hkm HT hl3
            go_wp2_with fail
            go_roundg (gk - 1)
            case measure => have := HK.out; have := HV.out; omega
            case rel => exact ⟨i + 1, by have := HK.out; have := HV.out; omega, by have := HV.out; go_num, ⟨k + 1, by go_num, by have := HKK.out; have := HV.out; have := HLO.out; omega⟩, rfl⟩
          · clear hkk hv
            go_wp2_with fail
            go_roundg (gk - 1)
            case measure => have := HK.out; have := HV.out; omega
            case rel => exact ⟨i + 1, by have := HK.out; have := HV.out; omega, by have := HV.out; go_num, ⟨k, rfl, by have := HKK.out; have := HV.out; have := HLO.out; omega⟩, rfl⟩
      · have hkm : k = L.length := by have := HM.out; have := HKK.out; have := HV.out; have := HK.out; have := hLl'.out; omega
        subst hkm
        clear hkk hv
        go_wp2_with fail
        refine HT.mono ?_
        rintro e w4 ⟨ao2, cap2, rfl, HL4, -, C4⟩
        go_wp2_with fail
        go_ret
        exact ⟨by simp, B3.trans (C4.below_of hsz (fun _ h => h.elim))⟩
  · go_enter Try.func5, Try.ntmps5
    go_wp2_with fail
    refine (alive17 _).mono ?_
    rintro e w1 ⟨rfl, B1⟩
    go_upto_if 49 with fail
    all_goals first
      | (exfalso; omega)
      | (go_wp2_with fail
         go_ret
         exact ⟨rfl, B1⟩)

set_option maxRecDepth 100000 in
theorem shadowOff_walk : LawWalk 5 Try.f5 := by
  intro H enc W base args ds p hval hA
  rw [Try.params5] at hA hval
  obtain ⟨v0, v1, v2, v3, d0, d1, d2, d3, p0, p1, p2, p3, rfl, rfl, rfl, h0, h1, h2, h3⟩ := trodAll_four hA
  obtain ⟨a0, rfl, rfl, rfl, w0⟩ := open_int Try.underlying3 (hval 0 3 v0 rfl rfl) h0
  obtain ⟨a1, rfl, rfl, rfl, w1⟩ := open_int Try.underlying3 (hval 1 3 v1 rfl rfl) h1
  obtain ⟨a2, rfl, rfl, rfl, w2⟩ := open_int Try.underlying3 (hval 2 3 v2 rfl rfl) h2
  obtain ⟨a3, rfl, rfl, rfl, w3⟩ := open_int Try.underlying3 (hval 3 3 v3 rfl rfl) h3
  exact shadowOff_any a0 a1 a2 a3 W

set_option maxRecDepth 100000 in
theorem shadowOff_lifted (os : Os) (started : os.Started) (H : Type) (enc : TypeId × Value → H) :
    ReturnsInHanded {} Try.checked os 5 .any (Rows.shadowOffSpec.pre6 enc Try.prog Try.f5 Rows.shadowOffRow.domain false) (Rows.shadowOffSpec.post enc Try.prog Try.f5 false true false false) :=
  law_lifted (s := Rows.shadowOffSpec) Try.func5 (by kernel_rfl) rfl (by kernel_rfl) (by kernel_rfl)
    (fun H ds h => by
      match ds, h with
      | [d0, d1, d2, d3], _ => rfl)
    shadowOff_walk os started H enc
    (ChangeSpec.witness6 (enc := enc) (C := Try.checked) false ⟨#[], #[.int .i64 0, .int .i64 0, .int .i64 0, .int .i64 0], []⟩ 8 (by kernel_rfl) (by kernel_rfl) (by kernel_rfl) (by kernel_rfl))

set_option maxRecDepth 100000 in
/-- THE STATEMENT. -/
theorem shadowOff_holds : Rows.ShadowOffSaid :=
  OpenClaim.holds_of_wide 5 Try.f5 rfl rfl rfl rfl rfl rfl rfl ⟨rfl, rfl, rfl, rfl, rfl⟩ rfl rfl rfl rfl rfl (by kernel_rfl) Try.func5 (by kernel_rfl)
    (of_decide_eq_true (by kernel_rfl)) (by unfold Func.isWrapper; first | (rw [if_pos (by decide +kernel)]; kernel_rfl) | (rw [if_neg (by decide +kernel)]; exact ⟨rfl, rfl⟩))
    (fun os started H enc _ => shadowOff_lifted os started H enc)
#print axioms shadowOff_holds
end Go.Proofs.Ytadcmelbcahecaa

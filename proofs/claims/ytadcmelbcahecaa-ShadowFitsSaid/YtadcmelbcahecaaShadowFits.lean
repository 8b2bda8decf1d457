/- ShadowFits: entries fit just where each frame is the partition's. No condition. -/
import Derived.Test.YtadcmelbcahecaaShAlive
namespace Go.Proofs.Ytadcmelbcahecaa
open Go.ChangeShapes Go.WideShapes Go.ChangeAt Go.RowKit

set_option maxRecDepth 100000 in
set_option maxHeartbeats 4000000 in
theorem shadowFits_any {ao : Option Addr} {cap : Nat} (l : List EntD) (first pages : Int) (w : World) (hl : Lst w ao l.length cap (l.flatMap entCells) 3) (hcap : ∀ ad, ao = some ad → 0 < l.length → ad.block < w.heap.size) (hr : ∀ x ∈ l, -9223372036854775808 ≤ x.fr ∧ x.fr < 9223372036854775808) :
    Calls Try.prog 10 #[.slice ao l.length cap, .int .i64 first, .int .i64 pages] w fun e w' => e = .returned (.bool true) ∧ Below w.heap.size w w' := by
  have hm1 := hl.mx
  have hm2 := hl.le
  unfold maxLen at hm1
  by_cases hin : l.length ≤ 1000 ∧ -1000 ≤ first ∧ first ≤ 1000 ∧ -1000 ≤ pages ∧ pages ≤ 1000
  · obtain ⟨i1, i2, i3, i4, i5⟩ := hin
    go_enter Try.func10, Try.ntmps10
    go_wp2_with fail
    refine (alive17 _).mono ?_
    rintro e w1 ⟨rfl, B1⟩
    have C1 := Chg.of_below B1 (fun _ => False)
    have hl1 := hl.chg C1 (fun _ _ h => h)
    have hz := B1.size
    have HF := fits_any first pages i2 i3 i4 i5 l w1 hr hl1 (fun ad e h => Nat.lt_of_lt_of_le (hcap ad e h) hz)
    clear hl C1
    go_wp2_with fail
    go_loopg [8, 9] l.length (fun g s8 s9 wr => ∃ k : Nat, g + k = l.length ∧ s9 = .int .i64 k ∧ s8 = .bool (fitsB first pages (l.take k)) ∧ wr = w1)
    case atStart => exact ⟨0, rfl, rfl, rfl, rfl⟩
    case round =>
      obtain ⟨k, hk, rfl, rfl, rfl⟩ := hrel
      have HK := Lib.hid hk
      by_cases hlt : k < l.length
      · obtain ⟨g, o, rfl⟩ := hl1.pos (by omega)
        have c1 := Lst.cell (n := 3) (fun _ => rfl) hl1 k 1 (by decide) hlt rfl
        have HS := Lib.hid (fits_take (first := first) (pages := pages) hlt)
        obtain ⟨x, hx⟩ : ∃ x, l[k] = x := ⟨_, rfl⟩
        rw [hx] at c1 HS
        obtain ⟨bb, hbb⟩ : ∃ bb, fitsB first pages (l.take k) = bb := ⟨_, rfl⟩
        rw [hbb] at HS ⊢
        have hk0 : (0 : Int) ≤ (k : Int) := by omega
        have hk1 : (k : Int) < l.length := by omega
        clear hx hbb hk HF hl1
        cases bb
        · have HS2 : Hid (fitsB first pages (l.take (k + 1)) = false) := HS.out
          go_wp2_with fail
          go_roundg (gk - 1)
          case measure => have := HK.out; omega
          case rel => exact ⟨k + 1, by have := HK.out; omega, by go_num, by rw [HS2.out], rfl⟩
        · by_cases x1 : first ≤ x.fr
          · by_cases x2 : x.fr < first + pages
            · have HS2 : Hid (fitsB first pages (l.take (k + 1)) = true) := by show _ = _; rw [HS.out, decide_eq_true ⟨x1, x2⟩]; rfl
              go_wp2_with fail
              go_roundg (gk - 1)
              case measure => have := HK.out; omega
              case rel => exact ⟨k + 1, by have := HK.out; omega, by go_num, by rw [HS2.out], rfl⟩
            · have HS2 : Hid (fitsB first pages (l.take (k + 1)) = false) := by show _ = _; rw [HS.out, decide_eq_false (fun h => x2 h.2)]; rfl
              go_wp2_with fail
              go_roundg (gk - 1)
              case measure => have := HK.out; omega
              case rel => exact ⟨k + 1, by have := HK.out; omega, by go_num, by rw [HS2.out], rfl⟩
          · have HS2 : Hid (fitsB first pages (l.take (k + 1)) = false) := by show _ = _; rw [HS.out, decide_eq_false (fun h => x1 h.1)]; rfl
            go_wp2_with fail
            go_roundg (gk - 1)
            case measure => have := HK.out; omega
            case rel => exact ⟨k + 1, by have := HK.out; omega, by go_num, by rw [HS2.out], rfl⟩
      · obtain rfl : k = l.length := by omega
        rw [List.take_length]
        obtain ⟨bb, hbb⟩ : ∃ bb, fitsB first pages l = bb := ⟨_, rfl⟩
        rw [hbb] at HF ⊢
        clear hbb
        go_wp2_with fail
        refine HF.mono ?_
        rintro e w2 ⟨rfl, C2⟩
        clear HF
        go_wp2_with fail
        go_ret
        exact ⟨by simp, B1.trans (C2.below_of hz (fun _ h => h.elim))⟩
  · go_enter Try.func10, Try.ntmps10
    go_wp2_with fail
    refine (alive17 _).mono ?_
    rintro e w1 ⟨rfl, B1⟩
    go_upto_if 33 with fail
    all_goals first
      | (exfalso; omega)
      | (go_wp2_with fail
         go_ret
         exact ⟨rfl, B1⟩)

set_option maxRecDepth 100000 in
theorem shadowFits_walk : LawWalk 10 Try.f10 := by
  intro H enc W base args ds p hval hA
  rw [Try.params10] at hA hval
  obtain ⟨v0, v1, v2, d0, d1, d2, p0, p1, p2, rfl, rfl, rfl, h0, h1, h2⟩ := trodAll_three hA
  obtain ⟨ao, cap, l, rfl, hl, hb, hr⟩ := open_ents (hval 0 31 v0 rfl rfl) h0
  obtain ⟨a1, rfl, rfl, rfl, w1⟩ := open_int Try.underlying3 (hval 1 3 v1 rfl rfl) h1
  obtain ⟨a2, rfl, rfl, rfl, w2⟩ := open_int Try.underlying3 (hval 2 3 v2 rfl rfl) h2
  exact shadowFits_any l a1 a2 W hl hb hr

set_option maxRecDepth 100000 in
theorem shadowFits_lifted (os : Os) (started : os.Started) (H : Type) (enc : TypeId × Value → H) :
    ReturnsInHanded {} Try.checked os 10 .any (Rows.shadowFitsSpec.pre6 enc Try.prog Try.f10 Rows.shadowFitsRow.domain false) (Rows.shadowFitsSpec.post enc Try.prog Try.f10 false true false false) :=
  law_lifted (s := Rows.shadowFitsSpec) Try.func10 (by kernel_rfl) rfl (by kernel_rfl) (by kernel_rfl)
    (fun H ds h => by
      match ds, h with
      | [d0, d1, d2], _ => rfl)
    shadowFits_walk os started H enc
    (ChangeSpec.witness6 (enc := enc) (C := Try.checked) false ⟨#[], #[.slice none 0 0, .int .i64 0, .int .i64 0], []⟩ 8 (by kernel_rfl) (by kernel_rfl) (by kernel_rfl) (by kernel_rfl))

set_option maxRecDepth 100000 in
/-- THE STATEMENT. -/
theorem shadowFits_holds : Rows.ShadowFitsSaid :=
  OpenClaim.holds_of_wide 10 Try.f10 rfl rfl rfl rfl rfl rfl rfl ⟨rfl, rfl, rfl, rfl, rfl⟩ rfl rfl rfl rfl rfl (by kernel_rfl) Try.func10 (by kernel_rfl)
    (of_decide_eq_true (by kernel_rfl)) (by unfold Func.isWrapper; first | (rw [if_pos (by decide +kernel)]; kernel_rfl) | (rw [if_neg (by decide +kernel)]; exact ⟨rfl, rfl⟩))
    (fun os started H enc _ => shadowFits_lifted os started H enc)
#print axioms shadowFits_holds
end Go.Proofs.Ytadcmelbcahecaa

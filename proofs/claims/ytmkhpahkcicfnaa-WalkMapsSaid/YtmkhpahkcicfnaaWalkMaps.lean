/- WalkMaps: which entry every page has, by every table, or that it has none. No condition. -/
import Derived.Test.YtmkhpahkcicfnaaPokeArg
import Derived.Test.YtmkhpahkcicfnaaRMap
import Derived.Test.YtmkhpahkcicfnaaRow
namespace Go.Proofs.Ytmkhpahkcicfnaa
open Go.ChangeShapes Go.WideShapes Go.ChangeAt Go.RowKit

set_option maxRecDepth 100000 in
set_option maxHeartbeats 2000000 in
theorem walkMaps_any (pages : Int) {ao : Option Addr} {cap : Nat} (l : List PokeD) (ptbr vpn : Int) (w : World) (hl : Lst w ao l.length cap (l.flatMap pokeCells) 2) (hcap : ∀ ad, ao = some ad → 0 < l.length → ad.block < w.heap.size) :
    Calls Try.prog 12 #[.int .i64 pages, .slice ao l.length cap, .int .i64 ptbr, .int .i64 vpn] w fun e w' => e = .returned (.bool true) ∧ Below w.heap.size w w' := by
  have hm1 := hl.mx
  have hm2 := hl.le
  unfold maxLen at hm1
  by_cases hin : pages ≤ 32 ∧ l.length ≤ 200
  · have e1 : decide (32 < pages) = false := decide_eq_false (by omega)
    have e2 : decide ((200 : Int) < l.length) = false := decide_eq_false (by omega)
    go_enter Try.func12, Try.ntmps12
    go_wp2_with fail
    refine (alive5 _).mono ?_
    rintro e w1 ⟨rfl, B1⟩
    have C1 := Chg.of_below B1 (fun _ => False)
    have hl1 := hl.chg C1 (fun _ _ h => h)
    have hz := B1.size
    go_wp2_with fail
    refine (both_any pages l _ hl1 (fun ad e h => Nat.lt_of_lt_of_le (hcap ad e h) hz)).mono ?_
    rintro e w2 ⟨a, b, c, d, rfl, M2, R2, C2, ha, hb, hc, hd⟩
    have HM := map_any M2 ptbr vpn
    have HR := rmap_any R2 ptbr vpn
    obtain ⟨r, hr⟩ : ∃ r, mapV (pgN pages) (pokes (pgN pages) l fun _ => 0) ptbr vpn = r := ⟨_, rfl⟩
    rw [hr] at HM HR
    obtain ⟨r1, r2⟩ := r
    clear hr M2 R2
    go_wp2_with fail
    refine HM.mono ?_
    rintro e w3 ⟨rfl, rfl⟩
    go_wp2_with fail
    refine HR.mono ?_
    rintro e w3 ⟨rfl, rfl⟩
    clear HM HR
    go_wp2_with fail
    go_ret
    exact ⟨rfl, B1.trans (C2.below_of hz (fun _ h => h.elim))⟩
  · go_enter Try.func12, Try.ntmps12
    go_wp2_with fail
    refine (alive5 _).mono ?_
    rintro e w1 ⟨rfl, B1⟩
    go_upto_if 27 with fail
    all_goals first
      | (exfalso; omega)
      | (go_wp2_with fail
         go_ret
         exact ⟨rfl, B1⟩)

set_option maxRecDepth 100000 in
theorem walkMaps_walk : LawWalk 12 Try.f12 := by
  intro H enc W base args ds p hval hA
  rw [Try.params12] at hA hval
  obtain ⟨v0, v1, v2, v3, d0, d1, d2, d3, p0, p1, p2, p3, rfl, rfl, rfl, h0, h1, h2, h3⟩ := trodAll_four hA
  obtain ⟨a0, rfl, rfl, rfl, w0⟩ := open_int Try.underlying3 (hval 0 3 v0 rfl rfl) h0
  obtain ⟨ao, cap, l, rfl, hl, hb⟩ := open_pokes (hval 1 49 v1 rfl rfl) h1
  obtain ⟨a2, rfl, rfl, rfl, w2⟩ := open_int Try.underlying3 (hval 2 3 v2 rfl rfl) h2
  obtain ⟨a3, rfl, rfl, rfl, w3⟩ := open_int Try.underlying3 (hval 3 3 v3 rfl rfl) h3
  exact walkMaps_any a0 l a2 a3 W hl hb

set_option maxRecDepth 100000 in
theorem walkMaps_lifted (os : Os) (started : os.Started) (H : Type) (enc : TypeId × Value → H) :
    ReturnsInHanded {} Try.checked os 12 .any (Rows.walkMapsSpec.pre6 enc Try.prog Try.f12 Rows.walkMapsRow.domain false) (Rows.walkMapsSpec.post enc Try.prog Try.f12 false true false false) :=
  law_lifted (s := Rows.walkMapsSpec) Try.func12 (by kernel_rfl) rfl (by kernel_rfl) (by kernel_rfl)
    (fun H ds h => by
      match ds, h with
      | [d0, d1, d2, d3], _ => rfl)
    walkMaps_walk os started H enc
    (ChangeSpec.witness6 (enc := enc) (C := Try.checked) false ⟨#[], #[.int .i64 0, .slice none 0 0, .int .i64 0, .int .i64 0], []⟩ 8 (by kernel_rfl) (by kernel_rfl) (by kernel_rfl) (by kernel_rfl))

set_option maxRecDepth 100000 in
/-- THE STATEMENT. -/
theorem walkMaps_holds : Rows.WalkMapsSaid :=
  OpenClaim.holds_of_wide 12 Try.f12 rfl rfl rfl rfl rfl rfl rfl ⟨rfl, rfl, rfl, rfl, rfl⟩ rfl rfl rfl rfl rfl (by kernel_rfl) Try.func12 (by kernel_rfl)
    (of_decide_eq_true (by kernel_rfl)) (by unfold Func.isWrapper; first | (rw [if_pos (by decide +kernel)]; kernel_rfl) | (rw [if_neg (by decide +kernel)]; exact ⟨rfl, rfl⟩))
    (fun os started H enc _ => walkMaps_lifted os started H enc)
#print axioms walkMaps_holds
end Go.Proofs.Ytmkhpahkcicfnaa

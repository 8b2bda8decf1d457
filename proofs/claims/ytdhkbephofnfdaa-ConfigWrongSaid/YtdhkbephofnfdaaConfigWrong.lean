/- ConfigWrong: the law. -/
import Derived.Test.YtdhkbephofnfdaaRow
import Derived.Test.YtdhkbephofnfdaaWrong1
import Derived.Test.YtdhkbephofnfdaaWrong2
import Derived.Test.YtdhkbephofnfdaaWrong3
import Derived.Test.YtdhkbephofnfdaaWrong4
namespace Go.Proofs.Ytdhkbephofnfdaa
open Go.ChangeShapes Go.WideShapes Go.ChangeAt Go.RowKit

set_option maxRecDepth 100000 in
set_option maxHeartbeats 1000000 in
theorem wrong_far (x n : Int) (hx : x < 0 ∨ 11 < x) (w : World) : Calls Try.prog 3 #[.int .i64 x, .int .i64 n] w fun e w' => e = .returned (.bool true) ∧ Below w.heap.size w w' := by
  have x0 : (x == 0) = false := by simp; omega
  have x1 : (x == 1) = false := by simp; omega
  have x2 : (x == 2) = false := by simp; omega
  have x3 : (x == 3) = false := by simp; omega
  have x4 : (x == 4) = false := by simp; omega
  have x5 : (x == 5) = false := by simp; omega
  have x6 : (x == 6) = false := by simp; omega
  have x7 : (x == 7) = false := by simp; omega
  have x8 : (x == 8) = false := by simp; omega
  have x9 : (x == 9) = false := by simp; omega
  have x10 : (x == 10) = false := by simp; omega
  have x11 : (x == 11) = false := by simp; omega
  clear hx
  obtain ⟨i0, hi, hz0, hz1, hz2⟩ := info_parts info_part
  go_enter Try.func3, Try.ntmps3
  go_wp2_with fail
  refine (alive_any _).mono ?_
  rintro e w1 ⟨rfl, C1⟩
  go_wp2_with fail
  refine (one_any _).mono ?_
  rintro e w2 ⟨p, q, rfl, H2⟩
  have hpl := H2.pb.lt
  have hql := H2.qb.lt
  have hp1 : p ≠ w2.heap.size := by omega
  have hp2 : w2.heap.size ≠ p := by omega
  have SB := wr_src w2 p q
  have OA := wr_own H2
  have hcl : w1.heap.size ≤ w2.heap.size := H2.chg.size
  go_wp2_with (at_builtin; refine wpList_append_src _ rfl (.tmp 13) (.tmp 15) _ rfl w1.heap.size 30 i0 _ 3 32 Try.underlying23 hi hz0 hz1 hz2 rfl (by omega) _ 1 _ rfl OA _ 1 1 _ rfl SB (by intro u hu; simp at hu; rcases hu with rfl | rfl | rfl <;> rfl) (by unfold maxLen; omega) (by omega) (by simp; omega) ?_; intro v1 w3 hown3 hgr3; refine ?roundEnd)
  obtain ⟨b, cap, rfl, hbg, d0, d1, d2, d3, d4, d5, l0, l1, l2, l3, l4, l5, L3, M3, C3, hb1, hb3, hfg, hfb⟩ := wr_mid H2 hown3 hgr3
  clear hown3 hgr3 SB OA
  have hgb : w2.heap.size ≠ b := fun h => hbg h.symm
  refine ?rest
  have f0 := hfg 0
  have f1 := hfg 1
  have f2 := hfg 2
  have f3 := hfg 3
  have f4 := hfg 4
  have f5 := hfg 5
  have fb4 := hfb 4
  have fb5 := hfb 5
  clear hfg hfb
  have hz3 := M3.lt
  have hgl : w2.heap.size < w1.heap.size → False := by omega
  have hbl : b < w1.heap.size → False := by omega
  go_wp2_with fail
  go_ret
  exact ⟨rfl, (C1.trans (((((C3.setCell hgl _).setCell hgl _).setCell hgl _).alloc _).alloc _)).below_of (Nat.le_refl _) (fun _ h => h.elim)⟩

theorem configWrong_any (x n : Int) (w : World) : Calls Try.prog 3 #[.int .i64 x, .int .i64 n] w fun e w' => e = .returned (.bool true) ∧ Below w.heap.size w w' := by
  by_cases h : x < 0 ∨ 11 < x
  · exact wrong_far x n h w
  have h2 : x = 0 ∨ x = 1 ∨ x = 2 ∨ x = 3 ∨ x = 4 ∨ x = 5 ∨ x = 6 ∨ x = 7 ∨ x = 8 ∨ x = 9 ∨ x = 10 ∨ x = 11 := by omega
  rcases h2 with rfl | rfl | rfl | rfl | rfl | rfl | rfl | rfl | rfl | rfl | rfl | rfl
  · exact wrong0 n w
  · exact wrong1 n w
  · exact wrong2 n w
  · exact wrong3 n w
  · exact wrong4 n w
  · exact wrong5 n w
  · exact wrong6 n w
  · exact wrong7 n w
  · exact wrong8 n w
  · exact wrong9 n w
  · exact wrong10 n w
  · exact wrong11 n w

set_option maxRecDepth 100000 in
theorem configWrong_walk : LawWalk 3 Try.f3 := by
  intro H enc W base args ds p hval hA
  rw [Try.params3] at hA hval
  obtain ⟨v0, v1, d0, d1, p0, p1, rfl, rfl, rfl, h0, h1⟩ := trodAll_two hA
  obtain ⟨a0, rfl, rfl, rfl, w0⟩ := open_int Try.underlying3 (hval 0 3 v0 rfl rfl) h0
  obtain ⟨a1, rfl, rfl, rfl, w1⟩ := open_int Try.underlying3 (hval 1 3 v1 rfl rfl) h1
  exact configWrong_any a0 a1 W

set_option maxRecDepth 100000 in
theorem configWrong_lifted (os : Os) (started : os.Started) (H : Type) (enc : TypeId × Value → H) :
    ReturnsInHanded {} Try.checked os 3 .any (Rows.configWrongSpec.pre6 enc Try.prog Try.f3 Rows.configWrongRow.domain false) (Rows.configWrongSpec.post enc Try.prog Try.f3 false true false false) :=
  law_lifted (s := Rows.configWrongSpec) Try.func3 (by kernel_rfl) rfl (by kernel_rfl) (by kernel_rfl)
    (fun H ds h => by
      match ds, h with
      | [d0, d1], _ => rfl)
    configWrong_walk os started H enc
    (ChangeSpec.witness6 (enc := enc) (C := Try.checked) false ⟨#[], #[.int .i64 0, .int .i64 0], []⟩ 8 (by kernel_rfl) (by kernel_rfl) (by kernel_rfl) (by kernel_rfl))

set_option maxRecDepth 100000 in
/-- THE STATEMENT. -/
theorem configWrong_holds : Rows.ConfigWrongSaid :=
  OpenClaim.holds_of_wide 3 Try.f3 rfl rfl rfl rfl rfl rfl rfl ⟨rfl, rfl, rfl, rfl, rfl⟩ rfl rfl rfl rfl rfl (by kernel_rfl) Try.func3 (by kernel_rfl)
    (of_decide_eq_true (by kernel_rfl)) (by unfold Func.isWrapper; first | (rw [if_pos (by decide +kernel)]; kernel_rfl) | (rw [if_neg (by decide +kernel)]; exact ⟨rfl, rfl⟩))
    (fun os started H enc _ => configWrong_lifted os started H enc)
#print axioms configWrong_holds
end Go.Proofs.Ytdhkbephofnfdaa

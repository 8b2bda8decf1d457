/- ImageReads: the walk. -/
import Derived.Test.YtgblnmahniphdaaImgL0
namespace Go.Proofs.Ytgblnmahniphdaa
open Go.RowKit

set_option maxHeartbeats 1600000 in
theorem imageReads_out {ao : Option Addr} {m c : Nat} (w : World) (h : 20000 < m) :
    Calls Try.prog 8 #[.slice ao m c] w fun e w' => e = .returned (.bool true) ∧ Below w.heap.size w w' := by
  have d1 : decide ((20000 : Int) < (m : Int)) = true := decide_eq_true (by omega)
  clear h
  go_enter Try.func8, Try.ntmps8
  go_wp2_with fail
  refine (alive_any _).mono ?_
  rintro e w1 ⟨rfl, C1⟩
  go_wp2_with fail
  go_ret
  exact ⟨rfl, C1.below (Nat.le_refl _) (fun _ _ h => h)⟩

set_option maxRecDepth 100000 in
set_option maxHeartbeats 3200000 in
theorem imageReads_in {ao : Option Addr} {m c : Nat} {xs : List Int} (w : World) (hL : Lst w ao m c (u8s xs) 1) (hx : ∀ x ∈ xs, 0 ≤ x ∧ x < 256) (h : m ≤ 20000) :
    Calls Try.prog 8 #[.slice ao m c] w fun e w' => e = .returned (.bool true) ∧ Below w.heap.size w w' := by
  have d1 : decide ((20000 : Int) < (m : Int)) = false := decide_eq_false (by omega)
  obtain ⟨i0, hi0, hz0, hz1, hz2⟩ := info_parts info_u8i
  have HL := Lib.hid hL
  clear hL
  go_enter Try.func8, Try.ntmps8
  go_wp2_with fail
  refine (alive_any _).mono ?_
  rintro e w1 ⟨rfl, C1⟩
  have S1 := HL.out.src.chg C1 (fun _ _ h => h)
  go_wp2_with (at_builtin; go_loud (refine wpList_append_src _ rfl (.const (.slice none 0 0)) (.tmp 18) _ rfl w1.heap.size 5 i0 _ 1 1 Try.underlying37 hi0 hz0 hz1 hz2 rfl (by omega) _ 0 [] rfl ⟨rfl, .inl ⟨rfl, rfl⟩⟩ _ m c _ rfl S1 (u8s_one _) (by unfold maxLen; omega) (by omega) (Nat.le_refl _) ?_); go_loud (intro v2 w2 O2 hgr2); go_loud (rw [Nat.zero_add, List.nil_append] at O2); go_loud (obtain ⟨a2, c2, rfl, _⟩ := own_form O2))
  have C2 : Chg w w2 (fun _ => False) := C1.grown hgr2 (fun k hk _ => by cases hk)
  refine (unpack_any w2 (own_lst O2) hx (by omega)).mono ?_
  rintro r w3 ⟨e3, a3, n3, c3, q3, rfl, C3, hg3, hb3⟩
  have C13 := C2.trans C3
  have hb := Lib.hid hb3
  have hg := Lib.hid hg3
  clear hb3 hg3
  obtain ⟨w4, hw4⟩ : ∃ w4, w3.alloc (.cells #[.int .i64 e3, .slice a3 n3 c3] 39) = w4 := ⟨_, rfl⟩
  have B4 : Box w4 w3.heap.size 39 #[.int .i64 e3, .slice a3 n3 c3] := by rw [← hw4]; exact Box.new _ _ _
  have C34 : Chg w3 w4 (fun _ => False) := by rw [← hw4]; exact (Chg.refl w3 _).alloc _
  go_wp2_with fail
  have C4 := C13.trans C34
  refine (read_any w4 (HL.out.chg C4 (fun _ _ h => h)) hx (by omega)).mono ?_
  rintro r w5 ⟨e5, a5, n5, c5, q5, rfl, C5, hg5, hb5⟩
  have hbb := Lib.hid hb5
  have hgg := Lib.hid hg5
  clear hb5 hg5
  obtain ⟨w6, hw6⟩ : ∃ w6, w5.alloc (.cells #[.int .i64 e5, .slice a5 n5 c5] 39) = w6 := ⟨_, rfl⟩
  have B6 : Box w6 w5.heap.size 39 #[.int .i64 e5, .slice a5 n5 c5] := by rw [← hw6]; exact Box.new _ _ _
  have C56 : Chg w5 w6 (fun _ => False) := by rw [← hw6]; exact (Chg.refl w5 _).alloc _
  have B46 := B4.chg (C5.trans C56) (fun h => h)
  have C6 := C4.trans (C5.trans C56)
  have y0 := B46.cell 0
  have y1 := B46.cell 1
  have z0 := B6.cell 0
  have z1 := B6.cell 1
  by_cases hgd : goodI xs
  · obtain ⟨rfl, rfl, rfl, O3⟩ := hg.out hgd
    obtain ⟨rfl, rfl, rfl, O5⟩ := hgg.out hgd
    have k3 := conv_rule w6 (own_src (own_chg O3 (C34.trans (C5.trans C56)) (fun _ _ h => h)))
    have k5 := conv_rule w6 (own_src (own_chg O5 C56 (fun _ _ h => h)))
    generalize strOfNums (midB xs) = st at k3 k5
    generalize numB xs 4 = nn at *
    clear hb hg hbb hgg hgd O2 O3 O5 B4 B6 B46
    go_wp2_with (go_at_call 21; refine (num_any _ _).mono ?_; rintro e w' ⟨rfl, rfl⟩)
    go_ret
    exact ⟨by simp, C6.below (Nat.le_refl _) (fun _ _ h => h)⟩
  · obtain ⟨rfl, rfl, rfl, rfl, rfl⟩ := hb.out hgd
    obtain ⟨rfl, rfl, rfl, rfl, rfl⟩ := hbb.out hgd
    have k3 := conv_rule w6 (show Src w6 none 0 0 (u8s []) 1 from ⟨rfl, fun _ => ⟨rfl, rfl⟩, fun ad h => (by cases h)⟩)
    generalize strOfNums [] = st at k3
    clear hb hg hbb hgg hgd O2 B4 B6 B46
    subst hw6
    go_wp2_with (go_at_call 21; refine (num_any _ _).mono ?_; rintro e w' ⟨rfl, rfl⟩)
    go_ret
    exact ⟨by simp, C6.below (Nat.le_refl _) (fun _ _ h => h)⟩
end Go.Proofs.Ytgblnmahniphdaa

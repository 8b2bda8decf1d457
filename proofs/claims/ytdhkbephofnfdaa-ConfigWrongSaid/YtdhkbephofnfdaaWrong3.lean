/- ConfigWrong: cases [6, 7, 8] (printed by gen_wrong.py). -/
import Derived.Test.YtdhkbephofnfdaaWrong0
namespace Go.Proofs.Ytdhkbephofnfdaa
open Go.RowKit

theorem wr_chk6lo (n : Int) (hn : n < 1) : chk (wrC 20 10 0 2 1 ⟨1, 0, 1, 8, n⟩ ⟨0, 4, 0⟩ ⟨5, 5, 1⟩) = 13 := by
  unfold chk
  rw [wr_parts, wr_mem, wr_chans, wr_wins]
  show (if wi 20 5 256 = false then (11 : Int) else _) = _
  simp only [wi, chOk, decide_eq_false_iff_not, Bool.and_eq_false_iff, Bool.or_eq_false_iff, bne_eq_false_iff_eq, beq_eq_false_iff_ne, ne_eq]
  repeat' split
  all_goals first | rfl | (exfalso; simp_all; done) | (exfalso; simp_all; omega) | trace_state

set_option maxRecDepth 100000 in
set_option maxHeartbeats 1000000 in
theorem wrong6lo (n : Int) (hn : n < 1) (w : World) : Calls Try.prog 3 #[.int .i64 6, .int .i64 n] w fun e w' => e = .returned (.bool true) ∧ Below w.heap.size w w' := by
  have e0 : decide (1 ≤ n) = false := decide_eq_false (by omega)
  obtain ⟨i0, hi, hz0, hz1, hz2⟩ := info_parts info_part
  go_enter Try.func3, Try.ntmps3
  go_wp2_with fail
  refine (alive_any _).mono ?_
  rintro e w1 ⟨rfl, C1⟩
  go_wp2_with fail
  refine (one_any _).mono ?_
  rintro e w2 ⟨p, q, rfl, H2⟩
  have hpl := H2.pb.lt
  have hql := H2.qb.lt
  have hp1 : p ≠ w2.heap.size := by omega
  have hp2 : w2.heap.size ≠ p := by omega
  have SB := wr_src w2 p q
  have OA := wr_own H2
  have hcl : w1.heap.size ≤ w2.heap.size := H2.chg.size
  go_wp2_with (at_builtin; refine wpList_append_src _ rfl (.tmp 13) (.tmp 15) _ rfl w1.heap.size 30 i0 _ 3 32 Try.underlying23 hi hz0 hz1 hz2 rfl (by omega) _ 1 _ rfl OA _ 1 1 _ rfl SB (by intro u hu; simp at hu; rcases hu with rfl | rfl | rfl <;> rfl) (by unfold maxLen; omega) (by omega) (by simp; omega) ?_; intro v1 w3 hown3 hgr3; refine ?roundEnd)
  obtain ⟨b, cap, rfl, hbg, d0, d1, d2, d3, d4, d5, l0, l1, l2, l3, l4, l5, L3, M3, C3, hb1, hb3, hfg, hfb⟩ := wr_mid H2 hown3 hgr3
  clear hown3 hgr3 SB OA
  have hgb : w2.heap.size ≠ b := fun h => hbg h.symm
  refine ?rest
  have f0 := hfg 0
  have f1 := hfg 1
  have f2 := hfg 2
  have f3 := hfg 3
  have f4 := hfg 4
  have f5 := hfg 5
  have fb4 := hfb 4
  have fb5 := hfb 5
  clear hfg hfb
  have hz3 := M3.lt
  have hgl : w2.heap.size < w1.heap.size → False := by omega
  have hbl : b < w1.heap.size → False := by omega
  have HK := Lib.hid (wr_chk6lo n hn)
  clear hn
  go_wp2_with fail
  refine (check_any (C := (wrC 20 10 0 2 1 ⟨1, 0, 1, 8, n⟩ ⟨0, 4, 0⟩ ⟨5, 5, 1⟩)) _ (wr_at 20 10 0 2 1 ⟨1, 0, 1, 8, n⟩ ⟨0, 4, 0⟩ ⟨5, 5, 1⟩ (((L3.far (ne_some hbg) _).far (ne_some hbg) _).far (ne_some hbg) _) (by simp))).mono ?_
  rintro e w4 ⟨rfl, C4⟩
  rw [HK.out]
  go_wp2_with (go_at_call 16; refine (num_any _ _).mono ?_; rintro e w' ⟨rfl, rfl⟩)
  go_ret
  exact ⟨rfl, (C1.trans (((((C3.setCell hgl _).setCell hgl _).setCell hgl _).alloc _).alloc _ |>.trans C4)).below_of (Nat.le_refl _) (fun _ h => h.elim)⟩

theorem wr_chk6in (n : Int) (hn : 1 ≤ n ∧ n ≤ 16) : chk (wrC 20 10 0 2 1 ⟨1, 0, 1, 8, n⟩ ⟨0, 4, 0⟩ ⟨5, 5, 1⟩) = 0 := by
  unfold chk
  rw [wr_parts, wr_mem, wr_chans, wr_wins]
  show (if wi 20 5 256 = false then (11 : Int) else _) = _
  simp only [wi, chOk, decide_eq_false_iff_not, Bool.and_eq_false_iff, Bool.or_eq_false_iff, bne_eq_false_iff_eq, beq_eq_false_iff_ne, ne_eq]
  repeat' split
  all_goals first | rfl | (exfalso; simp_all; done) | (exfalso; simp_all; omega) | trace_state

set_option maxRecDepth 100000 in
set_option maxHeartbeats 1000000 in
theorem wrong6in (n : Int) (hn : 1 ≤ n ∧ n ≤ 16) (w : World) : Calls Try.prog 3 #[.int .i64 6, .int .i64 n] w fun e w' => e = .returned (.bool true) ∧ Below w.heap.size w w' := by
  have e0 : decide (1 ≤ n) = true := decide_eq_true (by omega)
  have e1 : decide (n ≤ 16) = true := decide_eq_true (by omega)
  obtain ⟨i0, hi, hz0, hz1, hz2⟩ := info_parts info_part
  go_enter Try.func3, Try.ntmps3
  go_wp2_with fail
  refine (alive_any _).mono ?_
  rintro e w1 ⟨rfl, C1⟩
  go_wp2_with fail
  refine (one_any _).mono ?_
  rintro e w2 ⟨p, q, rfl, H2⟩
  have hpl := H2.pb.lt
  have hql := H2.qb.lt
  have hp1 : p ≠ w2.heap.size := by omega
  have hp2 : w2.heap.size ≠ p := by omega
  have SB := wr_src w2 p q
  have OA := wr_own H2
  have hcl : w1.heap.size ≤ w2.heap.size := H2.chg.size
  go_wp2_with (at_builtin; refine wpList_append_src _ rfl (.tmp 13) (.tmp 15) _ rfl w1.heap.size 30 i0 _ 3 32 Try.underlying23 hi hz0 hz1 hz2 rfl (by omega) _ 1 _ rfl OA _ 1 1 _ rfl SB (by intro u hu; simp at hu; rcases hu with rfl | rfl | rfl <;> rfl) (by unfold maxLen; omega) (by omega) (by simp; omega) ?_; intro v1 w3 hown3 hgr3; refine ?roundEnd)
  obtain ⟨b, cap, rfl, hbg, d0, d1, d2, d3, d4, d5, l0, l1, l2, l3, l4, l5, L3, M3, C3, hb1, hb3, hfg, hfb⟩ := wr_mid H2 hown3 hgr3
  clear hown3 hgr3 SB OA
  have hgb : w2.heap.size ≠ b := fun h => hbg h.symm
  refine ?rest
  have f0 := hfg 0
  have f1 := hfg 1
  have f2 := hfg 2
  have f3 := hfg 3
  have f4 := hfg 4
  have f5 := hfg 5
  have fb4 := hfb 4
  have fb5 := hfb 5
  clear hfg hfb
  have hz3 := M3.lt
  have hgl : w2.heap.size < w1.heap.size → False := by omega
  have hbl : b < w1.heap.size → False := by omega
  have HK := Lib.hid (wr_chk6in n hn)
  clear hn
  go_wp2_with fail
  refine (check_any (C := (wrC 20 10 0 2 1 ⟨1, 0, 1, 8, n⟩ ⟨0, 4, 0⟩ ⟨5, 5, 1⟩)) _ (wr_at 20 10 0 2 1 ⟨1, 0, 1, 8, n⟩ ⟨0, 4, 0⟩ ⟨5, 5, 1⟩ (((L3.far (ne_some hbg) _).far (ne_some hbg) _).far (ne_some hbg) _) (by simp))).mono ?_
  rintro e w4 ⟨rfl, C4⟩
  rw [HK.out]
  go_wp2_with (go_at_call 16; refine (num_any _ _).mono ?_; rintro e w' ⟨rfl, rfl⟩)
  go_ret
  exact ⟨rfl, (C1.trans (((((C3.setCell hgl _).setCell hgl _).setCell hgl _).alloc _).alloc _ |>.trans C4)).below_of (Nat.le_refl _) (fun _ h => h.elim)⟩

theorem wr_chk6hi (n : Int) (hn : 16 < n) : chk (wrC 20 10 0 2 1 ⟨1, 0, 1, 8, n⟩ ⟨0, 4, 0⟩ ⟨5, 5, 1⟩) = 13 := by
  unfold chk
  rw [wr_parts, wr_mem, wr_chans, wr_wins]
  show (if wi 20 5 256 = false then (11 : Int) else _) = _
  simp only [wi, chOk, decide_eq_false_iff_not, Bool.and_eq_false_iff, Bool.or_eq_false_iff, bne_eq_false_iff_eq, beq_eq_false_iff_ne, ne_eq]
  repeat' split
  all_goals first | rfl | (exfalso; simp_all; done) | (exfalso; simp_all; omega) | trace_state

set_option maxRecDepth 100000 in
set_option maxHeartbeats 1000000 in
theorem wrong6hi (n : Int) (hn : 16 < n) (w : World) : Calls Try.prog 3 #[.int .i64 6, .int .i64 n] w fun e w' => e = .returned (.bool true) ∧ Below w.heap.size w w' := by
  have e0 : decide (1 ≤ n) = true := decide_eq_true (by omega)
  have e1 : decide (n ≤ 16) = false := decide_eq_false (by omega)
  obtain ⟨i0, hi, hz0, hz1, hz2⟩ := info_parts info_part
  go_enter Try.func3, Try.ntmps3
  go_wp2_with fail
  refine (alive_any _).mono ?_
  rintro e w1 ⟨rfl, C1⟩
  go_wp2_with fail
  refine (one_any _).mono ?_
  rintro e w2 ⟨p, q, rfl, H2⟩
  have hpl := H2.pb.lt
  have hql := H2.qb.lt
  have hp1 : p ≠ w2.heap.size := by omega
  have hp2 : w2.heap.size ≠ p := by omega
  have SB := wr_src w2 p q
  have OA := wr_own H2
  have hcl : w1.heap.size ≤ w2.heap.size := H2.chg.size
  go_wp2_with (at_builtin; refine wpList_append_src _ rfl (.tmp 13) (.tmp 15) _ rfl w1.heap.size 30 i0 _ 3 32 Try.underlying23 hi hz0 hz1 hz2 rfl (by omega) _ 1 _ rfl OA _ 1 1 _ rfl SB (by intro u hu; simp at hu; rcases hu with rfl | rfl | rfl <;> rfl) (by unfold maxLen; omega) (by omega) (by simp; omega) ?_; intro v1 w3 hown3 hgr3; refine ?roundEnd)
  obtain ⟨b, cap, rfl, hbg, d0, d1, d2, d3, d4, d5, l0, l1, l2, l3, l4, l5, L3, M3, C3, hb1, hb3, hfg, hfb⟩ := wr_mid H2 hown3 hgr3
  clear hown3 hgr3 SB OA
  have hgb : w2.heap.size ≠ b := fun h => hbg h.symm
  refine ?rest
  have f0 := hfg 0
  have f1 := hfg 1
  have f2 := hfg 2
  have f3 := hfg 3
  have f4 := hfg 4
  have f5 := hfg 5
  have fb4 := hfb 4
  have fb5 := hfb 5
  clear hfg hfb
  have hz3 := M3.lt
  have hgl : w2.heap.size < w1.heap.size → False := by omega
  have hbl : b < w1.heap.size → False := by omega
  have HK := Lib.hid (wr_chk6hi n hn)
  clear hn
  go_wp2_with fail
  refine (check_any (C := (wrC 20 10 0 2 1 ⟨1, 0, 1, 8, n⟩ ⟨0, 4, 0⟩ ⟨5, 5, 1⟩)) _ (wr_at 20 10 0 2 1 ⟨1, 0, 1, 8, n⟩ ⟨0, 4, 0⟩ ⟨5, 5, 1⟩ (((L3.far (ne_some hbg) _).far (ne_some hbg) _).far (ne_some hbg) _) (by simp))).mono ?_
  rintro e w4 ⟨rfl, C4⟩
  rw [HK.out]
  go_wp2_with (go_at_call 16; refine (num_any _ _).mono ?_; rintro e w' ⟨rfl, rfl⟩)
  go_ret
  exact ⟨rfl, (C1.trans (((((C3.setCell hgl _).setCell hgl _).setCell hgl _).alloc _).alloc _ |>.trans C4)).below_of (Nat.le_refl _) (fun _ h => h.elim)⟩

theorem wrong6 (n : Int) (w : World) : Calls Try.prog 3 #[.int .i64 6, .int .i64 n] w fun e w' => e = .returned (.bool true) ∧ Below w.heap.size w w' := by
  rcases (show n < 1 ∨ (1 ≤ n ∧ n ≤ 16) ∨ 16 < n by omega) with h | h | h
  · exact wrong6lo n h w
  · exact wrong6in n h w
  · exact wrong6hi n h w

theorem wr_chk7lo (n : Int) (hn : n < 10) : chk (wrC 20 n 0 2 1 ⟨1, 0, 1, 8, 2⟩ ⟨0, 4, 0⟩ ⟨5, 5, 1⟩) = 12 := by
  unfold chk
  rw [wr_parts, wr_mem, wr_chans, wr_wins]
  show (if wi 20 5 256 = false then (11 : Int) else _) = _
  simp only [wi, chOk, decide_eq_false_iff_not, Bool.and_eq_false_iff, Bool.or_eq_false_iff, bne_eq_false_iff_eq, beq_eq_false_iff_ne, ne_eq]
  repeat' split
  all_goals first | rfl | (exfalso; simp_all; done) | (exfalso; simp_all; omega) | trace_state

set_option maxRecDepth 100000 in
set_option maxHeartbeats 1000000 in
theorem wrong7lo (n : Int) (hn : n < 10) (w : World) : Calls Try.prog 3 #[.int .i64 7, .int .i64 n] w fun e w' => e = .returned (.bool true) ∧ Below w.heap.size w w' := by
  have e0 : decide (10 ≤ n) = false := decide_eq_false (by omega)
  obtain ⟨i0, hi, hz0, hz1, hz2⟩ := info_parts info_part
  go_enter Try.func3, Try.ntmps3
  go_wp2_with fail
  refine (alive_any _).mono ?_
  rintro e w1 ⟨rfl, C1⟩
  go_wp2_with fail
  refine (one_any _).mono ?_
  rintro e w2 ⟨p, q, rfl, H2⟩
  have hpl := H2.pb.lt
  have hql := H2.qb.lt
  have hp1 : p ≠ w2.heap.size := by omega
  have hp2 : w2.heap.size ≠ p := by omega
  have SB := wr_src w2 p q
  have OA := wr_own H2
  have hcl : w1.heap.size ≤ w2.heap.size := H2.chg.size
  go_wp2_with (at_builtin; refine wpList_append_src _ rfl (.tmp 13) (.tmp 15) _ rfl w1.heap.size 30 i0 _ 3 32 Try.underlying23 hi hz0 hz1 hz2 rfl (by omega) _ 1 _ rfl OA _ 1 1 _ rfl SB (by intro u hu; simp at hu; rcases hu with rfl | rfl | rfl <;> rfl) (by unfold maxLen; omega) (by omega) (by simp; omega) ?_; intro v1 w3 hown3 hgr3; refine ?roundEnd)
  obtain ⟨b, cap, rfl, hbg, d0, d1, d2, d3, d4, d5, l0, l1, l2, l3, l4, l5, L3, M3, C3, hb1, hb3, hfg, hfb⟩ := wr_mid H2 hown3 hgr3
  clear hown3 hgr3 SB OA
  have hgb : w2.heap.size ≠ b := fun h => hbg h.symm
  refine ?rest
  have f0 := hfg 0
  have f1 := hfg 1
  have f2 := hfg 2
  have f3 := hfg 3
  have f4 := hfg 4
  have f5 := hfg 5
  have fb4 := hfb 4
  have fb5 := hfb 5
  clear hfg hfb
  have hz3 := M3.lt
  have hgl : w2.heap.size < w1.heap.size → False := by omega
  have hbl : b < w1.heap.size → False := by omega
  have HK := Lib.hid (wr_chk7lo n hn)
  clear hn
  go_wp2_with fail
  refine (check_any (C := (wrC 20 n 0 2 1 ⟨1, 0, 1, 8, 2⟩ ⟨0, 4, 0⟩ ⟨5, 5, 1⟩)) _ (wr_at 20 n 0 2 1 ⟨1, 0, 1, 8, 2⟩ ⟨0, 4, 0⟩ ⟨5, 5, 1⟩ ((((L3.far (ne_some hbg) _).far (ne_some hbg) _).far (ne_some hbg) _).far (ne_some hbg) _) (by simp))).mono ?_
  rintro e w4 ⟨rfl, C4⟩
  rw [HK.out]
  go_wp2_with (go_at_call 16; refine (num_any _ _).mono ?_; rintro e w' ⟨rfl, rfl⟩)
  go_ret
  exact ⟨rfl, (C1.trans ((((((C3.setCell hgl _).setCell hgl _).setCell hgl _).setCell hgl _).alloc _).alloc _ |>.trans C4)).below_of (Nat.le_refl _) (fun _ h => h.elim)⟩

theorem wr_chk7in (n : Int) (hn : 10 ≤ n ∧ n ≤ 100000) : chk (wrC 20 n 0 2 1 ⟨1, 0, 1, 8, 2⟩ ⟨0, 4, 0⟩ ⟨5, 5, 1⟩) = 0 := by
  unfold chk
  rw [wr_parts, wr_mem, wr_chans, wr_wins]
  show (if wi 20 5 256 = false then (11 : Int) else _) = _
  simp only [wi, chOk, decide_eq_false_iff_not, Bool.and_eq_false_iff, Bool.or_eq_false_iff, bne_eq_false_iff_eq, beq_eq_false_iff_ne, ne_eq]
  repeat' split
  all_goals first | rfl | (exfalso; simp_all; done) | (exfalso; simp_all; omega) | trace_state

set_option maxRecDepth 100000 in
set_option maxHeartbeats 1000000 in
theorem wrong7in (n : Int) (hn : 10 ≤ n ∧ n ≤ 100000) (w : World) : Calls Try.prog 3 #[.int .i64 7, .int .i64 n] w fun e w' => e = .returned (.bool true) ∧ Below w.heap.size w w' := by
  have e0 : decide (10 ≤ n) = true := decide_eq_true (by omega)
  have e1 : decide (n ≤ 100000) = true := decide_eq_true (by omega)
  obtain ⟨i0, hi, hz0, hz1, hz2⟩ := info_parts info_part
  go_enter Try.func3, Try.ntmps3
  go_wp2_with fail
  refine (alive_any _).mono ?_
  rintro e w1 ⟨rfl, C1⟩
  go_wp2_with fail
  refine (one_any _).mono ?_
  rintro e w2 ⟨p, q, rfl, H2⟩
  have hpl := H2.pb.lt
  have hql := H2.qb.lt
  have hp1 : p ≠ w2.heap.size := by omega
  have hp2 : w2.heap.size ≠ p := by omega
  have SB := wr_src w2 p q
  have OA := wr_own H2
  have hcl : w1.heap.size ≤ w2.heap.size := H2.chg.size
  go_wp2_with (at_builtin; refine wpList_append_src _ rfl (.tmp 13) (.tmp 15) _ rfl w1.heap.size 30 i0 _ 3 32 Try.underlying23 hi hz0 hz1 hz2 rfl (by omega) _ 1 _ rfl OA _ 1 1 _ rfl SB (by intro u hu; simp at hu; rcases hu with rfl | rfl | rfl <;> rfl) (by unfold maxLen; omega) (by omega) (by simp; omega) ?_; intro v1 w3 hown3 hgr3; refine ?roundEnd)
  obtain ⟨b, cap, rfl, hbg, d0, d1, d2, d3, d4, d5, l0, l1, l2, l3, l4, l5, L3, M3, C3, hb1, hb3, hfg, hfb⟩ := wr_mid H2 hown3 hgr3
  clear hown3 hgr3 SB OA
  have hgb : w2.heap.size ≠ b := fun h => hbg h.symm
  refine ?rest
  have f0 := hfg 0
  have f1 := hfg 1
  have f2 := hfg 2
  have f3 := hfg 3
  have f4 := hfg 4
  have f5 := hfg 5
  have fb4 := hfb 4
  have fb5 := hfb 5
  clear hfg hfb
  have hz3 := M3.lt
  have hgl : w2.heap.size < w1.heap.size → False := by omega
  have hbl : b < w1.heap.size → False := by omega
  have HK := Lib.hid (wr_chk7in n hn)
  clear hn
  go_wp2_with fail
  refine (check_any (C := (wrC 20 n 0 2 1 ⟨1, 0, 1, 8, 2⟩ ⟨0, 4, 0⟩ ⟨5, 5, 1⟩)) _ (wr_at 20 n 0 2 1 ⟨1, 0, 1, 8, 2⟩ ⟨0, 4, 0⟩ ⟨5, 5, 1⟩ ((((L3.far (ne_some hbg) _).far (ne_some hbg) _).far (ne_some hbg) _).far (ne_some hbg) _) (by simp))).mono ?_
  rintro e w4 ⟨rfl, C4⟩
  rw [HK.out]
  go_wp2_with (go_at_call 16; refine (num_any _ _).mono ?_; rintro e w' ⟨rfl, rfl⟩)
  go_ret
  exact ⟨rfl, (C1.trans ((((((C3.setCell hgl _).setCell hgl _).setCell hgl _).setCell hgl _).alloc _).alloc _ |>.trans C4)).below_of (Nat.le_refl _) (fun _ h => h.elim)⟩

theorem wr_chk7hi (n : Int) (hn : 100000 < n) : chk (wrC 20 n 0 2 1 ⟨1, 0, 1, 8, 2⟩ ⟨0, 4, 0⟩ ⟨5, 5, 1⟩) = 12 := by
  unfold chk
  rw [wr_parts, wr_mem, wr_chans, wr_wins]
  show (if wi 20 5 256 = false then (11 : Int) else _) = _
  simp only [wi, chOk, decide_eq_false_iff_not, Bool.and_eq_false_iff, Bool.or_eq_false_iff, bne_eq_false_iff_eq, beq_eq_false_iff_ne, ne_eq]
  repeat' split
  all_goals first | rfl | (exfalso; simp_all; done) | (exfalso; simp_all; omega) | trace_state

set_option maxRecDepth 100000 in
set_option maxHeartbeats 1000000 in
theorem wrong7hi (n : Int) (hn : 100000 < n) (w : World) : Calls Try.prog 3 #[.int .i64 7, .int .i64 n] w fun e w' => e = .returned (.bool true) ∧ Below w.heap.size w w' := by
  have e0 : decide (10 ≤ n) = true := decide_eq_true (by omega)
  have e1 : decide (n ≤ 100000) = false := decide_eq_false (by omega)
  obtain ⟨i0, hi, hz0, hz1, hz2⟩ := info_parts info_part
  go_enter Try.func3, Try.ntmps3
  go_wp2_with fail
  refine (alive_any _).mono ?_
  rintro e w1 ⟨rfl, C1⟩
  go_wp2_with fail
  refine (one_any _).mono ?_
  rintro e w2 ⟨p, q, rfl, H2⟩
  have hpl := H2.pb.lt
  have hql := H2.qb.lt
  have hp1 : p ≠ w2.heap.size := by omega
  have hp2 : w2.heap.size ≠ p := by omega
  have SB := wr_src w2 p q
  have OA := wr_own H2
  have hcl : w1.heap.size ≤ w2.heap.size := H2.chg.size
  go_wp2_with (at_builtin; refine wpList_append_src _ rfl (.tmp 13) (.tmp 15) _ rfl w1.heap.size 30 i0 _ 3 32 Try.underlying23 hi hz0 hz1 hz2 rfl (by omega) _ 1 _ rfl OA _ 1 1 _ rfl SB (by intro u hu; simp at hu; rcases hu with rfl | rfl | rfl <;> rfl) (by unfold maxLen; omega) (by omega) (by simp; omega) ?_; intro v1 w3 hown3 hgr3; refine ?roundEnd)
  obtain ⟨b, cap, rfl, hbg, d0, d1, d2, d3, d4, d5, l0, l1, l2, l3, l4, l5, L3, M3, C3, hb1, hb3, hfg, hfb⟩ := wr_mid H2 hown3 hgr3
  clear hown3 hgr3 SB OA
  have hgb : w2.heap.size ≠ b := fun h => hbg h.symm
  refine ?rest
  have f0 := hfg 0
  have f1 := hfg 1
  have f2 := hfg 2
  have f3 := hfg 3
  have f4 := hfg 4
  have f5 := hfg 5
  have fb4 := hfb 4
  have fb5 := hfb 5
  clear hfg hfb
  have hz3 := M3.lt
  have hgl : w2.heap.size < w1.heap.size → False := by omega
  have hbl : b < w1.heap.size → False := by omega
  have HK := Lib.hid (wr_chk7hi n hn)
  clear hn
  go_wp2_with fail
  refine (check_any (C := (wrC 20 n 0 2 1 ⟨1, 0, 1, 8, 2⟩ ⟨0, 4, 0⟩ ⟨5, 5, 1⟩)) _ (wr_at 20 n 0 2 1 ⟨1, 0, 1, 8, 2⟩ ⟨0, 4, 0⟩ ⟨5, 5, 1⟩ ((((L3.far (ne_some hbg) _).far (ne_some hbg) _).far (ne_some hbg) _).far (ne_some hbg) _) (by simp))).mono ?_
  rintro e w4 ⟨rfl, C4⟩
  rw [HK.out]
  go_wp2_with (go_at_call 16; refine (num_any _ _).mono ?_; rintro e w' ⟨rfl, rfl⟩)
  go_ret
  exact ⟨rfl, (C1.trans ((((((C3.setCell hgl _).setCell hgl _).setCell hgl _).setCell hgl _).alloc _).alloc _ |>.trans C4)).below_of (Nat.le_refl _) (fun _ h => h.elim)⟩

theorem wrong7 (n : Int) (w : World) : Calls Try.prog 3 #[.int .i64 7, .int .i64 n] w fun e w' => e = .returned (.bool true) ∧ Below w.heap.size w w' := by
  rcases (show n < 10 ∨ (10 ≤ n ∧ n ≤ 100000) ∨ 100000 < n by omega) with h | h | h
  · exact wrong7lo n h w
  · exact wrong7in n h w
  · exact wrong7hi n h w

theorem wr_chk8lo (n : Int) (hn : n < 0) : chk (wrC 20 10 n 2 1 ⟨1, 0, 1, 8, 2⟩ ⟨0, 4, 0⟩ ⟨5, 5, 1⟩) = 12 := by
  unfold chk
  rw [wr_parts, wr_mem, wr_chans, wr_wins]
  show (if wi 20 5 256 = false then (11 : Int) else _) = _
  simp only [wi, chOk, decide_eq_false_iff_not, Bool.and_eq_false_iff, Bool.or_eq_false_iff, bne_eq_false_iff_eq, beq_eq_false_iff_ne, ne_eq]
  repeat' split
  all_goals first | rfl | (exfalso; simp_all; done) | (exfalso; simp_all; omega) | trace_state

set_option maxRecDepth 100000 in
set_option maxHeartbeats 1000000 in
theorem wrong8lo (n : Int) (hn : n < 0) (w : World) : Calls Try.prog 3 #[.int .i64 8, .int .i64 n] w fun e w' => e = .returned (.bool true) ∧ Below w.heap.size w w' := by
  have e0 : decide (0 ≤ n) = false := decide_eq_false (by omega)
  obtain ⟨i0, hi, hz0, hz1, hz2⟩ := info_parts info_part
  go_enter Try.func3, Try.ntmps3
  go_wp2_with fail
  refine (alive_any _).mono ?_
  rintro e w1 ⟨rfl, C1⟩
  go_wp2_with fail
  refine (one_any _).mono ?_
  rintro e w2 ⟨p, q, rfl, H2⟩
  have hpl := H2.pb.lt
  have hql := H2.qb.lt
  have hp1 : p ≠ w2.heap.size := by omega
  have hp2 : w2.heap.size ≠ p := by omega
  have SB := wr_src w2 p q
  have OA := wr_own H2
  have hcl : w1.heap.size ≤ w2.heap.size := H2.chg.size
  go_wp2_with (at_builtin; refine wpList_append_src _ rfl (.tmp 13) (.tmp 15) _ rfl w1.heap.size 30 i0 _ 3 32 Try.underlying23 hi hz0 hz1 hz2 rfl (by omega) _ 1 _ rfl OA _ 1 1 _ rfl SB (by intro u hu; simp at hu; rcases hu with rfl | rfl | rfl <;> rfl) (by unfold maxLen; omega) (by omega) (by simp; omega) ?_; intro v1 w3 hown3 hgr3; refine ?roundEnd)
  obtain ⟨b, cap, rfl, hbg, d0, d1, d2, d3, d4, d5, l0, l1, l2, l3, l4, l5, L3, M3, C3, hb1, hb3, hfg, hfb⟩ := wr_mid H2 hown3 hgr3
  clear hown3 hgr3 SB OA
  have hgb : w2.heap.size ≠ b := fun h => hbg h.symm
  refine ?rest
  have f0 := hfg 0
  have f1 := hfg 1
  have f2 := hfg 2
  have f3 := hfg 3
  have f4 := hfg 4
  have f5 := hfg 5
  have fb4 := hfb 4
  have fb5 := hfb 5
  clear hfg hfb
  have hz3 := M3.lt
  have hgl : w2.heap.size < w1.heap.size → False := by omega
  have hbl : b < w1.heap.size → False := by omega
  have HK := Lib.hid (wr_chk8lo n hn)
  clear hn
  go_wp2_with fail
  refine (check_any (C := (wrC 20 10 n 2 1 ⟨1, 0, 1, 8, 2⟩ ⟨0, 4, 0⟩ ⟨5, 5, 1⟩)) _ (wr_at 20 10 n 2 1 ⟨1, 0, 1, 8, 2⟩ ⟨0, 4, 0⟩ ⟨5, 5, 1⟩ ((((L3.far (ne_some hbg) _).far (ne_some hbg) _).far (ne_some hbg) _).far (ne_some hbg) _) (by simp))).mono ?_
  rintro e w4 ⟨rfl, C4⟩
  rw [HK.out]
  go_wp2_with (go_at_call 16; refine (num_any _ _).mono ?_; rintro e w' ⟨rfl, rfl⟩)
  go_ret
  exact ⟨rfl, (C1.trans ((((((C3.setCell hgl _).setCell hgl _).setCell hgl _).setCell hgl _).alloc _).alloc _ |>.trans C4)).below_of (Nat.le_refl _) (fun _ h => h.elim)⟩

theorem wr_chk8in (n : Int) (hn : 0 ≤ n ∧ n ≤ 3) : chk (wrC 20 10 n 2 1 ⟨1, 0, 1, 8, 2⟩ ⟨0, 4, 0⟩ ⟨5, 5, 1⟩) = 0 := by
  unfold chk
  rw [wr_parts, wr_mem, wr_chans, wr_wins]
  show (if wi 20 5 256 = false then (11 : Int) else _) = _
  simp only [wi, chOk, decide_eq_false_iff_not, Bool.and_eq_false_iff, Bool.or_eq_false_iff, bne_eq_false_iff_eq, beq_eq_false_iff_ne, ne_eq]
  repeat' split
  all_goals first | rfl | (exfalso; simp_all; done) | (exfalso; simp_all; omega) | trace_state

set_option maxRecDepth 100000 in
set_option maxHeartbeats 1000000 in
theorem wrong8in (n : Int) (hn : 0 ≤ n ∧ n ≤ 3) (w : World) : Calls Try.prog 3 #[.int .i64 8, .int .i64 n] w fun e w' => e = .returned (.bool true) ∧ Below w.heap.size w w' := by
  have e0 : decide (0 ≤ n) = true := decide_eq_true (by omega)
  have e1 : decide (n ≤ 3) = true := decide_eq_true (by omega)
  obtain ⟨i0, hi, hz0, hz1, hz2⟩ := info_parts info_part
  go_enter Try.func3, Try.ntmps3
  go_wp2_with fail
  refine (alive_any _).mono ?_
  rintro e w1 ⟨rfl, C1⟩
  go_wp2_with fail
  refine (one_any _).mono ?_
  rintro e w2 ⟨p, q, rfl, H2⟩
  have hpl := H2.pb.lt
  have hql := H2.qb.lt
  have hp1 : p ≠ w2.heap.size := by omega
  have hp2 : w2.heap.size ≠ p := by omega
  have SB := wr_src w2 p q
  have OA := wr_own H2
  have hcl : w1.heap.size ≤ w2.heap.size := H2.chg.size
  go_wp2_with (at_builtin; refine wpList_append_src _ rfl (.tmp 13) (.tmp 15) _ rfl w1.heap.size 30 i0 _ 3 32 Try.underlying23 hi hz0 hz1 hz2 rfl (by omega) _ 1 _ rfl OA _ 1 1 _ rfl SB (by intro u hu; simp at hu; rcases hu with rfl | rfl | rfl <;> rfl) (by unfold maxLen; omega) (by omega) (by simp; omega) ?_; intro v1 w3 hown3 hgr3; refine ?roundEnd)
  obtain ⟨b, cap, rfl, hbg, d0, d1, d2, d3, d4, d5, l0, l1, l2, l3, l4, l5, L3, M3, C3, hb1, hb3, hfg, hfb⟩ := wr_mid H2 hown3 hgr3
  clear hown3 hgr3 SB OA
  have hgb : w2.heap.size ≠ b := fun h => hbg h.symm
  refine ?rest
  have f0 := hfg 0
  have f1 := hfg 1
  have f2 := hfg 2
  have f3 := hfg 3
  have f4 := hfg 4
  have f5 := hfg 5
  have fb4 := hfb 4
  have fb5 := hfb 5
  clear hfg hfb
  have hz3 := M3.lt
  have hgl : w2.heap.size < w1.heap.size → False := by omega
  have hbl : b < w1.heap.size → False := by omega
  have HK := Lib.hid (wr_chk8in n hn)
  clear hn
  go_wp2_with fail
  refine (check_any (C := (wrC 20 10 n 2 1 ⟨1, 0, 1, 8, 2⟩ ⟨0, 4, 0⟩ ⟨5, 5, 1⟩)) _ (wr_at 20 10 n 2 1 ⟨1, 0, 1, 8, 2⟩ ⟨0, 4, 0⟩ ⟨5, 5, 1⟩ ((((L3.far (ne_some hbg) _).far (ne_some hbg) _).far (ne_some hbg) _).far (ne_some hbg) _) (by simp))).mono ?_
  rintro e w4 ⟨rfl, C4⟩
  rw [HK.out]
  go_wp2_with (go_at_call 16; refine (num_any _ _).mono ?_; rintro e w' ⟨rfl, rfl⟩)
  go_ret
  exact ⟨rfl, (C1.trans ((((((C3.setCell hgl _).setCell hgl _).setCell hgl _).setCell hgl _).alloc _).alloc _ |>.trans C4)).below_of (Nat.le_refl _) (fun _ h => h.elim)⟩

theorem wr_chk8hi (n : Int) (hn : 3 < n) : chk (wrC 20 10 n 2 1 ⟨1, 0, 1, 8, 2⟩ ⟨0, 4, 0⟩ ⟨5, 5, 1⟩) = 12 := by
  unfold chk
  rw [wr_parts, wr_mem, wr_chans, wr_wins]
  show (if wi 20 5 256 = false then (11 : Int) else _) = _
  simp only [wi, chOk, decide_eq_false_iff_not, Bool.and_eq_false_iff, Bool.or_eq_false_iff, bne_eq_false_iff_eq, beq_eq_false_iff_ne, ne_eq]
  repeat' split
  all_goals first | rfl | (exfalso; simp_all; done) | (exfalso; simp_all; omega) | trace_state

set_option maxRecDepth 100000 in
set_option maxHeartbeats 1000000 in
theorem wrong8hi (n : Int) (hn : 3 < n) (w : World) : Calls Try.prog 3 #[.int .i64 8, .int .i64 n] w fun e w' => e = .returned (.bool true) ∧ Below w.heap.size w w' := by
  have e0 : decide (0 ≤ n) = true := decide_eq_true (by omega)
  have e1 : decide (n ≤ 3) = false := decide_eq_false (by omega)
  obtain ⟨i0, hi, hz0, hz1, hz2⟩ := info_parts info_part
  go_enter Try.func3, Try.ntmps3
  go_wp2_with fail
  refine (alive_any _).mono ?_
  rintro e w1 ⟨rfl, C1⟩
  go_wp2_with fail
  refine (one_any _).mono ?_
  rintro e w2 ⟨p, q, rfl, H2⟩
  have hpl := H2.pb.lt
  have hql := H2.qb.lt
  have hp1 : p ≠ w2.heap.size := by omega
  have hp2 : w2.heap.size ≠ p := by omega
  have SB := wr_src w2 p q
  have OA := wr_own H2
  have hcl : w1.heap.size ≤ w2.heap.size := H2.chg.size
  go_wp2_with (at_builtin; refine wpList_append_src _ rfl (.tmp 13) (.tmp 15) _ rfl w1.heap.size 30 i0 _ 3 32 Try.underlying23 hi hz0 hz1 hz2 rfl (by omega) _ 1 _ rfl OA _ 1 1 _ rfl SB (by intro u hu; simp at hu; rcases hu with rfl | rfl | rfl <;> rfl) (by unfold maxLen; omega) (by omega) (by simp; omega) ?_; intro v1 w3 hown3 hgr3; refine ?roundEnd)
  obtain ⟨b, cap, rfl, hbg, d0, d1, d2, d3, d4, d5, l0, l1, l2, l3, l4, l5, L3, M3, C3, hb1, hb3, hfg, hfb⟩ := wr_mid H2 hown3 hgr3
  clear hown3 hgr3 SB OA
  have hgb : w2.heap.size ≠ b := fun h => hbg h.symm
  refine ?rest
  have f0 := hfg 0
  have f1 := hfg 1
  have f2 := hfg 2
  have f3 := hfg 3
  have f4 := hfg 4
  have f5 := hfg 5
  have fb4 := hfb 4
  have fb5 := hfb 5
  clear hfg hfb
  have hz3 := M3.lt
  have hgl : w2.heap.size < w1.heap.size → False := by omega
  have hbl : b < w1.heap.size → False := by omega
  have HK := Lib.hid (wr_chk8hi n hn)
  clear hn
  go_wp2_with fail
  refine (check_any (C := (wrC 20 10 n 2 1 ⟨1, 0, 1, 8, 2⟩ ⟨0, 4, 0⟩ ⟨5, 5, 1⟩)) _ (wr_at 20 10 n 2 1 ⟨1, 0, 1, 8, 2⟩ ⟨0, 4, 0⟩ ⟨5, 5, 1⟩ ((((L3.far (ne_some hbg) _).far (ne_some hbg) _).far (ne_some hbg) _).far (ne_some hbg) _) (by simp))).mono ?_
  rintro e w4 ⟨rfl, C4⟩
  rw [HK.out]
  go_wp2_with (go_at_call 16; refine (num_any _ _).mono ?_; rintro e w' ⟨rfl, rfl⟩)
  go_ret
  exact ⟨rfl, (C1.trans ((((((C3.setCell hgl _).setCell hgl _).setCell hgl _).setCell hgl _).alloc _).alloc _ |>.trans C4)).below_of (Nat.le_refl _) (fun _ h => h.elim)⟩

theorem wrong8 (n : Int) (w : World) : Calls Try.prog 3 #[.int .i64 8, .int .i64 n] w fun e w' => e = .returned (.bool true) ∧ Below w.heap.size w w' := by
  rcases (show n < 0 ∨ (0 ≤ n ∧ n ≤ 3) ∨ 3 < n by omega) with h | h | h
  · exact wrong8lo n h w
  · exact wrong8in n h w
  · exact wrong8hi n h w

end Go.Proofs.Ytdhkbephofnfdaa

/- TlbEvicts: the walk. -/
import Derived.Test.YtgblnmahniphdaaAlive6
namespace Go.Proofs.Ytgblnmahniphdaa
open Go.RowKit

set_option maxRecDepth 100000 in
set_option maxHeartbeats 4000000 in
theorem tlbEvicts_in (n : Nat) (k : Int) (hn : 1 ≤ n ∧ n ≤ 60) (w : World) :
    Calls Try.prog 4 #[.int .i64 n, .int .i64 k] w fun e w' => e = .returned (.bool true) ∧ Below w.heap.size w w' := by
  obtain ⟨hn1, hn2⟩ := hn
  have q0 : decide ((n : Int) < 1) = false := decide_eq_false (by omega)
  have q1 : decide ((60 : Int) < n) = false := decide_eq_false (by omega)
  have hmin : min (max 1 (n : Int)) 256 = n := by omega
  have HMIN := Lib.hid hmin
  clear hmin
  go_enter Try.func4, Try.ntmps4
  go_wp2_with fail
  refine (alive6 _).mono ?_
  rintro e w1 ⟨rfl, C1⟩
  go_wp2_with fail
  refine (TS.new C1 n).mono ?_
  rintro e w2 ⟨t, m, rfl, S2⟩
  rw [HMIN.out] at S2
  clear q0 q1
  go_wp2_with fail
  go_loopw [7] (fun i wr => ∃ j : Nat, j ≤ n ∧ i = .int .i64 j ∧ TS w t m n (segR 0 1 0 j) wr) (fun i _ => n - (intOf i).toNat)
  case atStart => exact ⟨0, by omega, rfl, S2⟩
  case round =>
    obtain ⟨j, hj, rfl, Sj⟩ := hrel
    by_cases hlt : j < n
    · have HP := Lib.hid (put_room (tag := 0) (c := 1) (m := j) (n := n) (by omega))
      go_wp2_with fail
      refine (Sj.put 0 j j (ok_small (by decide) (by decide)) (ok_small (by omega) (by omega))).mono ?_
      rintro e w3 ⟨rfl, S3⟩
      have S3' : TS w t m n (segR 0 1 0 (j + 1)) w3 := by
        rw [← HP.out, Int.one_mul]
        exact S3
      clear S3
      go_wp2_with fail
      go_roundw
      case rel => exact ⟨j + 1, by omega, by go_num, S3'⟩
      case measure => simp [intOf]; omega
    · have h5 : j = n := by omega
      subst h5
      go_wp2_with fail
      refine (Sj.evict k).mono ?_
      rintro e w3 ⟨rfl, S3⟩
      have HLK := Lib.hid (fun i hi => look_evict (n := j) k i hi)
      have HLN := Lib.hid (evict_len j k)
      obtain ⟨r3, hr3⟩ : ∃ r3, evR (segR 0 1 0 j) k = r3 := ⟨_, rfl⟩
      rw [hr3] at S3 HLK HLN
      clear hr3
      go_wp2_with fail
      go_loop [8] (fun i => ∃ z : Nat, z ≤ j ∧ i = .int .i64 z) (fun i => j - (intOf i).toNat)
      case atStart => exact ⟨0, by omega, rfl⟩
      case round =>
        obtain ⟨z, hz, rfl⟩ := hrel
        by_cases hlz : z < j
        · have hl := HLK.out z hlz
          by_cases he : (z : Int) = k
          · rw [if_pos he] at hl
            have HL := Lib.hid hl
            have q5 : ((z : Int) == k) = true := beq_iff_eq.2 he
            clear hl he
            go_wp2_with fail
            refine (S3.look 0 z (ok_small (by decide) (by decide)) (ok_small (by omega) (by omega))).mono ?_
            rintro e w4 ⟨rfl, rfl⟩
            rw [HL.out]
            go_wp2_with fail
            go_round
            case rel => exact ⟨z + 1, by omega, by go_num⟩
            case measure => simp [intOf]; omega
          · rw [if_neg he] at hl
            have HL := Lib.hid hl
            have q5 : ((z : Int) == k) = false := beq_eq_false_iff_ne.2 he
            clear hl he
            go_wp2_with fail
            refine (S3.look 0 z (ok_small (by decide) (by decide)) (ok_small (by omega) (by omega))).mono ?_
            rintro e w4 ⟨rfl, rfl⟩
            rw [HL.out]
            go_wp2_with fail
            go_round
            case rel => exact ⟨z + 1, by omega, by go_num⟩
            case measure => simp [intOf]; omega
        · have h6 : z = j := by omega
          subst h6
          have hln := HLN.out
          by_cases hk : 0 ≤ k ∧ k < z
          · rw [if_pos hk] at hln
            have q6 : decide (0 ≤ k) = true := decide_eq_true hk.1
            have q7 : decide (k < (z : Int)) = true := decide_eq_true hk.2
            have HL := Lib.hid hln
            clear hln hk
            go_wp2_with fail
            refine S3.tlen.mono ?_
            rintro e w4 ⟨rfl, rfl⟩
            rw [HL.out]
            go_wp2_with fail
            go_ret
            exact ⟨rfl, S3.below⟩
          · rw [if_neg hk] at hln
            have HL := Lib.hid hln
            clear hln
            by_cases hk0 : 0 ≤ k
            · have q6 : decide (0 ≤ k) = true := decide_eq_true hk0
              have q7 : decide (k < (z : Int)) = false := decide_eq_false (by omega)
              clear hk hk0
              go_wp2_with fail
              refine S3.tlen.mono ?_
              rintro e w4 ⟨rfl, rfl⟩
              rw [HL.out]
              go_wp2_with fail
              go_ret
              exact ⟨rfl, S3.below⟩
            · have q6 : decide (0 ≤ k) = false := decide_eq_false hk0
              clear hk hk0
              go_wp2_with fail
              refine S3.tlen.mono ?_
              rintro e w4 ⟨rfl, rfl⟩
              rw [HL.out]
              go_wp2_with fail
              go_ret
              exact ⟨rfl, S3.below⟩

set_option maxRecDepth 100000 in
set_option maxHeartbeats 2000000 in
theorem tlbEvicts_out (n k : Int) (h : ¬ (1 ≤ n ∧ n ≤ 60)) (w : World) :
    Calls Try.prog 4 #[.int .i64 n, .int .i64 k] w fun e w' => e = .returned (.bool true) ∧ Below w.heap.size w w' := by
  go_enter Try.func4, Try.ntmps4
  go_wp2_with fail
  refine (alive6 _).mono ?_
  rintro e w1 ⟨rfl, C1⟩
  go_upto_if 22 with fail
  all_goals first
    | (exfalso; omega)
    | (go_wp2_with fail
       go_ret
       exact ⟨rfl, C1.below_of (Nat.le_refl _) (fun _ h => h.elim)⟩)
theorem tlbEvicts_any (n k : Int) (w : World) :
    Calls Try.prog 4 #[.int .i64 n, .int .i64 k] w fun e w' => e = .returned (.bool true) ∧ Below w.heap.size w w' := by
  by_cases h : 1 ≤ n ∧ n ≤ 60
  · obtain ⟨a, rfl⟩ := Int.eq_ofNat_of_zero_le (show 0 ≤ n by omega)
    exact tlbEvicts_in a k (by omega) w
  · exact tlbEvicts_out n k h w
end Go.Proofs.Ytgblnmahniphdaa

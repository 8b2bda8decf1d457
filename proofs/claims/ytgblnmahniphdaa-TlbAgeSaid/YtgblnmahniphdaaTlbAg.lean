/- TlbAge: the walk. -/
import Derived.Test.YtgblnmahniphdaaAlive6
namespace Go.Proofs.Ytgblnmahniphdaa
open Go.RowKit

set_option maxRecDepth 100000 in
set_option maxHeartbeats 4000000 in
theorem age_false (n m : Nat) (hn : 1 ≤ n ∧ n ≤ 64) (hm : m ≤ 200) (w : World) :
    Calls Try.prog 3 #[.int .i64 n, .int .i64 m, .bool false] w fun e w' => e = .returned (.bool true) ∧ Below w.heap.size w w' := by
  obtain ⟨hn1, hn2⟩ := hn
  have q2 : decide ((m : Int) < 0) = false := decide_eq_false (by omega)
  have q3 : decide ((200 : Int) < m) = false := decide_eq_false (by omega)
  have q0 : decide ((n : Int) < 1) = false := decide_eq_false (by omega)
  have q1 : decide ((64 : Int) < n) = false := decide_eq_false (by omega)
  have hmin : min (max 1 (n : Int)) 256 = n := by omega
  have HMIN := Lib.hid hmin
  clear hmin
  have HC : Hid (¬ (false = true ∧ n = 1)) := (fun h => by cases h.1)
  have HTH : Hid (∀ j z, thereV n j false z = decide ((j : Int) - n ≤ z)) := fun j z => by unfold thereV; rw [if_neg HC.out]
  have HAR : Hid (∀ j, ageV n j false = ageR n j) := fun j => by unfold ageV; rw [if_neg HC.out]
  have HA0 : Hid (ageV n 0 false = []) := by show _ = _; rw [HAR.out]; unfold ageR segR; simp
  go_enter Try.func3, Try.ntmps3
  go_wp2_with fail
  refine (alive6 _).mono ?_
  rintro e w1 ⟨rfl, C1⟩
  go_wp2_with fail
  refine (TS.new C1 n).mono ?_
  rintro e w2 ⟨t, mm, rfl, S2⟩
  rw [HMIN.out] at S2
  go_wp2_with fail
  go_loopw [9] (fun i wr => ∃ j : Nat, j ≤ m ∧ i = .int .i64 j ∧ TS w t mm n (ageV n j false) wr) (fun i _ => m - (intOf i).toNat)
  case atStart => exact ⟨0, by omega, rfl, by rw [show ageV n 0 false = [] from HA0.out]; exact S2⟩
  case round =>
    obtain ⟨j, hj, rfl, Sj⟩ := hrel
    by_cases hlt : j < m
    · have HP := Lib.hid (age_put (n := n) (m := j) hn1)
      rw [HAR.out] at Sj
      go_wp2_with fail
      refine (Sj.put 1 j (10 * j) (ok_small (by decide) (by decide)) (ok_small (by omega) (by omega))).mono ?_
      rintro e w3 ⟨rfl, S3⟩
      rw [HP.out, ← HAR.out] at S3
      go_wp2_with fail
      go_roundw
      case rel => exact ⟨j + 1, by omega, by go_num, S3⟩
      case measure => simp [intOf]; omega
    · have h5 : j = m := by omega
      subst h5
      have HLK := Lib.hid (fun i hi => age_look (n := n) (m := j) (i := i) false hn1 hi)
      obtain ⟨r3, hr3⟩ : ∃ r3, ageV n j false = r3 := ⟨_, rfl⟩
      rw [hr3] at Sj HLK
      clear hr3
      go_wp2_with fail
      go_loop [10] (fun i => ∃ z : Nat, z ≤ j ∧ i = .int .i64 z) (fun i => j - (intOf i).toNat)
      case atStart => exact ⟨0, by omega, rfl⟩
      case round =>
        obtain ⟨z, hz, rfl⟩ := hrel
        by_cases hlz : z < j
        · have hl := HLK.out z hlz
          by_cases he : (j : Int) - n ≤ z
          · rw [if_pos (by rw [HTH.out]; exact decide_eq_true he)] at hl
            have q5 : decide ((j : Int) - (n : Int) ≤ (z : Int)) = true := decide_eq_true he
            clear he
            have HL := Lib.hid hl
            clear hl
            go_wp2_with fail
            refine (Sj.look 1 z (ok_small (by decide) (by decide)) (ok_small (by omega) (by omega))).mono ?_
            rintro e w4 ⟨rfl, rfl⟩
            rw [HL.out]
            go_wp2_with fail
            go_round
            case rel => exact ⟨z + 1, by omega, by go_num⟩
            case measure => simp [intOf]; omega
          · rw [if_neg (by rw [HTH.out]; exact fun h => he (of_decide_eq_true h))] at hl
            have q5 : decide ((j : Int) - (n : Int) ≤ (z : Int)) = false := decide_eq_false he
            clear he
            have HL := Lib.hid hl
            clear hl
            go_wp2_with fail
            refine (Sj.look 1 z (ok_small (by decide) (by decide)) (ok_small (by omega) (by omega))).mono ?_
            rintro e w4 ⟨rfl, rfl⟩
            rw [HL.out]
            go_wp2_with fail
            go_round
            case rel => exact ⟨z + 1, by omega, by go_num⟩
            case measure => simp [intOf]; omega
        · have h6 : z = j := by omega
          subst h6
          go_wp2_with fail
          go_ret
          exact ⟨rfl, Sj.below⟩

set_option maxRecDepth 100000 in
set_option maxHeartbeats 4000000 in
theorem age_true (n m : Nat) (hn : 1 ≤ n ∧ n ≤ 64) (hn3 : 2 ≤ n) (hm : m ≤ 200) (w : World) :
    Calls Try.prog 3 #[.int .i64 n, .int .i64 m, .bool true] w fun e w' => e = .returned (.bool true) ∧ Below w.heap.size w w' := by
  obtain ⟨hn1, hn2⟩ := hn
  have q2 : decide ((m : Int) < 0) = false := decide_eq_false (by omega)
  have q3 : decide ((200 : Int) < m) = false := decide_eq_false (by omega)
  have q0 : decide ((n : Int) < 1) = false := decide_eq_false (by omega)
  have q1 : decide ((64 : Int) < n) = false := decide_eq_false (by omega)
  have hmin : min (max 1 (n : Int)) 256 = n := by omega
  have HMIN := Lib.hid hmin
  clear hmin
  have HC : Hid (¬ (true = true ∧ n = 1)) := (fun h => by omega)
  have HTH : Hid (∀ j z, thereV n j true z = decide ((j : Int) - n ≤ z)) := fun j z => by unfold thereV; rw [if_neg HC.out]
  have HAR : Hid (∀ j, ageV n j true = ageR n j) := fun j => by unfold ageV; rw [if_neg HC.out]
  have HA0 : Hid (ageV n 0 true = []) := by show _ = _; rw [HAR.out]; unfold ageR segR; simp
  have qn : ((n : Int) == 1) = false := beq_eq_false_iff_ne.2 (by omega)
  go_enter Try.func3, Try.ntmps3
  go_wp2_with fail
  refine (alive6 _).mono ?_
  rintro e w1 ⟨rfl, C1⟩
  go_wp2_with fail
  refine (TS.new C1 n).mono ?_
  rintro e w2 ⟨t, mm, rfl, S2⟩
  rw [HMIN.out] at S2
  go_wp2_with fail
  go_loopw [9] (fun i wr => ∃ j : Nat, j ≤ m ∧ i = .int .i64 j ∧ TS w t mm n (ageV n j true) wr) (fun i _ => m - (intOf i).toNat)
  case atStart => exact ⟨0, by omega, rfl, by rw [show ageV n 0 true = [] from HA0.out]; exact S2⟩
  case round =>
    obtain ⟨j, hj, rfl, Sj⟩ := hrel
    by_cases hlt : j < m
    · have HP := Lib.hid (age_put (n := n) (m := j) hn1)
      rw [HAR.out] at Sj
      go_wp2_with fail
      refine (Sj.put 1 j (10 * j) (ok_small (by decide) (by decide)) (ok_small (by omega) (by omega))).mono ?_
      rintro e w3 ⟨rfl, S3⟩
      rw [HP.out] at S3
      by_cases hj0 : 0 < j
      · have q7 : decide ((0 : Int) < (j : Int)) = true := decide_eq_true (by omega)
        have HP2 := Lib.hid (age_again (n := n) (m := j) hn3 hj0)
        have hb : (1 : Int) ≤ (j : Int) := by omega
        go_wp2_with fail
        refine (S3.put 1 ((j : Int) - 1) (10 * j - 10) (ok_small (by decide) (by decide)) (ok_small (by omega) (by omega))).mono ?_
        rintro e w4 ⟨rfl, S4⟩
        rw [HP2.out, ← HAR.out] at S4
        go_wp2_with fail
        go_roundw
        case rel => exact ⟨j + 1, by omega, by go_num, S4⟩
        case measure => simp [intOf]; omega
      · obtain rfl : j = 0 := by omega
        rw [← HAR.out] at S3
        go_wp2_with fail
        go_roundw
        case rel => exact ⟨1, by omega, by go_num, S3⟩
        case measure => simp [intOf]; omega
    · have h5 : j = m := by omega
      subst h5
      have HLK := Lib.hid (fun i hi => age_look (n := n) (m := j) (i := i) true hn1 hi)
      obtain ⟨r3, hr3⟩ : ∃ r3, ageV n j true = r3 := ⟨_, rfl⟩
      rw [hr3] at Sj HLK
      clear hr3
      go_wp2_with fail
      go_loop [10] (fun i => ∃ z : Nat, z ≤ j ∧ i = .int .i64 z) (fun i => j - (intOf i).toNat)
      case atStart => exact ⟨0, by omega, rfl⟩
      case round =>
        obtain ⟨z, hz, rfl⟩ := hrel
        by_cases hlz : z < j
        · have hl := HLK.out z hlz
          by_cases he : (j : Int) - n ≤ z
          · rw [if_pos (by rw [HTH.out]; exact decide_eq_true he)] at hl
            have q5 : decide ((j : Int) - (n : Int) ≤ (z : Int)) = true := decide_eq_true he
            clear he
            have HL := Lib.hid hl
            clear hl
            go_wp2_with fail
            refine (Sj.look 1 z (ok_small (by decide) (by decide)) (ok_small (by omega) (by omega))).mono ?_
            rintro e w4 ⟨rfl, rfl⟩
            rw [HL.out]
            go_wp2_with fail
            go_round
            case rel => exact ⟨z + 1, by omega, by go_num⟩
            case measure => simp [intOf]; omega
          · rw [if_neg (by rw [HTH.out]; exact fun h => he (of_decide_eq_true h))] at hl
            have q5 : decide ((j : Int) - (n : Int) ≤ (z : Int)) = false := decide_eq_false he
            clear he
            have HL := Lib.hid hl
            clear hl
            go_wp2_with fail
            refine (Sj.look 1 z (ok_small (by decide) (by decide)) (ok_small (by omega) (by omega))).mono ?_
            rintro e w4 ⟨rfl, rfl⟩
            rw [HL.out]
            go_wp2_with fail
            go_round
            case rel => exact ⟨z + 1, by omega, by go_num⟩
            case measure => simp [intOf]; omega
        · have h6 : z = j := by omega
          subst h6
          go_wp2_with fail
          go_ret
          exact ⟨rfl, Sj.below⟩

set_option maxRecDepth 100000 in
set_option maxHeartbeats 4000000 in
theorem age_one (m : Nat) (hn : 1 ≤ 1 ∧ 1 ≤ 64) (hm : m ≤ 200) (w : World) :
    Calls Try.prog 3 #[.int .i64 1, .int .i64 m, .bool true] w fun e w' => e = .returned (.bool true) ∧ Below w.heap.size w w' := by
  obtain ⟨hn1, hn2⟩ := hn
  have q2 : decide ((m : Int) < 0) = false := decide_eq_false (by omega)
  have q3 : decide ((200 : Int) < m) = false := decide_eq_false (by omega)
  have HMIN : Hid (min (max 1 (1 : Int)) 256 = 1) := by show _ = _; omega
  have HAR : Hid (∀ j, ageV 1 j true = oneR j) := fun j => by unfold ageV; rw [if_pos ⟨rfl, rfl⟩]
  have HA0 : Hid (ageV 1 0 true = []) := by show _ = _; rw [HAR.out]; rfl
  go_enter Try.func3, Try.ntmps3
  go_wp2_with fail
  refine (alive6 _).mono ?_
  rintro e w1 ⟨rfl, C1⟩
  go_wp2_with fail
  refine (TS.new C1 1).mono ?_
  rintro e w2 ⟨t, mm, rfl, S2⟩
  rw [HMIN.out] at S2
  go_wp2_with fail
  go_loopw [9] (fun i wr => ∃ j : Nat, j ≤ m ∧ i = .int .i64 j ∧ TS w t mm 1 (ageV 1 j true) wr) (fun i _ => m - (intOf i).toNat)
  case atStart => exact ⟨0, by omega, rfl, by rw [show ageV 1 0 true = [] from HA0.out]; exact S2⟩
  case round =>
    obtain ⟨j, hj, rfl, Sj⟩ := hrel
    by_cases hlt : j < m
    · rw [HAR.out] at Sj
      by_cases hj0 : 0 < j
      · obtain ⟨z, rfl⟩ : ∃ z, j = z + 1 := ⟨j - 1, by omega⟩
        have q7 : decide ((0 : Int) < ((z + 1 : Nat) : Int)) = true := decide_eq_true (by omega)
        have q8 : decide ((0 : Int) < (z : Int) + 1) = true := decide_eq_true (by omega)
        have HP := Lib.hid (one_first z)
        have HP2 := Lib.hid (one_second z)
        rw [show ((z + 1 : Nat) : Int) = (z : Int) + 1 by omega] at HP
        go_wp2_with fail
        refine (Sj.put 1 ((z : Int) + 1) (10 * ((z : Int) + 1)) (ok_small (by decide) (by decide)) (ok_small (by omega) (by omega))).mono ?_
        rintro e w3 ⟨rfl, S3⟩
        rw [HP.out] at S3
        go_wp2_with fail
        have S3' := S3.put 1 (z : Int) (10 * (z : Int)) (ok_small (by decide) (by decide)) (ok_small (by omega) (by omega))
        rw [HP2.out, show 10 * (z : Int) = 10 * ((z : Int) + 1) - 10 by omega] at S3'
        first
          | refine S3'.mono ?_
          | (rw [show (z : Int) = (z : Int) + 1 - 1 by omega] at S3'; refine S3'.mono ?_)
        rintro e w4 ⟨rfl, S4⟩
        rw [← HAR.out] at S4
        go_wp2_with fail
        go_roundw
        case rel => exact ⟨z + 2, by omega, by go_num, S4⟩
        case measure => simp [intOf]; omega
      · obtain rfl : j = 0 := by omega
        have HP : Hid (putR 1 (oneR 0) (1, 0) 0 = oneR 1) := by show _ = _; decide
        go_wp2_with fail
        refine (Sj.put 1 0 0 (ok_small (by decide) (by decide)) (ok_small (by decide) (by decide))).mono ?_
        rintro e w3 ⟨rfl, S3⟩
        rw [HP.out, ← HAR.out] at S3
        go_wp2_with fail
        go_roundw
        case rel => exact ⟨1, by omega, by go_num, S3⟩
        case measure => simp [intOf]; omega
    · have h5 : j = m := by omega
      subst h5
      have HLK := Lib.hid (fun i hi => age_look (n := 1) (m := j) (i := i) true hn1 hi)
      obtain ⟨r3, hr3⟩ : ∃ r3, ageV 1 j true = r3 := ⟨_, rfl⟩
      rw [hr3] at Sj HLK
      clear hr3
      go_wp2_with fail
      go_loop [10] (fun i => ∃ z : Nat, z ≤ j ∧ i = .int .i64 z) (fun i => j - (intOf i).toNat)
      case atStart => exact ⟨0, by omega, rfl⟩
      case round =>
        obtain ⟨z, hz, rfl⟩ := hrel
        by_cases hlz : z < j
        · have hl := HLK.out z hlz
          have hth : thereV 1 j true z = ((decide ((z : Int) = j - 2) && decide (1 < j)) || decide (j = 1)) := by unfold thereV; rw [if_pos ⟨rfl, rfl⟩]
          by_cases h1 : j = 1
          · rw [if_pos (by rw [hth, decide_eq_true h1, Bool.or_true])] at hl
            have q6 : ((j : Int) == 1) = true := beq_iff_eq.2 (by omega)
            have q5 : ((z : Int) == (j : Int) - 2) = false := beq_eq_false_iff_ne.2 (by omega)
            have q8 : decide ((j : Int) - 1 ≤ (z : Int)) = true := decide_eq_true (by omega)
            clear hth h1
            have HL := Lib.hid hl
            clear hl
            go_wp2_with fail
            refine (Sj.look 1 z (ok_small (by decide) (by decide)) (ok_small (by omega) (by omega))).mono ?_
            rintro e w4 ⟨rfl, rfl⟩
            rw [HL.out]
            go_wp2_with fail
            go_round
            case rel => exact ⟨z + 1, by omega, by go_num⟩
            case measure => simp [intOf]; omega
          · have q6 : ((j : Int) == 1) = false := beq_eq_false_iff_ne.2 (by omega)
            have q7 : decide ((1 : Int) < (j : Int)) = true := decide_eq_true (by omega)
            by_cases h2 : (z : Int) = j - 2
            · rw [if_pos (by rw [hth, decide_eq_true h2, decide_eq_true (show 1 < j by omega)]; rfl)] at hl
              have q5 : ((z : Int) == (j : Int) - 2) = true := beq_iff_eq.2 h2
              have q8 : decide ((j : Int) - 1 ≤ (z : Int)) = false := decide_eq_false (by omega)
              have hj2 : (2 : Int) ≤ (j : Int) := by omega
              clear hth h2
              have HL := Lib.hid hl
              clear hl
              go_wp2_with fail
              refine (Sj.look 1 z (ok_small (by decide) (by decide)) (ok_small (by omega) (by omega))).mono ?_
              rintro e w4 ⟨rfl, rfl⟩
              rw [HL.out]
              go_wp2_with fail
              go_round
              case rel => exact ⟨z + 1, by omega, by go_num⟩
              case measure => simp [intOf]; omega
            · rw [if_neg (by rw [hth, decide_eq_false h2, decide_eq_false h1]; simp)] at hl
              have q5 : ((z : Int) == (j : Int) - 2) = false := beq_eq_false_iff_ne.2 h2
              have hj2 : (2 : Int) ≤ (j : Int) := by omega
              clear hth h2
              by_cases h3 : (j : Int) - 1 ≤ z
              · have q8 : decide ((j : Int) - 1 ≤ (z : Int)) = true := decide_eq_true h3
                clear h3
                have HL := Lib.hid hl
                clear hl
                go_wp2_with fail
                refine (Sj.look 1 z (ok_small (by decide) (by decide)) (ok_small (by omega) (by omega))).mono ?_
                rintro e w4 ⟨rfl, rfl⟩
                rw [HL.out]
                go_wp2_with fail
                go_round
                case rel => exact ⟨z + 1, by omega, by go_num⟩
                case measure => simp [intOf]; omega
              · have q8 : decide ((j : Int) - 1 ≤ (z : Int)) = false := decide_eq_false h3
                clear h3
                have HL := Lib.hid hl
                clear hl
                go_wp2_with fail
                refine (Sj.look 1 z (ok_small (by decide) (by decide)) (ok_small (by omega) (by omega))).mono ?_
                rintro e w4 ⟨rfl, rfl⟩
                rw [HL.out]
                go_wp2_with fail
                go_round
                case rel => exact ⟨z + 1, by omega, by go_num⟩
                case measure => simp [intOf]; omega
        · have h6 : z = j := by omega
          subst h6
          go_wp2_with fail
          go_ret
          exact ⟨rfl, Sj.below⟩

set_option maxRecDepth 100000 in
set_option maxHeartbeats 2000000 in
theorem age_out (n m : Int) (again : Bool) (h : ¬ (1 ≤ n ∧ n ≤ 64 ∧ 0 ≤ m ∧ m ≤ 200)) (w : World) :
    Calls Try.prog 3 #[.int .i64 n, .int .i64 m, .bool again] w fun e w' => e = .returned (.bool true) ∧ Below w.heap.size w w' := by
  go_enter Try.func3, Try.ntmps3
  go_wp2_with fail
  refine (alive6 _).mono ?_
  rintro e w1 ⟨rfl, C1⟩
  go_upto_if 32 with fail
  all_goals first
    | (exfalso; omega)
    | (go_wp2_with fail
       go_ret
       exact ⟨rfl, C1.below_of (Nat.le_refl _) (fun _ h => h.elim)⟩)
theorem tlbAge_any (n m : Int) (again : Bool) (w : World) :
    Calls Try.prog 3 #[.int .i64 n, .int .i64 m, .bool again] w fun e w' => e = .returned (.bool true) ∧ Below w.heap.size w w' := by
  by_cases h : 1 ≤ n ∧ n ≤ 64 ∧ 0 ≤ m ∧ m ≤ 200
  · obtain ⟨a, rfl⟩ := Int.eq_ofNat_of_zero_le (show 0 ≤ n by omega)
    obtain ⟨b, rfl⟩ := Int.eq_ofNat_of_zero_le (show 0 ≤ m by omega)
    cases again
    · exact age_false a b (by omega) (by omega) w
    · by_cases h1 : a = 1
      · subst h1; exact age_one b (by omega) (by omega) w
      · exact age_true a b (by omega) (by omega) (by omega) w
  · exact age_out n m again h w
end Go.Proofs.Ytgblnmahniphdaa

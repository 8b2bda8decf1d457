/- trunnionref14.Tables. -/
import Derived.Test.YtadcmelbcahecaaShRPut
namespace Go.Proofs.Ytadcmelbcahecaa
open Go.RowKit

set_option maxRecDepth 100000 in
set_option maxHeartbeats 4000000 in
theorem rtables_any {a b n : Nat} {f : Nat → Int} {w : World} (M : Mem 76 w a b n f) (ptbr pages : Int) (T : List Int) (hT : rtL n f ptbr pages = T) :
    Calls Try.prog 21 #[.pointer (some ⟨a, 0, none⟩), .int .i64 ptbr, .int .i64 pages] w fun e w' => ∃ ao cap, e = .returned (.slice ao T.length cap) ∧ IntsAt w' w.heap.size ao cap T ∧ Chg w w' (fun _ => False) := by
  have HT : Hid (T = rtL n f ptbr pages) := hT.symm
  clear hT
  by_cases hon : ptbr / 2147483648 % 2 = 1
  · have e0 : (bits .and .i64 ptbr 2147483648 == 0) = false := by rw [bit31]; exact beq_eq_false_iff_ne.2 (by omega)
    obtain ⟨root, hrt⟩ : ∃ root, ptbr % 1048576 = root := ⟨_, rfl⟩
    have e1 : bits .and .i64 ptbr 1048575 = root := by rw [← hrt]; exact and20 ptbr
    have hr0 : 0 ≤ root := by omega
    have hr1 : root < 1048576 := by omega
    have HT2 : Hid (T = rtD n f root pages 1024) := by
      show _ = _
      rw [HT.out]
      unfold rtL
      rw [if_neg (by rw [show onB ptbr = true from decide_eq_true hon]; decide), hrt]
    have HP := rput_any (ao := none) (cap := 0) (base := w.heap.size) [] root pages w ⟨World.ownsRow_nil _ _ _ _, fun _ => ⟨rfl, rfl⟩⟩ (by decide) (Nat.le_refl _)
    clear hrt hon HT
    go_enter Try.func21, Try.ntmps21
    go_wp2_with fail
    refine HP.mono ?_
    rintro e w1 ⟨ao1, cap1, rfl, I1, C1⟩
    clear HP
    go_wp2_with fail
    go_loopg [8, 9] 1024 (fun g s8 s9 wr => ∃ k : Nat, ∃ ao cap, g + k = 1024 ∧ s9 = .int .i64 k ∧ s8 = .slice ao (rtD n f root pages k).length cap ∧ IntsAt wr w.heap.size ao cap (rtD n f root pages k) ∧ Chg w wr (fun _ => False))
    case atStart => exact ⟨0, ao1, cap1, rfl, rfl, rfl, I1, C1⟩
    case round =>
      obtain ⟨k, ao, cap, hk, rfl, rfl, Ik, Ck⟩ := hrel
      have HK := Lib.hid hk
      have Mk := M.chg Ck (fun h => h) (fun h => h)
      by_cases hlt : k < 1024
      · have hk0 : (0 : Int) ≤ (k : Int) := by omega
        have hk1 : (k : Int) < 1024 := by omega
        clear hk
        have HL := rload_any Mk (root * 4096 + 4 * k) 4
        have hrg := ldV_rng M.rng (root * 4096 + 4 * (k : Int)) 4
        have HS : Hid (rtD n f root pages (k + 1) = if (okB n (root * 4096 + 4 * (k : Int)) 4 && dirB (ldV n f (root * 4096 + 4 * (k : Int)) 4)) = true then putP pages (rtD n f root pages k) (ldV n f (root * 4096 + 4 * (k : Int)) 4 / 4096) else rtD n f root pages k) := rfl
        obtain ⟨v, hv⟩ : ∃ v, ldV n f (root * 4096 + 4 * (k : Int)) 4 = v := ⟨_, rfl⟩
        obtain ⟨ok, hok⟩ : ∃ ok, okB n (root * 4096 + 4 * (k : Int)) 4 = ok := ⟨_, rfl⟩
        rw [hv] at HL hrg HS
        rw [hok] at HL HS
        obtain ⟨hv0, hv1⟩ := hrg
        clear hv hok
        have hdl := rtD_len n f root pages k
        have hsz := Ck.size
        have HP := rput_any (rtD n f root pages k) (v / 4096) pages wr Ik (by omega) hsz
        obtain ⟨D, hD⟩ : ∃ D, rtD n f root pages k = D := ⟨_, rfl⟩
        obtain ⟨D2, hD2⟩ : ∃ z, putP pages D (v / 4096) = z := ⟨_, rfl⟩
        rw [hD] at Ik HS HP hdl ⊢
        have hpl := putP_len pages (v / 4096) D
        rw [hD2] at HS HP hpl
        clear hD hD2
        cases ok
        · have HS2 : Hid (rtD n f root pages (k + 1) = D) := HS.out
          go_wp2_with fail
          refine HL.mono ?_
          rintro e w' ⟨rfl, rfl⟩
          clear HL
          go_wp2_with fail
          go_roundg (gk - 1)
          case measure => have := HK.out; omega
          case rel => exact ⟨k + 1, ao, cap, by have := HK.out; omega, by go_num, by rw [HS2.out], by rw [HS2.out]; exact Ik, Ck⟩
        by_cases v1 : v % 2 = 1
        · have b1 : (bits .and .i64 v 1 == 1) = true := by rw [bit0, beq_iff_eq]; omega
          by_cases v2 : v / 2 % 16 = 0
          · have b2 : (bits .and .i64 v 30 == 0) = true := by rw [bit14, beq_iff_eq]; omega
            have HS2 : Hid (rtD n f root pages (k + 1) = D2) := by
              show _ = _
              rw [HS.out, if_pos (by simp [dirB, v1, v2])]
            clear v1 v2
            go_wp2_with fail
            refine HL.mono ?_
            rintro e w' ⟨rfl, rfl⟩
            clear HL
            go_wp2_with fail
            refine HP.mono ?_
            rintro e w2 ⟨ao2, cap2, rfl, I2, C2⟩
            clear HP
            go_wp2_with fail
            go_roundg (gk - 1)
            case measure => have := HK.out; omega
            case rel => exact ⟨k + 1, ao2, cap2, by have := HK.out; omega, by go_num, by rw [HS2.out], by rw [HS2.out]; exact I2, Ck.trans C2⟩
          · have b2 : (bits .and .i64 v 30 == 0) = false := by rw [bit14]; exact beq_eq_false_iff_ne.2 (by omega)
            have HS2 : Hid (rtD n f root pages (k + 1) = D) := by
              show _ = _
              rw [HS.out, if_neg (by simp [dirB, v1, v2])]
            clear v1 v2
            go_wp2_with fail
            refine HL.mono ?_
            rintro e w' ⟨rfl, rfl⟩
            clear HL
            go_wp2_with fail
            go_roundg (gk - 1)
            case measure => have := HK.out; omega
            case rel => exact ⟨k + 1, ao, cap, by have := HK.out; omega, by go_num, by rw [HS2.out], by rw [HS2.out]; exact Ik, Ck⟩
        · have b1 : (bits .and .i64 v 1 == 1) = false := by rw [bit0]; exact beq_eq_false_iff_ne.2 (by omega)
          have HS2 : Hid (rtD n f root pages (k + 1) = D) := by
            show _ = _
            rw [HS.out, if_neg (by simp [dirB, v1])]
          clear v1
          go_wp2_with fail
          refine HL.mono ?_
          rintro e w' ⟨rfl, rfl⟩
          clear HL
          go_wp2_with fail
          go_roundg (gk - 1)
          case measure => have := HK.out; omega
          case rel => exact ⟨k + 1, ao, cap, by have := HK.out; omega, by go_num, by rw [HS2.out], by rw [HS2.out]; exact Ik, Ck⟩
      · obtain rfl : k = 1024 := by omega
        clear hk
        rw [← HT2.out] at Ik ⊢
        go_wp2_with fail
        go_ret
        exact ⟨ao, cap, rfl, Ik, Ck⟩
  · have e0 : (bits .and .i64 ptbr 2147483648 == 0) = true := by rw [bit31]; exact beq_iff_eq.2 (by omega)
    have hT2 : T = [] := by rw [HT.out]; unfold rtL; rw [if_pos (show onB ptbr = false from decide_eq_false hon)]
    subst hT2
    clear HT
    go_enter Try.func21, Try.ntmps21
    go_wp2_with fail
    go_ret
    exact ⟨none, 0, rfl, ⟨World.ownsRow_nil _ _ _ _, fun _ => ⟨rfl, rfl⟩⟩, Chg.refl _ _⟩
end Go.Proofs.Ytadcmelbcahecaa

/- TlbTags: the walk. -/
import Derived.Test.YtgblnmahniphdaaAlive6
namespace Go.Proofs.Ytgblnmahniphdaa
open Go.RowKit
/-- A grid of keys, row by row. -/
def gridR (V z : Nat) : List (KeyD × Int) := (List.range z).map (fun z : Nat => ((((z / V : Nat) : Int), ((z % V : Nat) : Int)), 100 * ((z / V : Nat) : Int) + ((z % V : Nat) : Int)))
theorem grid_len (V z : Nat) : (gridR V z).length = z := by simp [gridR]
theorem ks_grid (V z : Nat) : ks (gridR V z) = (List.range z).map (fun z : Nat => (((z / V : Nat) : Int), ((z % V : Nat) : Int))) := by
  unfold ks gridR
  rw [List.map_map]
  rfl
theorem divmod_eq {V a b : Nat} (h1 : a / V = b / V) (h2 : a % V = b % V) : a = b := by
  rw [← Nat.div_add_mod a V, ← Nat.div_add_mod b V, h1, h2]
theorem grid_nodup (V z : Nat) : (ks (gridR V z)).Nodup := by
  rw [ks_grid]
  unfold List.Nodup
  rw [List.pairwise_map]
  refine List.nodup_range.imp ?_
  intro x y hxy h
  apply hxy
  have h1 := congrArg Prod.fst h
  have h2 := congrArg Prod.snd h
  simp only [Int.natCast_inj] at h1 h2
  exact divmod_eq h1 h2
theorem look_grid {V z : Nat} (i k : Nat) (hk : k < V) : look (gridR V z) ((i : Int), (k : Int)) = if i * V + k < z then some (100 * (i : Int) + k) else none := by
  have e1 : (i * V + k) / V = i := by
    rw [Nat.mul_comm, Nat.mul_add_div (by omega), Nat.div_eq_of_lt hk, Nat.add_zero]
  have e2 : (i * V + k) % V = k := by rw [Nat.mul_comm, Nat.mul_add_mod, Nat.mod_eq_of_lt hk]
  by_cases h : i * V + k < z
  · rw [if_pos h, look_mem (grid_nodup _ _)]
    unfold gridR
    rw [List.mem_map]
    exact ⟨i * V + k, List.mem_range.2 h, by rw [e1, e2]⟩
  · rw [if_neg h, look_none, ks_grid, List.mem_map]
    rintro ⟨y, hy, he⟩
    rw [List.mem_range] at hy
    have h1 := congrArg Prod.fst he
    have h2 := congrArg Prod.snd he
    simp only [Int.natCast_inj] at h1 h2
    apply h
    rw [← h1, ← h2, Nat.mul_comm, Nat.div_add_mod]
    exact hy
theorem grid_put {V n : Nat} (i k : Nat) (hk : k < V) (h : i * V + k < n) : putR n (gridR V (i * V + k)) ((i : Int), (k : Int)) (100 * (i : Int) + k) = gridR V (i * V + k + 1) := by
  have e1 : (i * V + k) / V = i := by
    rw [Nat.mul_comm, Nat.mul_add_div (by omega), Nat.div_eq_of_lt hk, Nat.add_zero]
  have e2 : (i * V + k) % V = k := by rw [Nat.mul_comm, Nat.mul_add_mod, Nat.mod_eq_of_lt hk]
  have hl : look (gridR V (i * V + k)) ((i : Int), (k : Int)) = none := by rw [look_grid i k hk, if_neg (by omega)]
  unfold putR
  rw [hl, if_neg (by decide), grid_len, if_neg (by omega)]
  unfold gridR
  rw [List.range_succ, List.map_append, List.map_singleton, e1, e2]
theorem look_flg {r : List (KeyD × Int)} (hk : (ks r).Nodup) (tag : Int) (c : KeyD) : look (flR r tag) c = if c.1 = tag then none else look r c := by
  have hk2 : (ks (flR r tag)).Nodup := by
    have : (ks (flR r tag)).Sublist (ks r) := by unfold ks flR; exact List.Sublist.map _ List.filter_sublist
    exact hk.sublist this
  by_cases e : c.1 = tag
  · rw [if_pos e, look_none]
    intro hm
    obtain ⟨p, hp, rfl⟩ := List.mem_map.1 hm
    have := (List.mem_filter.1 hp).2
    simp [e] at this
  · rw [if_neg e]
    cases hl : look r c with
    | none =>
      rw [look_none] at hl ⊢
      intro hm
      obtain ⟨p, hp, rfl⟩ := List.mem_map.1 hm
      exact hl (List.mem_map.2 ⟨p, (List.mem_filter.1 hp).1, rfl⟩)
    | some x =>
      rw [look_mem hk] at hl
      rw [look_mem hk2]
      exact List.mem_filter.2 ⟨hl, by simpa using e⟩
theorem row_lt {i k T V : Nat} (hi : i < T) (hk : k < V) : i * V + k < T * V := by
  have := Nat.mul_le_mul_right V (show i + 1 ≤ T by omega)
  rw [Nat.add_mul, Nat.one_mul] at this
  omega

set_option maxRecDepth 100000 in
set_option maxHeartbeats 8000000 in
theorem tags_in (T V : Nat) (fl : Int) (hT : 1 ≤ T ∧ T ≤ 10) (hV : 1 ≤ V ∧ V ≤ 10) (w : World) :
    Calls Try.prog 6 #[.int .i64 T, .int .i64 V, .int .i64 fl] w fun e w' => e = .returned (.bool true) ∧ Below w.heap.size w w' := by
  obtain ⟨hT1, hT2⟩ := hT
  obtain ⟨hV1, hV2⟩ := hV
  have q0 : decide ((T : Int) < 1) = false := decide_eq_false (by omega)
  have q1 : decide ((10 : Int) < T) = false := decide_eq_false (by omega)
  have q2 : decide ((V : Int) < 1) = false := decide_eq_false (by omega)
  have q3 : decide ((10 : Int) < V) = false := decide_eq_false (by omega)
  have hle : T * V ≤ 10 * 10 := Nat.mul_le_mul hT2 hV2
  have hge : 1 * 1 ≤ T * V := Nat.mul_le_mul hT1 hV1
  have HRL := Lib.hid (fun i k (hi : i < T) (hk : k < V) => row_lt hi hk)
  obtain ⟨n, hn⟩ : ∃ n, T * V = n := ⟨_, rfl⟩
  rw [hn] at hle hge
  have hTV : (T : Int) * (V : Int) = (n : Int) := by rw [← hn]; simp
  have hmin : min (max 1 (n : Int)) 256 = n := by omega
  have HMIN := Lib.hid hmin
  have HN := Lib.hid hn
  clear hmin hn
  go_enter Try.func6, Try.ntmps6
  go_wp2_with fail
  refine (alive6 _).mono ?_
  rintro e w1 ⟨rfl, C1⟩
  go_wp2_with fail
  refine (TS.new C1 n).mono ?_
  rintro e w2 ⟨t, m, rfl, S2⟩
  rw [HMIN.out] at S2
  have HTV := Lib.hid hTV
  clear q0 q1 q2 q3 hTV
  go_wp2_with fail
  go_loopw [9] (fun i wr => ∃ j : Nat, j ≤ T ∧ i = .int .i64 j ∧ TS w t m n (gridR V (j * V)) wr) (fun i _ => T - (intOf i).toNat)
  case atStart => exact ⟨0, by omega, rfl, by rw [Nat.zero_mul]; exact S2⟩
  case round =>
    obtain ⟨j, hj, rfl, Sj⟩ := hrel
    by_cases hlt : j < T
    · go_wp2_with fail
      go_loopw [10] (fun i wr => ∃ k : Nat, k ≤ V ∧ i = .int .i64 k ∧ TS w t m n (gridR V (j * V + k)) wr) (fun i _ => V - (intOf i).toNat)
      case atStart => exact ⟨0, by omega, rfl, Sj⟩
      case round =>
        obtain ⟨k, hk, rfl, Sk⟩ := hrel
        by_cases hlk : k < V
        · have HP := Lib.hid (grid_put (V := V) (n := n) j k hlk (by rw [← HN.out]; exact HRL.out j k hlt hlk))
          go_wp2_with fail
          refine (Sk.put j k (100 * j + k) (ok_small (by omega) (by omega)) (ok_small (by omega) (by omega))).mono ?_
          rintro e w3 ⟨rfl, S3⟩
          rw [HP.out] at S3
          go_wp2_with fail
          go_roundw
          case rel => exact ⟨k + 1, by omega, by go_num, S3⟩
          case measure => simp [intOf]; omega
        · have h5 : k = V := by omega
          subst h5
          have HM := Lib.hid (show j * k + k = (j + 1) * k by rw [Nat.add_mul, Nat.one_mul])
          rw [HM.out] at Sk
          go_wp2_with fail
          go_roundw
          case rel => exact ⟨j + 1, by omega, by go_num, Sk⟩
          case measure => simp [intOf]; omega
    · have h5 : j = T := by omega
      subst h5
      rw [HN.out] at Sj
      go_wp2_with fail
      refine Sj.tlen.mono ?_
      rintro e w3 ⟨rfl, rfl⟩
      rw [grid_len]
      have hTV := HTV.out
      go_wp2_with fail
      refine (Sj.flush fl).mono ?_
      rintro e w3 ⟨rfl, S3⟩
      have HLK := Lib.hid (fun (i k : Nat) (hi : i < j) (hk : k < V) => (by
        rw [look_flg (grid_nodup V n), show look (gridR V n) ((i : Int), (k : Int)) = some (100 * (i : Int) + k) from by rw [look_grid i k hk, if_pos (by rw [← HN.out]; exact HRL.out i k hi hk)]] : look (flR (gridR V n) fl) ((i : Int), (k : Int)) = if (i : Int) = fl then none else some (100 * (i : Int) + k)))
      obtain ⟨r3, hr3⟩ : ∃ r3, flR (gridR V n) fl = r3 := ⟨_, rfl⟩
      rw [hr3] at S3 HLK
      clear hr3 hTV
      go_wp2_with fail
      go_loop [11] (fun i => ∃ z : Nat, z ≤ j ∧ i = .int .i64 z) (fun i => j - (intOf i).toNat)
      case atStart => exact ⟨0, by omega, rfl⟩
      case round =>
        obtain ⟨z, hz, rfl⟩ := hrel
        by_cases hlz : z < j
        · go_wp2_with fail
          go_loop [12] (fun i => ∃ k : Nat, k ≤ V ∧ i = .int .i64 k) (fun i => V - (intOf i).toNat)
          case atStart => exact ⟨0, by omega, rfl⟩
          case round =>
            obtain ⟨k, hk, rfl⟩ := hrel
            by_cases hlk : k < V
            · have hl := HLK.out z k hlz hlk
              by_cases he : (z : Int) = fl
              · rw [if_pos he] at hl
                have q5 : ((z : Int) != fl) = false := by rw [bne_eq_false_iff_eq]; exact he
                have HL := Lib.hid hl
                clear hl he
                go_wp2_with fail
                refine (S3.look z k (ok_small (by omega) (by omega)) (ok_small (by omega) (by omega))).mono ?_
                rintro e w4 ⟨rfl, rfl⟩
                rw [HL.out]
                go_wp2_with fail
                go_round
                case rel => exact ⟨k + 1, by omega, by go_num⟩
                case measure => simp [intOf]; omega
              · rw [if_neg he] at hl
                have q5 : ((z : Int) != fl) = true := bne_iff_ne.2 he
                have HL := Lib.hid hl
                clear hl he
                go_wp2_with fail
                refine (S3.look z k (ok_small (by omega) (by omega)) (ok_small (by omega) (by omega))).mono ?_
                rintro e w4 ⟨rfl, rfl⟩
                rw [HL.out]
                go_wp2_with fail
                go_round
                case rel => exact ⟨k + 1, by omega, by go_num⟩
                case measure => simp [intOf]; omega
            · have h5 : k = V := by omega
              subst h5
              go_wp2_with fail
              go_round
              case rel => exact ⟨z + 1, by omega, by go_num⟩
              case measure => simp [intOf]; omega
        · have h6 : z = j := by omega
          subst h6
          go_wp2_with fail
          go_ret
          exact ⟨rfl, S3.below⟩

set_option maxRecDepth 100000 in
set_option maxHeartbeats 2000000 in
theorem tags_out (a b fl : Int) (h : ¬ ((1 ≤ a ∧ a ≤ 10) ∧ 1 ≤ b ∧ b ≤ 10)) (w : World) :
    Calls Try.prog 6 #[.int .i64 a, .int .i64 b, .int .i64 fl] w fun e w' => e = .returned (.bool true) ∧ Below w.heap.size w w' := by
  go_enter Try.func6, Try.ntmps6
  go_wp2_with fail
  refine (alive6 _).mono ?_
  rintro e w1 ⟨rfl, C1⟩
  go_upto_if 33 with fail
  all_goals first
    | (exfalso; omega)
    | (go_wp2_with fail
       go_ret
       exact ⟨rfl, C1.below_of (Nat.le_refl _) (fun _ h => h.elim)⟩)
theorem tlbTags_any (a b fl : Int) (w : World) :
    Calls Try.prog 6 #[.int .i64 a, .int .i64 b, .int .i64 fl] w fun e w' => e = .returned (.bool true) ∧ Below w.heap.size w w' := by
  by_cases h : (1 ≤ a ∧ a ≤ 10) ∧ 1 ≤ b ∧ b ≤ 10
  · obtain ⟨T, rfl⟩ := Int.eq_ofNat_of_zero_le (show 0 ≤ a by omega)
    obtain ⟨V, rfl⟩ := Int.eq_ofNat_of_zero_le (show 0 ≤ b by omega)
    exact tags_in T V fl (by omega) (by omega) w
  · exact tags_out a b fl h w
end Go.Proofs.Ytgblnmahniphdaa

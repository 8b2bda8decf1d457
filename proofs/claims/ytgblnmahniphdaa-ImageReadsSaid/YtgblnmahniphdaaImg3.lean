/- slices.Concat of rows of bytes. -/
import Derived.Test.YtgblnmahniphdaaImg2
namespace Go.Proofs.Ytgblnmahniphdaa
open Go.RowKit

/-- A row of bytes that is one of several. -/
structure CPart where
  bo : Option Addr
  m : Nat
  c : Nat
  xs : List Int
instance : Inhabited CPart := ⟨⟨none, 0, 0, []⟩⟩
def cCells (p : CPart) : List Value := [.slice p.bo p.m p.c]
def totM (l : List CPart) : Nat := (l.map (·.m)).sum
theorem totM_snoc (l : List CPart) (p : CPart) : totM (l ++ [p]) = totM l + p.m := by simp [totM]
theorem totM_take (l : List CPart) (k : Nat) : totM (l.take k) ≤ totM l := by
  have : totM l = totM (l.take k) + totM (l.drop k) := by
    conv => lhs; rw [← List.take_append_drop k l]
    unfold totM
    rw [List.map_append, List.sum_append]
  omega

set_option maxHeartbeats 1600000 in
theorem concat_any {ao : Option Addr} {cap : Nat} {l : List CPart} (w : World) (hL : Lst w ao l.length cap (l.flatMap cCells) 1) (hs : ∀ p ∈ l, Src w p.bo p.m p.c (u8s p.xs) 1) (h0 : 0 < totM l) (hn : totM l ≤ 2000000) (hll : l.length ≤ 1000) :
    Calls Try.prog 29 #[.slice ao l.length cap] w fun e w' => ∃ a2 c2, e = .returned (.slice a2 (totM l) c2) ∧ w'.ownsRow w.heap.size 5 1 (.slice a2 (totM l) c2) (totM l) (u8s (l.flatMap (·.xs))) ∧ Chg w w' (fun _ => False) := by
  obtain ⟨i0, hi0, hz0, hz1, hz2⟩ := info_parts info_u8i
  have HT := Lib.hid (totM_take l)
  have HS := Lib.hid hs
  have HLL := Lib.hid hL
  clear hs
  go_enter Try.func29, Try.ntmps29
  go_wp2_with fail
  go_loopw [3, 5, 11] (fun s x i wx => ∃ j : Nat, j ≤ l.length ∧ i = .int .i64 j ∧ s = .int .i64 (totM (l.take j) : Nat) ∧ wx = w) (fun _ _ i _ => l.length - (intOf i).toNat)
  case atStart => exact ⟨0, by omega, rfl, rfl, rfl⟩
  case round =>
    obtain ⟨j, hj, rfl, rfl, hw⟩ := hrel
    subst hw
    have hb := HT.out j
    by_cases hlt : j < l.length
    · obtain ⟨b, o, rfl⟩ := hL.pos (by omega)
      have c0 := Lst.cell0 (n := 1) (fun _ => rfl) hL j (by decide) hlt rfl
      rw [Nat.mul_one] at c0
      have HE := Lib.hid (show totM (l.take (j + 1)) = totM (l.take j) + l[j].m by rw [List.take_succ_eq_append_getElem hlt, totM_snoc])
      have hb2 := HT.out (j + 1)
      rw [HE.out] at hb2
      obtain ⟨p, hp⟩ : ∃ p, l[j] = p := ⟨_, rfl⟩
      rw [hp] at c0 HE hb2
      obtain ⟨t, ht⟩ : ∃ t, totM (l.take j) = t := ⟨_, rfl⟩
      rw [ht] at hb HE hb2 ⊢
      obtain ⟨bo, m, c, xs⟩ := p
      change Hid (totM (l.take (j + 1)) = t + m) at HE
      change t + m ≤ _ at hb2
      have hj0 : (0 : Int) ≤ (j : Int) := by omega
      have hj1 : (j : Int) < (l.length : Int) := by omega
      have d0 : decide ((t : Int) + m < 0) = false := decide_eq_false (by omega)
      clear hp ht
      go_wp2_with fail
      go_roundw
      case rel => exact ⟨j + 1, by omega, by go_num, by rw [HE.out]; exact int_eq (by omega), trivial⟩
      case measure => simp [intOf]; omega
    · have hjm : j = l.length := by omega
      subst hjm
      rw [List.take_length]
      clear hb
      obtain ⟨T, hT⟩ : ∃ T, totM l = T := ⟨_, rfl⟩
      have HT2 := Lib.hid hT
      rw [hT] at h0 hn ⊢
      clear hT
      go_wp2_with fail
      refine (grow_any T _ h0 hn).mono ?_
      rintro e w6 ⟨a6, c6, rfl, O6, C6⟩
      obtain ⟨k0, hk0⟩ : ∃ k, wr.heap.size = k := ⟨_, rfl⟩
      go_wp2_with fail
      go_loopw [6, 8, 27] (fun s x i wx => ∃ j : Nat, j ≤ l.length ∧ i = .int .i64 j ∧ wx.ownsRow k0 5 1 s (totM (l.take j)) (u8s ((l.take j).flatMap (·.xs))) ∧ Chg wr wx (fun _ => False)) (fun _ _ i _ => l.length - (intOf i).toNat)
      case atStart => exact ⟨0, by omega, rfl, by rw [← hk0]; exact O6, C6⟩
      case round =>
        obtain ⟨j, hj, rfl, Oj, Cj⟩ := hrel
        obtain ⟨aj, cj, rfl, hj1, hj2, hj3, hj4⟩ := own_form Oj
        by_cases hlt2 : j < l.length
        · obtain ⟨b, o, rfl⟩ := HLL.out.pos (by omega)
          have hLj := HLL.out.chg Cj (fun _ _ h => h)
          have c0 := Lst.cell0 (n := 1) (fun _ => rfl) hLj j (by decide) hlt2 rfl
          rw [Nat.mul_one] at c0
          have HE := Lib.hid (show totM (l.take (j + 1)) = totM (l.take j) + l[j].m by rw [List.take_succ_eq_append_getElem hlt2, totM_snoc])
          have HF := Lib.hid (show (l.take (j + 1)).flatMap (·.xs) = (l.take j).flatMap (·.xs) ++ l[j].xs by rw [List.take_succ_eq_append_getElem hlt2, List.flatMap_append]; simp)
          have hb2 := HT.out (j + 1)
          rw [HE.out, HT2.out] at hb2
          have S0 := (HS.out _ (List.getElem_mem hlt2)).chg Cj (fun _ _ h => h)
          obtain ⟨p, hp⟩ : ∃ p, l[j] = p := ⟨_, rfl⟩
          rw [hp] at c0 HE HF hb2 S0
          obtain ⟨t, ht⟩ : ∃ t, totM (l.take j) = t := ⟨_, rfl⟩
          rw [ht] at Oj HE hb2 ⊢
          obtain ⟨bo, m, c, xs⟩ := p
          change Hid (totM (l.take (j + 1)) = t + m) at HE
          change Hid ((l.take (j + 1)).flatMap (·.xs) = (l.take j).flatMap (·.xs) ++ xs) at HF
          change t + m ≤ _ at hb2
          have hsz := Cj.size
          have hj0 : (0 : Int) ≤ (j : Int) := by omega
          have hj1' : (j : Int) < (l.length : Int) := by omega
          clear hp ht hLj
          go_wp2_with (at_builtin; go_loud (refine wpList_append_src _ rfl (.tmp 31) (.tmp 32) _ rfl k0 5 i0 _ 1 1 Try.underlying37 hi0 hz0 hz1 hz2 rfl (by omega) _ t _ rfl Oj _ m c _ rfl S0 (u8s_one _) (by unfold maxLen; omega) (by omega) (by omega) ?_); go_loud (intro v7 w7 O7 hgr7))
          go_roundw
          case rel =>
            refine ⟨j + 1, by omega, by go_num, ?_, Cj.grown hgr7 (fun g hg hlt => ?_)⟩
            · rw [HE.out, HF.out, u8s_append]
              exact O7
            · have := (Oj.lt g hg).1
              omega
          case measure => simp [intOf]; omega
        · have hjl : j = l.length := by omega
          subst hjl
          have hTT := HT2.out
          subst hTT
          rw [List.take_length] at Oj
          rw [List.take_length]
          go_wp2_with fail
          go_ret
          exact ⟨_, _, rfl, Oj, Cj⟩
end Go.Proofs.Ytgblnmahniphdaa

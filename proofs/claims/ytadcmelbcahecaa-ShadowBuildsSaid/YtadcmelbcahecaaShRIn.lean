/- trunnionref14.in, trunnionref1.SameInts. -/
import Derived.Test.YtadcmelbcahecaaShRef
namespace Go.Proofs.Ytadcmelbcahecaa
open Go.RowKit

set_option maxRecDepth 100000 in
set_option maxHeartbeats 1000000 in
theorem in_any {ao : Option Addr} {cap : Nat} (T : List Int) (x : Int) (w : World) (l0 : Lst w ao T.length cap (T.flatMap icell) 1) :
    Calls Try.prog 36 #[.slice ao T.length cap, .int .i64 x] w fun e w' => e = .returned (.bool (T.contains x)) ∧ w = w' := by
  have hm1 := l0.mx
  have hm2 := l0.le
  unfold maxLen at hm1
  have HY : Hid (∀ k (h : k < T.length), T[k] = x → T.contains x = true) := fun k h he => by
    rw [List.contains_iff_mem, ← he]
    exact List.getElem_mem h
  have HN : Hid ((∀ j (h : j < T.length), T[j] ≠ x) → T.contains x = false) := fun h => by
    rw [← Bool.not_eq_true, List.contains_iff_mem, List.mem_iff_getElem]
    rintro ⟨j, hj, he⟩
    exact h j hj he
  obtain ⟨r, hr⟩ : ∃ r, T.contains x = r := ⟨_, rfl⟩
  rw [hr] at HY HN
  rw [hr]
  clear hr
  go_enter Try.func36, Try.ntmps36
  go_wp2_with fail
  go_loopg [5] T.length (fun g s5 wr => ∃ k : Nat, g + k = T.length ∧ s5 = .int .i64 k ∧ w = wr ∧ Hid (∀ j (h : j < T.length), j < k → T[j] ≠ x))
  case atStart => exact ⟨0, rfl, rfl, rfl, fun j _ h => absurd h (Nat.not_lt_zero _)⟩
  case round =>
    obtain ⟨k, hk, rfl, rfl, HJ⟩ := hrel
    have HK := Lib.hid hk
    by_cases hlt : k < T.length
    · obtain ⟨g0, o0, rfl⟩ := l0.pos (by omega)
      have c0 := Lst.cell0 (n := 1) (l := T) (f := icell) (fun _ => rfl) l0 k (by decide) hlt rfl
      rw [Nat.mul_one] at c0
      have HYk := Lib.hid (fun he => HY.out k hlt he)
      have HJ2 : Hid (∀ y, y = T[k] → y ≠ x → ∀ j (h : j < T.length), j < k + 1 → T[j] ≠ x) := fun y hy hne j h hj => by
        rcases Nat.lt_or_eq_of_le (Nat.le_of_lt_succ hj) with h2 | rfl
        · exact HJ.out j h h2
        · rw [← hy]; exact hne
      obtain ⟨y, hy⟩ : ∃ y, T[k] = y := ⟨_, rfl⟩
      have HJ3 := Lib.hid (HJ2.out y hy.symm)
      rw [hy] at c0 HYk
      have hk0 : (0 : Int) ≤ (k : Int) := by omega
      have hk1 : (k : Int) < T.length := by omega
      clear hy hk l0 HJ HJ2
      by_cases hxy : y = x
      · have hrr := HYk.out hxy
        have hxb : (y == x) = true := beq_iff_eq.2 hxy
        subst hrr
        clear hxy
        go_wp2_with fail
        go_ret
        exact ⟨rfl, rfl⟩
      · have hxb : (y == x) = false := beq_eq_false_iff_ne.2 hxy
        have HJ4 := Lib.hid (HJ3.out hxy)
        clear hxy
        go_wp2_with fail
        go_roundg (gk - 1)
        case measure => have := HK.out; omega
        case rel => exact ⟨k + 1, by have := HK.out; omega, by go_num, rfl, HJ4⟩
    · obtain rfl : k = T.length := by omega
      have hrr := HN.out (fun j h => HJ.out j h h)
      subst hrr
      clear hk
      go_wp2_with fail
      go_ret
      exact ⟨rfl, rfl⟩

set_option maxRecDepth 100000 in
set_option maxHeartbeats 1000000 in
theorem sameints_any {ao0 ao1 : Option Addr} {cap0 cap1 : Nat} (T : List Int) (w : World) (l0 : Lst w ao0 T.length cap0 (T.flatMap icell) 1) (l1 : Lst w ao1 T.length cap1 (T.flatMap icell) 1) :
    Calls Try.prog 20 #[.slice ao0 T.length cap0, .slice ao1 T.length cap1] w fun e w' => e = .returned (.bool true) ∧ Chg w w' (fun _ => False) := by
  have hm1 := l0.mx
  have hm2 := l0.le
  have hm3 := l1.le
  unfold maxLen at hm1
  go_enter Try.func20, Try.ntmps20
  go_wp2_with fail
  go_loopg [5] T.length (fun g s5 wr => ∃ k : Nat, g + k = T.length ∧ s5 = .int .i64 k ∧ Chg w wr (fun _ => False))
  case atStart => exact ⟨0, rfl, rfl, Chg.refl _ _⟩
  case round =>
    obtain ⟨k, hk, rfl, Ck⟩ := hrel
    have HK := Lib.hid hk
    have l0 := l0.chg Ck (fun _ _ h => h)
    have l1 := l1.chg Ck (fun _ _ h => h)
    by_cases hlt : k < T.length
    · obtain ⟨g0, o0, rfl⟩ := l0.pos (by omega)
      obtain ⟨g1, o1, rfl⟩ := l1.pos (by omega)
      have c0 := Lst.cell0 (n := 1) (l := T) (f := icell) (fun _ => rfl) l0 k (by decide) hlt rfl
      have c1 := Lst.cell0 (n := 1) (l := T) (f := icell) (fun _ => rfl) l1 k (by decide) hlt rfl
      rw [Nat.mul_one] at c0 c1
      obtain ⟨y, hy⟩ : ∃ y, T[k] = y := ⟨_, rfl⟩
      rw [hy] at c0 c1
      have hk0 : (0 : Int) ≤ (k : Int) := by omega
      have hk1 : (k : Int) < T.length := by omega
      clear hy hk l0 l1
      go_wp2_with fail
      go_quiet (fail)
      go_wp2_with fail
      go_roundg (gk - 1)
      case measure => have := HK.out; omega
      case rel => exact ⟨k + 1, by have := HK.out; omega, by go_num, Ck.drewN _⟩
    · obtain rfl : k = T.length := by omega
      clear hk
      go_wp2_with fail
      go_ret
      exact ⟨rfl, Ck⟩
end Go.Proofs.Ytadcmelbcahecaa

/- Strings of bytes; bytes.Equal. -/
import Derived.Test.YtdhkbephofnfdaaBytes
import Derived.Test.YtdhkbephofnfdaaLst
import Derived.Lib.Bytes
namespace Go.Proofs.Ytdhkbephofnfdaa
open Go.RowKit

theorem str_inj {xs ys : List Int} (hx : ∀ x ∈ xs, 0 ≤ x ∧ x < 256) (hy : ∀ x ∈ ys, 0 ≤ x ∧ x < 256) (h : strOfNums xs = strOfNums ys) : xs = ys := by
  have h2 : xs.map (fun n => UInt8.ofNat n.toNat) = ys.map (fun n => UInt8.ofNat n.toNat) := by
    have := congrArg (fun s : ByteArray => s.data.toList) h
    simpa [strOfNums_data] using this
  clear h
  induction xs generalizing ys with
  | nil => cases ys with
    | nil => rfl
    | cons y ys => simp at h2
  | cons x xs ih =>
    cases ys with
    | nil => simp at h2
    | cons y ys =>
      rw [List.map_cons, List.map_cons, List.cons.injEq] at h2
      have hx0 := hx x (by simp)
      have hy0 := hy y (by simp)
      have e := congrArg UInt8.toNat h2.1
      simp only [UInt8.toNat_ofNat'] at e
      have : x = y := by omega
      subst this
      rw [ih (fun z hz => hx z (by simp [hz])) (fun z hz => hy z (by simp [hz])) h2.2]
theorem conv_rule {ao : Option Addr} {m c : Nat} {xs : List Int} : ∀ w : World, Src w ao m c (u8s xs) 1 → (convert 59 9 (.slice ao m c)).run Try.prog w = .ok (.string (strOfNums xs)) w := fun w h => conv_src w h
theorem str_beq {xs ys : List Int} (hx : ∀ x ∈ xs, 0 ≤ x ∧ x < 256) (hy : ∀ x ∈ ys, 0 ≤ x ∧ x < 256) : ((strOfNums xs).toList == (strOfNums ys).toList) = decide (xs = ys) := by
  by_cases h : xs = ys
  · subst h; simp
  · rw [decide_eq_false h]
    refine beq_eq_false_iff_ne.2 (fun e => h (str_inj hx hy ?_))
    rw [Lib.strOfNums_toList, Lib.strOfNums_toList] at e
    unfold strOfNums
    rw [show (xs.map fun n => UInt8.ofNat n.toNat) = ys.map fun n => UInt8.ofNat n.toNat from e]

set_option maxHeartbeats 400000 in
theorem equal_any {a1 a2 : Option Addr} {m1 m2 c1 c2 : Nat} {xs ys : List Int} (w : World) (h1 : Src w a1 m1 c1 (u8s xs) 1) (h2 : Src w a2 m2 c2 (u8s ys) 1) (hx : ∀ x ∈ xs, 0 ≤ x ∧ x < 256) (hy : ∀ x ∈ ys, 0 ≤ x ∧ x < 256) :
    Calls Try.prog 59 #[.slice a1 m1 c1, .slice a2 m2 c2] w fun e w' => e = .returned (.bool (decide (xs = ys))) ∧ w = w' := by
  have k1 := conv_rule w h1
  have k2 := conv_rule w h2
  have HB := Lib.hid (str_beq hx hy)
  obtain ⟨s1, e1⟩ : ∃ s, strOfNums xs = s := ⟨_, rfl⟩
  obtain ⟨s2, e2⟩ : ∃ s, strOfNums ys = s := ⟨_, rfl⟩
  rw [e1, e2] at HB
  rw [e1] at k1
  rw [e2] at k2
  clear h1 h2 hx hy e1 e2
  go_enter Try.func59, Try.ntmps59
  go_wp2_with fail
  go_ret
  rw [← HB.out]
  exact ⟨rfl, rfl⟩
end Go.Proofs.Ytdhkbephofnfdaa

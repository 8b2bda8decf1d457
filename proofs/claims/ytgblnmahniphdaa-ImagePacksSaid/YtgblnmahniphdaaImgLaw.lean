/- image: the plain law of packed bytes. No program in sight. -/
import Derived.Test.YtgblnmahniphdaaImg5
import Derived.Test.YtgblnmahniphdaaImg1
namespace Go.Proofs.Ytgblnmahniphdaa
open Go.RowKit

theorem four_inj {a b : Int} (ha : 0 ≤ a) (ha1 : a < 4294967296) (hb : 0 ≤ b) (hb1 : b < 4294967296) (h : fourB a = fourB b) : a = b := by
  simp only [fourB, List.cons.injEq] at h
  omega
theorem numB_packB (e : Int) (xs : List Int) (h0 : 0 ≤ e) (h1 : e < 4294967296) : numB (packB e xs) 4 = e := by
  have : ∀ l : List Int, numB ([84, 82, 85, 49] ++ fourB e ++ l) 4 = e := by
    intro l
    simp [numB, fourB, num4]
    omega
  have h2 : packB e xs = [84, 82, 85, 49] ++ fourB e ++ (fourB xs.length ++ xs ++ fourB (sumI (headB e xs) % 4294967296)) := by simp [packB, summed, headB]
  rw [h2]
  exact this _
theorem mid_packB (e : Int) (xs : List Int) : ((packB e xs).drop 12).take xs.length = xs := by
  have h2 : packB e xs = ([84, 82, 85, 49] ++ fourB e ++ fourB xs.length) ++ (xs ++ fourB (sumI (headB e xs) % 4294967296)) := by simp [packB, summed, headB]
  have h3 : ([84, 82, 85, 49] ++ fourB e ++ fourB xs.length).length = 12 := rfl
  rw [h2, List.drop_append_of_le_length (by omega), ← h3, List.drop_length, List.nil_append, List.take_append_of_le_length (by omega), List.take_length]
/-- What bytes are as an image. -/
def midB (b : List Int) : List Int := (b.drop 12).take (b.length - 16)
def goodI (b : List Int) : Prop := 16 ≤ b.length ∧ chkI (numB b 4) (b.length - 16) = 0 ∧ packB (numB b 4) (midB b) = b
instance (b : List Int) : Decidable (goodI b) := by unfold goodI; infer_instance
theorem midB_packB (e : Int) (xs : List Int) : midB (packB e xs) = xs := by
  unfold midB
  rw [packB_len, Nat.add_sub_cancel]
  exact mid_packB e xs
theorem chkI_rng {e : Int} {m : Nat} (h : chkI e m = 0) : 0 ≤ e ∧ e < 4294967296 ∧ m ≤ 1048576 := by
  unfold chkI at h
  split at h
  · omega
  · split at h <;> omega
theorem good_packB (e : Int) (xs : List Int) (h : chkI e xs.length = 0) : goodI (packB e xs) := by
  obtain ⟨h0, h1, _⟩ := chkI_rng h
  refine ⟨by rw [packB_len]; omega, ?_, ?_⟩
  · rw [numB_packB e xs h0 h1, packB_len, Nat.add_sub_cancel]; exact h
  · rw [numB_packB e xs h0 h1, midB_packB]
theorem sumI_cons (x : Int) (xs : List Int) : sumI (x :: xs) = x + sumI xs := by
  show (x :: xs).foldl (· + ·) 0 = x + xs.foldl (· + ·) 0
  rw [List.foldl_cons, foldl_add]; omega
theorem sumI_set (xs : List Int) : ∀ (k : Nat) (h : k < xs.length) (x : Int), sumI (xs.set k x) = sumI xs - xs[k] + x := by
  induction xs with
  | nil => intro k h; simp at h
  | cons y ys ih =>
    intro k h x
    cases k with
    | zero => simp [sumI_cons]; omega
    | succ k =>
      have := ih k (by simpa using h) x
      simp [sumI_cons, this]; omega
theorem turned_bad (e e2 : Int) (xs ys : List Int) (k : Nat) (hk : k < (packB e xs).length) (x : Int) (hr : ∀ y ∈ xs, 0 ≤ y ∧ y < 256) (h0 : 0 ≤ x) (h1 : x < 256) (hn : x ≠ (packB e xs)[k]) (hl : ys.length = xs.length) : packB e2 ys ≠ (packB e xs).set k x := by
  intro h
  have hold := packB_rng e xs hr _ (List.getElem_mem hk)
  by_cases hlt : k < (headB e xs).length
  · have hs : (packB e xs).set k x = (headB e xs).set k x ++ fourB (sumI (headB e xs) % 4294967296) := by
      unfold packB summed
      rw [List.set_append_left _ _ hlt]
    rw [hs] at h
    have hlen : (headB e2 ys).length = ((headB e xs).set k x).length := by rw [List.length_set, headB_len, headB_len, hl]
    obtain ⟨h2, h3⟩ := List.append_inj (s₁ := headB e2 ys) h hlen
    have hx : (packB e xs)[k] = (headB e xs)[k] := by
      have h9 : (packB e xs)[k]? = (headB e xs)[k]? := List.getElem?_append_left hlt
      rw [List.getElem?_eq_getElem hk, List.getElem?_eq_getElem hlt] at h9
      exact Option.some.inj h9
    rw [hx] at hn hold
    rw [h2, sumI_set _ k hlt] at h3
    have := four_inj (by omega) (by omega) (by omega) (by omega) h3
    omega
  · have hs : (packB e xs).set k x = headB e xs ++ (fourB (sumI (headB e xs) % 4294967296)).set (k - (headB e xs).length) x := by
      unfold packB summed
      rw [List.set_append_right _ _ (by omega)]
    rw [hs] at h
    have hlen : (headB e2 ys).length = (headB e xs).length := by rw [headB_len, headB_len, hl]
    obtain ⟨h2, h3⟩ := List.append_inj (s₁ := headB e2 ys) h hlen
    rw [h2] at h3
    have hb : packB e xs = (packB e xs).set k x := by
      rw [hs, ← h3]
      rfl
    have hk2 : k < ((packB e xs).set k x).length := by rw [List.length_set]; exact hk
    have h5 : ((packB e xs).set k x)[k]'hk2 = x := by simp
    apply hn
    rw [← h5]
    congr 1
    exact hb.symm
end Go.Proofs.Ytgblnmahniphdaa

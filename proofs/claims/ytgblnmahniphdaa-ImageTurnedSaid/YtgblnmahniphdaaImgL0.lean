/- The laws of images: what they share. -/
import Derived.Test.YtgblnmahniphdaaImg9
import Derived.Test.YtgblnmahniphdaaRead
namespace Go.Proofs.Ytgblnmahniphdaa
open Go.RowKit Go.ChangeShapes Go.WideShapes Go.Deep

theorem num_any (n : Int) (w : World) : Calls Try.prog 21 #[.int .i64 n] w fun e w' => e = .returned (.int .i64 n) ∧ w = w' := by
  go_enter Try.func21, Try.ntmps21
  go_wp2
  go_ret
  exact ⟨rfl, rfl⟩

theorem pack_alive : strOfNums (packB 0 []) = ⟨#[84, 82, 85, 49, 0, 0, 0, 0, 0, 0, 0, 0, 44, 1, 0, 0]⟩ := by decide +kernel
theorem chk_alive : chkI 0 0 = 0 := by decide

set_option maxHeartbeats 800000 in
theorem alive_any (w : World) : Calls Try.prog 17 #[] w fun e w' => e = .returned (.bool true) ∧ Chg w w' (fun _ => False) := by
  have HA := Lib.hid pack_alive
  go_enter Try.func17, Try.ntmps17
  go_wp2_with fail
  refine (ipack_ok 0 0 0 none [] _ ⟨rfl, fun _ => ⟨rfl, rfl⟩, fun ad h => (by cases h)⟩ (by simp) (by omega) chk_alive).mono ?_
  rintro e w1 ⟨a2, c2, rfl, O, C⟩
  have k1 := conv_rule w1 (own_src O)
  rw [HA.out] at k1
  go_wp2_with (go_at_call 21; refine (num_any _ _).mono ?_; rintro e w' ⟨rfl, rfl⟩)
  go_ret
  exact ⟨rfl, C⟩

/-- An own row of bytes: one cell is turned. -/
theorem own_setB {w : World} {base g cap n size : Nat} {e : TypeId} {xs : List Value} (h : w.ownsRow base e size (.slice (some ⟨g, 0, none⟩) n cap) n xs) (j : Nat) (u : Value) :
    (w.setCell ⟨g, j, none⟩ u).ownsRow base e size (.slice (some ⟨g, 0, none⟩) n cap) n (xs.set j u) := by
  rcases h.2 with ⟨h0, _⟩ | ⟨b, cap', cur, hv, hb, hh, hc, hmx, hs, ht⟩
  · cases h0
  · injection hv with e1 e2 e3
    injection e1 with e1
    have : g = b := congrArg Addr.block e1
    subst this e3
    refine ⟨by rw [List.length_set]; exact h.1, .inr ⟨g, cap, cur.setIfInBounds j u, rfl, hb, ?_, hc, hmx, by simpa using hs, ?_⟩⟩
    · have := setCell_eq_setRow w g j cur e (0, 0) u hh
      rw [this]
      exact setRow_heap w g cur _ e _ hh
    · rw [Array.toList_setIfInBounds, ← ht, List.take_set]
theorem u8s_set (xs : List Int) (j : Nat) (y : Int) : (u8s xs).set j (.int .u8 y) = u8s (xs.set j y) := by simp [u8s]

theorem u8s_flat (xs : List Int) : xs.flatMap (fun x => [Value.int .u8 x]) = u8s xs := by
  induction xs with
  | nil => rfl
  | cons x xs ih => rw [List.flatMap_cons, ih]; rfl

section
variable {H : Type} {enc : TypeId × Value → H} {W : World} {base : Nat} {sp : Nat → Bool} {hd : Bool}
theorem read_byte {fuel : Nat} {cs : List Value} {x : DataW H × List MemPlace} (hc : cs.length = 1) (h : DataW.trod enc Try.prog W base sp hd fuel 5 cs = some x) : ∃ p : Int, [Value.int .u8 p] = cs ∧ (0 ≤ p ∧ p < 256) := by
  match cs, hc with
  | [c], _ =>
    obtain ⟨n, rfl, hw⟩ := read_int Try.underlying5 h
    exact ⟨n, rfl, by simp [Lit.wf, IntKind.min, IntKind.max, IntKind.signed, IntKind.bits] at hw; omega⟩
theorem read_bytes {fuel : Nat} {v : Value} {x : DataW H × List MemPlace} (h : DataW.trod enc Try.prog W base sp hd fuel 37 [v] = some x) :
    ∃ (ao : Option Addr) (m c : Nat) (xs : List Int), v = .slice ao m c ∧ Lst W ao m c (u8s xs) 1 ∧ (∀ ad, ao = some ad → 0 < m → ad.block < W.heap.size) ∧ (∀ x ∈ xs, 0 ≤ x ∧ x < 256) := by
  obtain ⟨ao, c, xs, rfl, hL, ho, hg⟩ := read_slice (fun x : Int => [Value.int .u8 x]) (fun p => 0 ≤ p ∧ p < 256) 1 (fun _ => rfl) (by decide) Try.underlying37 (by kernel_rfl) (fun _ _ _ hc ht => read_byte hc ht) h
  rw [u8s_flat] at hL
  exact ⟨ao, xs.length, c, xs, rfl, hL, ho, hg⟩
end

set_option maxRecDepth 100000 in
theorem open_img {H : Type} {enc : TypeId × Value → H} {W : World} {base : Nat} {v : Value} {d : DataW H} {p : List MemPlace} (hv : Value.okWide Try.prog W .any base 39 v) (h : DataW.Trod enc Try.prog W 0 (fun _ => true) true 39 v d p) :
    ∃ (e : Int) (ao : Option Addr) (m c : Nat) (xs : List Int), v = .agg #[.int .i64 e, .slice ao m c] ∧ Lst W ao m c (u8s xs) 1 ∧ (∀ ad, ao = some ad → 0 < m → ad.block < W.heap.size) ∧ (∀ x ∈ xs, 0 ≤ x ∧ x < 256) := by
  obtain ⟨cs, rfl, hsz⟩ := okWide_struct Try.underlying39 hv
  obtain ⟨fuel, hf⟩ := h
  obtain ⟨hlen, hs⟩ := read_struct Try.underlying39 (by kernel_rfl) (by kernel_rfl) hf
  obtain ⟨v0, y0, n0, e0, t0⟩ := hs 0 _ rfl
  obtain ⟨v1, y1, n1, e1, t1⟩ := hs 1 _ rfl
  obtain ⟨z0, rfl, _⟩ := read_int Try.underlying3 t0
  obtain ⟨ao, m, c, xs, rfl, hL, ho, hg⟩ := read_bytes t1
  refine ⟨z0, ao, m, c, xs, ?_, hL, ho, hg⟩
  obtain ⟨l⟩ := cs
  have hl : l.length = 2 := hlen
  match l, hl with
  | [c0, c1], _ =>
    have e0' : c0 = .int .i64 z0 := by simpa [Value.cells] using e0
    have e1' : c1 = .slice ao m c := by simpa [Value.cells] using e1
    rw [e0', e1']

/-- Unpack, whatever comes in. -/
theorem unpack_any {ao : Option Addr} {m c : Nat} {xs : List Int} (w : World) (hL : Lst w ao m c (u8s xs) 1) (hx : ∀ x ∈ xs, 0 ≤ x ∧ x < 256) (hmm : m ≤ 1000000) :
    Calls Try.prog 23 #[.slice ao m c] w fun r w' => ∃ e2 a2 n2 c2 q, r = .returned (.tuple #[.agg #[.int .i64 e2, .slice a2 n2 c2], .int .i64 q]) ∧ Chg w w' (fun _ => False) ∧
      (goodI xs → q = 0 ∧ e2 = numB xs 4 ∧ n2 = m - 16 ∧ w'.ownsRow w.heap.size 5 1 (.slice a2 n2 c2) n2 (u8s (midB xs))) ∧ (¬ goodI xs → q = 4 ∧ e2 = 0 ∧ a2 = none ∧ n2 = 0 ∧ c2 = 0) := by
  by_cases hm : m < 16
  · have hl : xs.length = m := by have := hL.src.len; simpa [u8s] using this
    have hn : ¬ goodI xs := fun h => by have := h.1; omega
    refine (unpack_short w hm).mono ?_
    rintro r w' ⟨rfl, C⟩
    exact ⟨0, none, 0, 0, 4, rfl, C, fun h => absurd h hn, fun _ => ⟨rfl, rfl, rfl, rfl, rfl⟩⟩
  · exact unpack_long w hL hx (by omega) hmm
theorem read_any {ao : Option Addr} {m c : Nat} {xs : List Int} (w : World) (hL : Lst w ao m c (u8s xs) 1) (hx : ∀ x ∈ xs, 0 ≤ x ∧ x < 256) (hmm : m ≤ 1000000) :
    Calls Try.prog 24 #[.slice ao m c] w fun r w' => ∃ e2 a2 n2 c2 q, r = .returned (.tuple #[.agg #[.int .i64 e2, .slice a2 n2 c2], .int .i64 q]) ∧ Chg w w' (fun _ => False) ∧
      (goodI xs → q = 0 ∧ e2 = numB xs 4 ∧ n2 = m - 16 ∧ w'.ownsRow w.heap.size 5 1 (.slice a2 n2 c2) n2 (u8s (midB xs))) ∧ (¬ goodI xs → q = 4 ∧ e2 = 0 ∧ a2 = none ∧ n2 = 0 ∧ c2 = 0) := by
  by_cases hm : m < 16
  · have hl : xs.length = m := by have := hL.src.len; simpa [u8s] using this
    have hn : ¬ goodI xs := fun h => by have := h.1; omega
    refine (read_short w hm).mono ?_
    rintro r w' ⟨rfl, C⟩
    exact ⟨0, none, 0, 0, 4, rfl, C, fun h => absurd h hn, fun _ => ⟨rfl, rfl, rfl, rfl, rfl⟩⟩
  · exact read_long w hL hx (by omega) hmm
end Go.Proofs.Ytgblnmahniphdaa

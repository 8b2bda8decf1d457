/- phys: Load and Store. -/
import Derived.Test.YtadcmelbcahecaaPhysAt
namespace Go.Proofs.Ytadcmelbcahecaa
open Go.RowKit

set_option maxHeartbeats 400000 in
theorem load_yes (a b n p s : Nat) (f : Nat → Int) (w : World) (hc : w.cell? ⟨a, 0, none⟩ = some (.slice (some ⟨b, 0, none⟩) n n)) (hn : n ≤ 1048576) (h : okB n p s = true)
    (hr : ∀ i, i < n → w.cell? ⟨b, i, none⟩ = some (.int .u8 (f i))) (hf : ∀ i, i < n → 0 ≤ f i ∧ f i < 256) :
    Calls Try.prog 79 #[.pointer (some ⟨a, 0, none⟩), .int .i64 p, .int .i64 s] w fun e w' => e = .returned (.tuple #[.int .i64 (leN f p s), .bool true]) ∧ w = w' := by
  have hs := okB_true h
  obtain ⟨h1, h2, h3, h4⟩ := hs
  clear h3
  have H := Lib.hid h
  have HR := Lib.hid hr
  have HF := Lib.hid hf
  have H1 : 1 ≤ s ∧ s ≤ 4 := by omega
  clear hr hf h1 h
  have HC := at_yes a b n p s w hc hn H.out
  go_enter Try.func79, Try.ntmps79
  go_wp2_with (go_at_call 38; refine HC.mono ?_; rintro e w' ⟨rfl, rfl⟩)
  go_loop [10, 11] (fun v i => ∃ k : Nat, k ≤ s ∧ i = .int .i64 ((k : Int) - 1) ∧ v = .int .i64 (leN f (p + k) (s - k))) (fun _ i => (intOf i + 1).toNat)
  case atStart => exact ⟨s, Nat.le_refl _, rfl, by rw [Nat.sub_self]; rfl⟩
  case round =>
    obtain ⟨k, hk, rfl, rfl⟩ := hrel
    have hlb := leN_lt f n HF.out (p + k) (s - k) (by omega) (by omega)
    by_cases hlt : 0 < k
    · have hcell : w.cell? ⟨b, p + (k - 1), none⟩ = some (.int .u8 (f (p + (k - 1)))) := HR.out _ (by omega)
      have hfb := HF.out (p + (k - 1)) (by omega)
      have HO := Lib.hid (or_byte (leN f (p + k) (s - k)) (f (p + (k - 1))) hlb.1 hlb.2 hfb.1 hfb.2)
      go_wp2
      go_round
      case rel => exact ⟨k - 1, by omega, int_eq (by omega), by rw [HO.out, leN_step f p k s hlt hk]; exact int_eq (by omega)⟩
      case measure => simp [intOf]; omega
    · have h0 : k = 0 := by omega
      subst h0
      go_wp2
      go_ret2
      exact ⟨rfl, rfl⟩

set_option maxHeartbeats 400000 in
theorem load_no (a b n : Nat) (addr size : Int) (w : World) (hc : w.cell? ⟨a, 0, none⟩ = some (.slice (some ⟨b, 0, none⟩) n n)) (hn : n ≤ 1048576) (h : okB n addr size = false) :
    Calls Try.prog 79 #[.pointer (some ⟨a, 0, none⟩), .int .i64 addr, .int .i64 size] w fun e w' => e = .returned (.tuple #[.int .i64 0, .bool false]) ∧ w = w' := by
  have HC := at_no a b n addr size w hc hn h
  clear h
  go_enter Try.func79, Try.ntmps79
  go_wp2_with (go_at_call 38; refine HC.mono ?_; rintro e w' ⟨rfl, rfl⟩)
  go_ret2
  exact ⟨rfl, rfl⟩

/-- LOAD. -/
theorem load_any {a b n : Nat} {f : Nat → Int} {w : World} (M : Mem 74 w a b n f) (addr size : Int) :
    Calls Try.prog 79 #[.pointer (some ⟨a, 0, none⟩), .int .i64 addr, .int .i64 size] w fun e w' => e = .returned (.tuple #[.int .i64 (ldV n f addr size), .bool (okB n addr size)]) ∧ w = w' := by
  unfold ldV
  cases h : okB n addr size
  · exact load_no a b n addr size w M.cell0 M.le h
  · obtain ⟨h1, h2, h3, h4⟩ := okB_true h
    obtain ⟨p, rfl⟩ := Int.eq_ofNat_of_zero_le h2
    obtain ⟨s, rfl⟩ := Int.eq_ofNat_of_zero_le (show 0 ≤ size by omega)
    exact load_yes a b n p s f w M.cell0 M.le h M.cell M.rng

theorem stN_step (f : Nat → Int) (p k : Nat) (v : Int) : (fun j => if j = p + k then byteN v k else stN f p k v j) = stN f p (k + 1) v := by
  funext j
  unfold stN
  by_cases h : j = p + k
  · subst h
    rw [if_pos rfl, if_pos (by omega), Nat.add_sub_cancel_left]
  · rw [if_neg h]
    by_cases h2 : p ≤ j ∧ j < p + k
    · rw [if_pos h2, if_pos (by omega)]
    · rw [if_neg h2, if_neg (by omega)]

set_option maxHeartbeats 400000 in
theorem store_yes (a b n p s : Nat) (f : Nat → Int) (v : Int) (w : World) (M : Mem 74 w a b n f) (h : okB n p s = true) :
    Calls Try.prog 25 #[.pointer (some ⟨a, 0, none⟩), .int .i64 p, .int .i64 s, .int .i64 v] w fun e w' => e = .returned (.bool true) ∧ Mem 74 w' a b n (stN f p s v) ∧ Chg w w' (fun k => k = b) := by
  have hs := okB_true h
  obtain ⟨h1, h2, h3, h4⟩ := hs
  clear h3
  have hn := M.le
  have H1 : 1 ≤ s ∧ s ≤ 4 := by omega
  have HC := at_yes a b n p s w M.cell0 hn h
  clear h h1
  go_enter Try.func25, Try.ntmps25
  go_wp2_with (go_at_call 38; refine HC.mono ?_; rintro e w' ⟨rfl, rfl⟩)
  go_loopw [22] (fun i wr => ∃ k : Nat, k ≤ s ∧ i = .int .i64 (k : Int) ∧ Mem 74 wr a b n (stN f p k v) ∧ Chg w wr (fun k => k = b)) (fun i _ => s - (intOf i).toNat)
  case atStart => exact ⟨0, by omega, rfl, M.congr (fun i _ => by unfold stN; rw [if_neg (by omega)]), Chg.refl _ _⟩
  case round =>
    obtain ⟨k, hk, rfl, Mk, Ck⟩ := hrel
    by_cases hlt : k < s
    · have hcell := Mk.cell (p + k) (by omega)
      have hfr := Mk.row.frozen (p + k)
      have hb8 : 0 ≤ byteN v k ∧ byteN v k < 256 := byteN_rng v k
      have hst := Mk.setb (p + k) (byteN v k) hb8
      rw [stN_step] at hst
      have hch := Ck.setCell (p := ⟨b, p + k, none⟩) (fun _ => rfl) (.int .u8 (byteN v k))
      go_wp2
      go_roundw
      case rel => exact ⟨k + 1, by omega, by go_num, hst, hch⟩
      case measure => simp [intOf]; omega
    · have h0 : k = s := by omega
      subst h0
      go_wp2
      go_ret
      exact ⟨rfl, Mk, Ck⟩

set_option maxHeartbeats 400000 in
theorem store_no (a b n : Nat) (addr size v : Int) (w : World) (hc : w.cell? ⟨a, 0, none⟩ = some (.slice (some ⟨b, 0, none⟩) n n)) (hn : n ≤ 1048576) (h : okB n addr size = false) :
    Calls Try.prog 25 #[.pointer (some ⟨a, 0, none⟩), .int .i64 addr, .int .i64 size, .int .i64 v] w fun e w' => e = .returned (.bool false) ∧ w = w' := by
  have HC := at_no a b n addr size w hc hn h
  clear h
  go_enter Try.func25, Try.ntmps25
  go_wp2_with (go_at_call 38; refine HC.mono ?_; rintro e w' ⟨rfl, rfl⟩)
  go_ret
  exact ⟨rfl, rfl⟩

/-- STORE. -/
theorem store_any {a b n : Nat} {f : Nat → Int} {w : World} (M : Mem 74 w a b n f) (addr size v : Int) :
    Calls Try.prog 25 #[.pointer (some ⟨a, 0, none⟩), .int .i64 addr, .int .i64 size, .int .i64 v] w fun e w' =>
      e = .returned (.bool (okB n addr size)) ∧ Mem 74 w' a b n (stV n f addr size v) ∧ Chg w w' (fun k => k = b) := by
  unfold stV
  cases h : okB n addr size
  · exact (store_no a b n addr size v w M.cell0 M.le h).mono fun e w' ⟨he, hw⟩ => by subst hw; exact ⟨he, M, Chg.refl _ _⟩
  · obtain ⟨h1, h2, h3, h4⟩ := okB_true h
    obtain ⟨p, rfl⟩ := Int.eq_ofNat_of_zero_le h2
    obtain ⟨s, rfl⟩ := Int.eq_ofNat_of_zero_le (show 0 ≤ size by omega)
    exact store_yes a b n p s f v w M h

end Go.Proofs.Ytadcmelbcahecaa

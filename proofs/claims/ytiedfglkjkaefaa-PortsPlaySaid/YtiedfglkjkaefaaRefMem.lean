/- The reference's memory: NewMemory, Load, Store. -/
import Derived.Test.YtiedfglkjkaefaaPhysNew
namespace Go.Proofs.Ytiedfglkjkaefaa
open Go.RowKit

set_option maxHeartbeats 400000 in
theorem rnew_any (pages : Int) (w : World) :
    Calls Try.prog 23 #[.int .i64 pages] w fun e w' => ∃ a b, MemNew 65 w (pgN pages) e w' a b := by
  by_cases h1 : pages < 0
  · have hmk := mk_bytes 0 0 rfl (by decide)
    have HP : Hid (pgN pages = 0) := by show pgN pages = 0; unfold pgN; omega
    go_enter Try.func23, Try.ntmps23
    go_wp2
    go_ret
    rw [HP.out]
    exact ⟨_, _, memNew_of 65 w 0 (by omega) (by omega)⟩
  · obtain ⟨p, rfl⟩ := Int.eq_ofNat_of_zero_le (show 0 ≤ pages by omega)
    by_cases h2 : p ≤ 256
    · have hmk := mk_bytes ((p : Int) * 4096) (p * 4096) (by omega) (by omega)
      have HP : Hid (pgN p = p * 4096) := by show pgN p = p * 4096; unfold pgN; omega
      go_enter Try.func23, Try.ntmps23
      go_wp2
      go_ret
      rw [HP.out]
      exact ⟨_, _, memNew_of 65 w (p * 4096) (by omega) (by omega)⟩
    · have hmk := mk_bytes 1048576 1048576 rfl (by decide)
      have HP : Hid (pgN p = 1048576) := by show pgN p = 1048576; unfold pgN; omega
      go_enter Try.func23, Try.ntmps23
      go_wp2
      go_ret
      rw [HP.out]
      exact ⟨_, _, memNew_of 65 w 1048576 (by omega) (by omega)⟩

theorem rok_of {n : Nat} {addr size : Int} (hm : n % 4096 = 0) (h : (size = 1 ∨ size = 2 ∨ size = 4) ∧ 0 ≤ addr ∧ addr < n ∧ addr % size = 0) : okB n addr size = true := by
  obtain ⟨h1, h2, h3, h4⟩ := h
  refine decide_eq_true ⟨h1, h2, h4, ?_⟩
  rcases h1 with rfl | rfl | rfl <;> omega











end Go.Proofs.Ytiedfglkjkaefaa

/- phys: New, Size; the reference's NewMemory. -/
import Derived.Test.YtiedfglkjkaefaaPhysLS
namespace Go.Proofs.Ytiedfglkjkaefaa
open Go.RowKit

/-- How many bytes so many pages have. -/
def pgN (pages : Int) : Nat := (min (max 0 pages) 256).toNat * 4096
theorem pgN_le (pages : Int) : pgN pages ≤ 1048576 := by unfold pgN; omega
theorem pgN_mul (pages : Int) : pgN pages % 4096 = 0 := by unfold pgN; omega

theorem info_u8 : (Try.prog.info? 5).map (fun i => (i.zero, i.size, i.bytes)) = some (some (.int .u8 0), 1, 1) := by kernel_rfl

theorem mk_bytes (c : Int) (m : Nat) (h : c = (m : Int)) (hm : m ≤ 1073741824) (w : World) :
    (Instr.makeSlice 22 (.int .i64 c) (.int .i64 c)).run Try.prog w = .ok (.slice (some ⟨w.heap.size, 0, none⟩) m m) (w.alloc (.cells (madeCells #[.int .u8 0] m) 5)) := by
  obtain ⟨i0, hi, hz0, hz1, hz2⟩ := info_parts info_u8
  subst h
  exact run_make_row (P := Try.prog) 22 5 i0 (.int .u8 0) Try.underlying22 hi hz0 hz1 rfl .i64 .i64 m (by rw [hz2]; omega) (by omega) w

/-- What New leaves. -/
structure MemNew (t : TypeId) (w : World) (n : Nat) (e : Ending) (w' : World) (a b : Nat) : Prop where
  ret : e = .returned (.pointer (some ⟨a, 0, none⟩))
  mem : Mem t w' a b n (fun _ => 0)
  chg : Chg w w' (fun _ => False)
  lea : w.heap.size ≤ a
  leb : w.heap.size ≤ b

theorem memNew_of (t : TypeId) (w : World) (n : Nat) (hn : n ≤ 1048576) (hm : n % 4096 = 0) :
    MemNew t w n (.returned (.pointer (some ⟨w.heap.size + 1, 0, none⟩))) ((w.alloc (.cells (madeCells #[.int .u8 0] n) 5)).alloc (.cells #[.slice (some ⟨w.heap.size, 0, none⟩) n n] t)) (w.heap.size + 1) w.heap.size := by
  refine ⟨rfl, ⟨?_, ?_, fun _ _ => by omega, by omega, hn, hm⟩, ((Chg.refl _ _).alloc _).alloc _, by omega, by omega⟩
  · have h := World.rowIs_alloc (w.alloc (.cells (madeCells #[.int .u8 0] n) 5)) #[.slice (some ⟨w.heap.size, 0, none⟩) n n] t (fun _ => .slice (some ⟨w.heap.size, 0, none⟩) n n) (fun i hi => by
      have : i = 0 := by simp at hi; omega
      subst this; rfl)
    have e1 : (w.alloc (.cells (madeCells #[.int .u8 0] n) 5)).heap.size = w.heap.size + 1 := by simp
    rw [e1] at h
    exact h
  · exact (World.rowIs_made w (.int .u8 0) n 5).alloc _

set_option maxRecDepth 100000 in
set_option maxHeartbeats 400000 in
theorem new_any (pages : Int) (w : World) :
    Calls Try.prog 17 #[.int .i64 pages] w fun e w' => ∃ a b, MemNew 92 w (pgN pages) e w' a b := by
  by_cases h1 : pages ≤ 0
  · have hmk := mk_bytes 0 0 rfl (by decide)
    have HP : Hid (pgN pages = 0) := by show pgN pages = 0; unfold pgN; omega
    go_enter Try.func17, Try.ntmps17
    go_wp2
    go_ret
    rw [HP.out]
    exact ⟨_, _, memNew_of 92 w 0 (by omega) (by omega)⟩
  · obtain ⟨p, rfl⟩ := Int.eq_ofNat_of_zero_le (show 0 ≤ pages by omega)
    by_cases h2 : p ≤ 256
    · have hmk := mk_bytes ((p : Int) * 4096) (p * 4096) (by omega) (by omega)
      have HP : Hid (pgN p = p * 4096) := by show pgN p = p * 4096; unfold pgN; omega
      go_enter Try.func17, Try.ntmps17
      go_wp2
      go_ret
      rw [HP.out]
      exact ⟨_, _, memNew_of 92 w (p * 4096) (by omega) (by omega)⟩
    · have hmk := mk_bytes 1048576 1048576 rfl (by decide)
      have HP : Hid (pgN p = 1048576) := by show pgN p = 1048576; unfold pgN; omega
      go_enter Try.func17, Try.ntmps17
      go_wp2
      go_ret
      rw [HP.out]
      exact ⟨_, _, memNew_of 92 w 1048576 (by omega) (by omega)⟩


end Go.Proofs.Ytiedfglkjkaefaa

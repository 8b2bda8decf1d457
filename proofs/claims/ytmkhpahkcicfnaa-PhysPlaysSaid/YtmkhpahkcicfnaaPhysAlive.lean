/- trunnionlaw4.alive; Load and Store at what is known. -/
import Derived.Test.YtmkhpahkcicfnaaPhysNew
namespace Go.Proofs.Ytmkhpahkcicfnaa
open Go.RowKit

theorem pgN_one : pgN 1 = 4096 := rfl
theorem pgN_two : pgN 2 = 8192 := rfl
theorem pgN_three : pgN 3 = 12288 := rfl

/-- New at a number of pages whose bytes are known. -/
theorem new_at (pages : Int) (n : Nat) (h : pgN pages = n) (w : World) : Calls Try.prog 16 #[.int .i64 pages] w fun e w' => ∃ a b, MemNew 61 w n e w' a b := by
  subst h; exact new_any pages w

/-- Load where what it tells is known. -/
theorem load_at {a b n : Nat} {f : Nat → Int} {w : World} (M : Mem 61 w a b n f) (addr size v : Int) (ok : Bool) (h1 : okB n addr size = ok) (h2 : ldV n f addr size = v) :
    Calls Try.prog 18 #[.pointer (some ⟨a, 0, none⟩), .int .i64 addr, .int .i64 size] w fun e w' => e = .returned (.tuple #[.int .i64 v, .bool ok]) ∧ w = w' := by
  subst h1; subst h2; exact load_any M addr size

/-- Store where what it answers is known. -/
theorem store_at {a b n : Nat} {f : Nat → Int} {w : World} (M : Mem 61 w a b n f) (addr size v : Int) (ok : Bool) (h1 : okB n addr size = ok) :
    Calls Try.prog 17 #[.pointer (some ⟨a, 0, none⟩), .int .i64 addr, .int .i64 size, .int .i64 v] w fun e w' =>
      e = .returned (.bool ok) ∧ Mem 61 w' a b n (stV n f addr size v) ∧ Chg w w' (fun k => k = b) := by
  subst h1; exact store_any M addr size v

set_option maxHeartbeats 400000 in
theorem alive4 (w : World) : Calls Try.prog 15 #[] w fun e w' => e = .returned (.bool true) ∧ Below w.heap.size w w' := by
  go_enter Try.func15, Try.ntmps15
  go_wp2_with fail
  refine (new_at 1 4096 pgN_one _).mono ?_
  rintro e w1 ⟨a, b, rfl, M1, C1, ha, hb⟩
  go_wp2_with fail
  refine (store_at M1 4 4 16909060 true (by decide)).mono ?_
  rintro e w2 ⟨rfl, M2, C2⟩
  go_wp2_with fail
  refine (load_at M2 5 2 0 false (by decide) (by decide)).mono ?_
  rintro e w3 ⟨rfl, rfl⟩
  go_wp2_with fail
  refine (load_at M2 5 1 3 true (by decide) (by decide)).mono ?_
  rintro e w3 ⟨rfl, rfl⟩
  go_wp2_with fail
  refine (size_any M2).mono ?_
  rintro e w3 ⟨rfl, rfl⟩
  go_wp2_with fail
  go_ret
  exact ⟨rfl, (C1.below_of (Nat.le_refl _) (fun _ h => h.elim)).trans (C2.below_of C1.size (fun k h => by omega))⟩

end Go.Proofs.Ytmkhpahkcicfnaa

/- trunnionlaw4.alive; Load and Store at what is known. -/
import Derived.Test.YtadcmelbcahecaaPhysNew
namespace Go.Proofs.Ytadcmelbcahecaa
open Go.RowKit

theorem pgN_one : pgN 1 = 4096 := rfl
theorem pgN_two : pgN 2 = 8192 := rfl
theorem pgN_three : pgN 3 = 12288 := rfl

/-- New at a number of pages whose bytes are known. -/
theorem new_at (pages : Int) (n : Nat) (h : pgN pages = n) (w : World) : Calls Try.prog 23 #[.int .i64 pages] w fun e w' => ∃ a b, MemNew 74 w n e w' a b := by
  subst h; exact new_any pages w

/-- Load where what it tells is known. -/
theorem load_at {a b n : Nat} {f : Nat → Int} {w : World} (M : Mem 74 w a b n f) (addr size v : Int) (ok : Bool) (h1 : okB n addr size = ok) (h2 : ldV n f addr size = v) :
    Calls Try.prog 79 #[.pointer (some ⟨a, 0, none⟩), .int .i64 addr, .int .i64 size] w fun e w' => e = .returned (.tuple #[.int .i64 v, .bool ok]) ∧ w = w' := by
  subst h1; subst h2; exact load_any M addr size

/-- Store where what it answers is known. -/
theorem store_at {a b n : Nat} {f : Nat → Int} {w : World} (M : Mem 74 w a b n f) (addr size v : Int) (ok : Bool) (h1 : okB n addr size = ok) :
    Calls Try.prog 25 #[.pointer (some ⟨a, 0, none⟩), .int .i64 addr, .int .i64 size, .int .i64 v] w fun e w' =>
      e = .returned (.bool ok) ∧ Mem 74 w' a b n (stV n f addr size v) ∧ Chg w w' (fun k => k = b) := by
  subst h1; exact store_any M addr size v


end Go.Proofs.Ytadcmelbcahecaa

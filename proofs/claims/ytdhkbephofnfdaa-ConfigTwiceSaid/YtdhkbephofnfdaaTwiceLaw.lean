/- ConfigTwice: what Check says of the three configurations (plain). -/
import Derived.Test.YtdhkbephofnfdaaWrong0
namespace Go.Proofs.Ytdhkbephofnfdaa
open Go.RowKit

def abcs : ByteArray := { data := #[97, 98, 99, 100, 101, 102] }
def twName (k : Nat) : ByteArray := abcs.extract k (k + 1)
def twP (k : Nat) : List PartD := (List.range k).map (fun i => ⟨twName i, 2, 0⟩)
def twW (k : Nat) : List WinD := (List.range k).map (fun i : Nat => ⟨10 * (i : Int), 10, i⟩)
def twC : Cfg := ⟨40, 100, 0, twP 6, [], twW 6⟩
def twD (i j : Nat) : Cfg := ⟨40, 100, 0, (twP 6).set i ⟨twName j, 2, 0⟩, [], twW 6⟩
def twE (i : Nat) (lap : Int) : Cfg := ⟨40, 100, 0, twP 6, [], (twW 6).set i (if i = 0 then ⟨0, 10 + lap, 0⟩ else ⟨10 * (i : Int) - lap, 10, i⟩)⟩

theorem tw_c : chk twC = 0 := by decide +kernel
theorem tw_d : ∀ i, i < 6 → ∀ j, j < 6 → (chk (twD i j) == 0) = decide (i = j) := by decide +kernel
theorem tw_e : ∀ i, i < 6 → ∀ l : Nat, l < 10 → (chk (twE i l) == 0) = decide (l = 0) := by decide +kernel

theorem twP_succ (k : Nat) : (twP (k + 1)).flatMap partCells = (twP k).flatMap partCells ++ [.string (twName k), .int .i64 2, .int .i64 0] := by
  unfold twP; rw [List.range_succ, List.map_append, List.flatMap_append]; rfl
theorem twW_succ (k : Nat) : (twW (k + 1)).flatMap winCells = (twW k).flatMap winCells ++ [.int .i64 (10 * (k : Int)), .int .i64 10, .int .i64 k] := by
  unfold twW; rw [List.range_succ, List.map_append, List.flatMap_append]; rfl
theorem twP_length (k : Nat) : (twP k).length = k := by simp [twP]
theorem twW_length (k : Nat) : (twW k).length = k := by simp [twW]

/-- Cells of a list in which one element is another one. -/
theorem flat_set {α : Type} (f : α → List Value) (n : Nat) (hf : ∀ x, (f x).length = n) : ∀ (l : List α) (i : Nat) (x : α), i < l.length → (l.set i x).flatMap f = (l.flatMap f).take (i * n) ++ f x ++ (l.flatMap f).drop (i * n + n)
  | [], i, x, h => by simp at h
  | y :: l, 0, x, h => by
    rw [List.set_cons_zero, List.flatMap_cons, List.flatMap_cons, Nat.zero_mul, List.take_zero, Nat.zero_add, List.drop_left' (hf y)]
    rfl
  | y :: l, i + 1, x, h => by
    rw [List.set_cons_succ, List.flatMap_cons, List.flatMap_cons, flat_set f n hf l i x (by simpa using h)]
    have e1 : (i + 1) * n = (f y).length + i * n := by rw [hf, Nat.succ_mul]; omega
    rw [e1, List.take_length_add_append, show (f y).length + i * n + n = (f y).length + (i * n + n) by omega, List.drop_length_add_append]
    simp
end Go.Proofs.Ytdhkbephofnfdaa

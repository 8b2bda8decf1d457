/- shadow: the iterator's maker, what it owes, BinarySearch. -/
import Derived.Test.YtadcmelbcahecaaShB
import Derived.Test.YtadcmelbcahecaaShLay
namespace Go.Proofs.Ytadcmelbcahecaa
open Go.RowKit Go.Shelf

set_option maxHeartbeats 1000000 in
theorem mapped_in (F : Fence) (n : Nat) (hf : F.fn 29) (hro : F.round = none) (a : Nat) (y z lo hi : Int) (w : World) :
    CallsIn F n Try.prog 29 #[.agg #[.iface 24 (.pointer (some ⟨a, 0, none⟩)), .int .i64 y, .int .i64 z], .int .i64 lo, .int .i64 hi] w fun e w' =>
      e = .returned (.func (.func 39) #[] #[.pointer (some ⟨w.heap.size + 1, 0, none⟩), .pointer (some ⟨w.heap.size + 2, 0, none⟩), .pointer (some ⟨w.heap.size, 0, none⟩)]) ∧
      w' = ((w.alloc (.cells #[.iface 24 (.pointer (some ⟨a, 0, none⟩)), .int .i64 y, .int .i64 z] 60)).alloc (.cells #[.int .i64 lo] 3)).alloc (.cells #[.int .i64 hi] 3) := by
  refine callsIn_of_wp Try.func29 rfl hf ?_ hro
  simp only [Try.ntmps29, List.size_toArray, List.length_cons, List.length_nil, Nat.reduceAdd, Nat.reduceSub, Array.replicate_succ, Array.replicate_zero, List.push_toArray, List.append_toArray, List.nil_append, List.cons_append]
  gi_wp2
  go_ret
  exact ⟨rfl, rfl⟩

theorem KO.below {n ob : Nat} {A B : World} (h : Below n A B) : KO n ob A B := ⟨h.size, fun k hk _ => h.block k hk⟩

theorem mapped_stops (F : Fence) (n : Nat) (hf : F.fn 39) (hfm : F.fn 40) (hro : F.round = none) (hn : 1 ≤ n) (n₀ ob bf be bg a b nn : Nat) (f : Nat → Int) (lo ptbr pages : Int) (c : Nat) (h0 : 0 ≤ lo) (h1 : lo + c ≤ 1048576)
    (hI : ShIn n₀ ob bf be bg a b)
    (hMap : ∀ v wx, Mem 74 wx a b nn f → CallsIn F (n - 1) Try.prog 40 #[.iface 24 (.pointer (some ⟨a, 0, none⟩)), .int .i64 ptbr, .int .i64 v] wx fun e w' => e = .returned (.tuple #[.int .i64 (mapV nn f ptbr v).1, .bool (mapV nn f ptbr v).2]) ∧ wx = w')
    (w : World) (hn₀ : n₀ ≤ w.heap.size) (hE : ShAt w bf be bg a b nn f lo (lo + c) ptbr pages) :
    SeqStopsK F n Try.prog 39 #[.pointer (some ⟨bf, 0, none⟩), .pointer (some ⟨be, 0, none⟩), .pointer (some ⟨bg, 0, none⟩)] (fun x : Int × Int => #[.int .i64 x.1, .int .i64 x.2]) (KO n₀ ob) (fun ys => ys = mpL (mvE nn f ptbr) pages lo c) (fun pre => pre <+: mpL (mvE nn f ptbr) pages lo c) (mpL (mvE nn f ptbr) pages lo c).length w := fun l J Jx W hW _ _ hY h00 =>
  mapped1_in F n hf hfm hro hn l n₀ ob bf be bg a b nn f lo ptbr pages c h0 h1 J Jx hI hMap hY W (hE.keep hI (KO.below (hW.mono hn₀))) h00

def icell (x : Int) : List Value := [.int .i64 x]

theorem search_any (T : List Int) (hs : T.Pairwise (· ≤ ·)) (hn : T.length < 4611686018427387904) {ao : Option Addr} {cap : Nat} (x : Int) (w : World) (hl : Lst w ao T.length cap (T.flatMap icell) 1) :
    Calls Try.prog 30 #[.slice ao T.length cap, .int .i64 x] w fun e w' => (∃ i : Nat, e = .returned (.tuple #[.int .i64 (i : Int), .bool (T.contains x)])) ∧ ∃ q, w' = w.drewN q := by
  by_cases h : T.length = 0
  · obtain rfl : T = [] := List.eq_nil_of_length_eq_zero h
    have hcon := Any.slices_BinarySearch_int_empty Try.laySearch ao cap x w
    change Calls Try.prog 30 _ _ _ at hcon
    refine hcon.mono ?_
    rintro e w' ⟨rfl, rfl⟩
    exact ⟨⟨0, rfl⟩, 0, rfl⟩
  · obtain ⟨g, o, rfl⟩ := hl.pos (by omega)
    have hcon := Any.slices_BinarySearch_int Try.laySearch g o T.length cap T x w (Nat.le_refl _) hn (fun j hj => by
      have h1 := Lst.cell0 (n := 1) (l := T) (f := icell) (fun _ => rfl) hl j (by decide) hj rfl
      rw [Nat.mul_one] at h1
      rw [h1, List.getD_eq_getElem?_getD, List.getElem?_eq_getElem hj]
      rfl) (by rw [List.take_length]; exact hs)
    change Calls Try.prog 30 _ _ _ at hcon
    rw [List.take_length] at hcon
    refine hcon.mono ?_
    rintro e w' ⟨rfl, q, rfl⟩
    exact ⟨⟨_, rfl⟩, q, rfl⟩
end Go.Proofs.Ytadcmelbcahecaa

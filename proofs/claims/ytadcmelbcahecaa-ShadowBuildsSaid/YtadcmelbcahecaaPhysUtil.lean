/- Plain laws of loads, stores and bytes. -/
import Derived.Test.YtadcmelbcahecaaPhysAlive
import Derived.Test.YtadcmelbcahecaaBytes
namespace Go.Proofs.Ytadcmelbcahecaa
open Go.RowKit

theorem ldV_yes {n : Nat} {f : Nat → Int} {p s : Nat} (h : okB n p s = true) : ldV n f p s = leN f p s := by
  unfold ldV; rw [if_pos h]; rfl

theorem okB_of {n : Nat} {addr size : Int} (h1 : size = 1 ∨ size = 2 ∨ size = 4) (h2 : 0 ≤ addr) (h3 : addr % size = 0) (h4 : addr + size ≤ n) : okB n addr size = true := decide_eq_true ⟨h1, h2, h3, h4⟩

theorem stN_at (f : Nat → Int) (p m i : Nat) (v : Int) (h : i < m) : stN f p m v (p + i) = byteN v i := by
  unfold stN; rw [if_pos (by omega), Nat.add_sub_cancel_left]

theorem byteN_all (v : Int) : byteN v 0 + 256 * (byteN v 1 + 256 * (byteN v 2 + 256 * (byteN v 3 + 256 * 0))) = v % 4294967296 := by
  unfold byteN
  simp only [Nat.mul_zero, Nat.mul_one, Nat.reduceMul, Int.reducePow]
  omega

theorem le4_at (f : Nat → Int) (p : Nat) (v : Int) : leN (stN f p 4 v) p 4 = v % 4294967296 := by
  rw [← byteN_all v]
  simp only [leN]
  rw [show stN f p 4 v p = byteN v 0 from stN_at f p 4 0 v (by decide), show stN f p 4 v (p + 1) = byteN v 1 from stN_at f p 4 1 v (by decide),
    show stN f p 4 v (p + 1 + 1) = byteN v 2 from stN_at f p 4 2 v (by decide), show stN f p 4 v (p + 1 + 1 + 1) = byteN v 3 from stN_at f p 4 3 v (by decide)]
theorem le2_at (f : Nat → Int) (p : Nat) (v : Int) : leN (stN f p 4 v) p 2 = v % 65536 := by
  simp only [leN]
  rw [show stN f p 4 v p = byteN v 0 from stN_at f p 4 0 v (by decide), show stN f p 4 v (p + 1) = byteN v 1 from stN_at f p 4 1 v (by decide)]
  unfold byteN
  simp only [Nat.mul_zero, Nat.mul_one, Int.reducePow]
  omega
theorem le2_at2 (f : Nat → Int) (p : Nat) (v : Int) : leN (stN f p 4 v) (p + 2) 2 = v / 65536 % 65536 := by
  simp only [leN]
  rw [show stN f p 4 v (p + 2) = byteN v 2 from stN_at f p 4 2 v (by decide), show stN f p 4 v (p + 2 + 1) = byteN v 3 from stN_at f p 4 3 v (by decide)]
  unfold byteN
  simp only [Nat.reduceMul, Int.reducePow]
  omega

theorem or_half (x y : Int) (h0 : 0 ≤ x) (h1 : x < 65536) (h2 : 0 ≤ y) (h3 : y < 65536) : bits .or .i64 x (y * 65536) = x + y * 65536 := by
  have hb := (bits_nat .i64 62 (by decide) (fun n _ _ => by rw [IntKind.wrap_i64]; omega) x.toNat (y * 65536).toNat (by omega) (by omega)).2
  have hb2 := (bits_nat .i64 62 (by decide) (fun n _ _ => by rw [IntKind.wrap_i64]; omega) (y * 65536).toNat x.toNat (by omega) (by omega)).2
  rw [Int.toNat_of_nonneg h0, Int.toNat_of_nonneg (by omega)] at hb hb2
  rw [hb, Nat.or_comm, ← hb2, bits_join .i64 62 (by decide) (fun n _ _ => by rw [IntKind.wrap_i64]; omega) 16 (y * 65536) x (by omega) (by omega) (by omega) h0 h1 (by omega)]
  omega

theorem ldV_one {n : Nat} {f : Nat → Int} {p : Nat} (h : p < n) : ldV n f p 1 = f p := by
  unfold ldV
  rw [if_pos (okB_of (by omega) (by omega) (by omega) (by omega))]
  show f ((p : Int).toNat) + 256 * 0 = f p
  simp

theorem stV_yes {n : Nat} {f : Nat → Int} {p s : Nat} {v : Int} (h : okB n p s = true) : stV n f p s v = stN f p s v := by
  unfold stV; rw [if_pos h]; rfl

theorem okB_not {n : Nat} {addr size : Int} (h : addr < 0 ∨ (n : Int) < addr + size) : okB n addr size = false := decide_eq_false (by omega)

theorem le1_in (f : Nat → Int) (p : Nat) (v : Int) : leN (stN f p 1 v) p 1 = v % 256 := by
  simp only [leN]
  rw [show stN f p 1 v p = byteN v 0 from stN_at f p 1 0 v (by decide)]
  unfold byteN
  simp only [Nat.mul_zero, Int.reducePow]
  omega
theorem le2_in (f : Nat → Int) (p : Nat) (v : Int) : leN (stN f p 2 v) p 2 = v % 65536 := by
  simp only [leN]
  rw [show stN f p 2 v p = byteN v 0 from stN_at f p 2 0 v (by decide), show stN f p 2 v (p + 1) = byteN v 1 from stN_at f p 2 1 v (by decide)]
  unfold byteN
  simp only [Nat.mul_zero, Nat.mul_one, Int.reducePow]
  omega

theorem src_new (w : World) (xs : List Int) (m : Nat) (h : xs.length = m) : Src (w.alloc (.cells (u8s xs).toArray 5)) (some ⟨w.heap.size, 0, none⟩) m m (u8s xs) 1 := by
  refine ⟨by simp [u8s, h], fun h => (by cases h), fun ad he j u hu => ?_⟩
  injection he with he
  subst he
  rw [Addr.add_lit, Nat.zero_add, World.cell?_alloc_mark]
  rw [List.getElem?_toArray]
  exact hu

end Go.Proofs.Ytadcmelbcahecaa

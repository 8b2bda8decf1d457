/- PhysEdges: the last number of a memory is there, and none behind it. For every number of pages and every size. -/
import Derived.Test.YtmkhpahkcicfnaaPhysApart
import Derived.Test.YtmkhpahkcicfnaaPhysPut
namespace Go.Proofs.Ytmkhpahkcicfnaa
open Go.ChangeShapes Go.WideShapes Go.ChangeAt Go.RowKit

theorem okB_not {n : Nat} {addr size : Int} (h : addr < 0 ∨ (n : Int) < addr + size) : okB n addr size = false := decide_eq_false (by omega)

theorem le1_in (f : Nat → Int) (p : Nat) (v : Int) : leN (stN f p 1 v) p 1 = v % 256 := by
  simp only [leN]
  rw [show stN f p 1 v p = byteN v 0 from stN_at f p 1 0 v (by decide)]
  unfold byteN
  simp only [Nat.mul_zero, Int.reducePow]
  omega
theorem le2_in (f : Nat → Int) (p : Nat) (v : Int) : leN (stN f p 2 v) p 2 = v % 65536 := by
  simp only [leN]
  rw [show stN f p 2 v p = byteN v 0 from stN_at f p 2 0 v (by decide), show stN f p 2 v (p + 1) = byteN v 1 from stN_at f p 2 1 v (by decide)]
  unfold byteN
  simp only [Nat.mul_zero, Nat.mul_one, Int.reducePow]
  omega

theorem src_new (w : World) (xs : List Int) (m : Nat) (h : xs.length = m) : Src (w.alloc (.cells (u8s xs).toArray 5)) (some ⟨w.heap.size, 0, none⟩) m m (u8s xs) 1 := by
  refine ⟨by simp [u8s, h], fun h => (by cases h), fun ad he j u hu => ?_⟩
  injection he with he
  subst he
  rw [Addr.add_lit, Nat.zero_add, World.cell?_alloc_mark]
  rw [List.getElem?_toArray]
  exact hu

set_option maxRecDepth 100000 in
set_option maxHeartbeats 1000000 in
theorem physEdges_many (pages size : Int) (w : World) (h1 : 256 < pages) (h2 : pages ≤ 300) (h3 : size = 1 ∨ size = 2 ∨ size = 4) :
    Calls Try.prog 6 #[.int .i64 pages, .int .i64 size] w fun e w' => e = .returned (.bool true) ∧ Below w.heap.size w w' := by
  have hp : pgN pages = 1048576 := by unfold pgN; omega
  have HN := fun w => new_at pages 1048576 hp w
  clear hp
  rcases h3 with rfl | rfl | rfl
  all_goals
    go_enter Try.func6, Try.ntmps6
    go_wp2_with fail
    refine (alive4 _).mono ?_
    rintro e w1 ⟨rfl, B1⟩
    go_wp2_with fail
    refine (HN _).mono ?_
    rintro e w2 ⟨a, b, rfl, M2, C2, ha, hb⟩
    have B2 : Below w.heap.size w w2 := B1.trans (C2.below_of B1.size (fun _ h => h.elim))
    go_wp2_with (go_at_call 21; refine (size_any M2).mono ?_; rintro e w3 ⟨rfl, rfl⟩)
    go_ret
    exact ⟨rfl, B2⟩

set_option maxRecDepth 100000 in
set_option maxHeartbeats 1000000 in
theorem physEdges_near1 (P : Nat) (w : World) (h1 : 1 ≤ P) (h2 : P ≤ 256) :
    Calls Try.prog 6 #[.int .i64 P, .int .i64 1] w fun e w' => e = .returned (.bool true) ∧ Below w.heap.size w w' := by
  have hp : pgN (P : Int) = P * 4096 := by unfold pgN; omega
  have HN := fun w => new_at P (P * 4096) hp w
  clear hp
  have d1 : decide (300 < (P : Int)) = false := decide_eq_false (by omega)
  have d2 : decide (256 < (P : Int)) = false := decide_eq_false (by omega)
  have d3 : decide ((P : Int) < 1) = false := decide_eq_false (by omega)
  have HO1 : Hid (okB (P * 4096) ((P : Int) * 4096 - 1) 1 = true) := okB_of (by omega) (by omega) (by omega) (by omega)
  have HO2 : Hid (okB (P * 4096) ((P : Int) * 4096) 1 = false) := okB_not (by omega)
  have HO3 : Hid (okB (P * 4096) (-1) 1 = false) := okB_not (by omega)
  have HL : Hid (∀ f, ldV (P * 4096) (stV (P * 4096) f ((P : Int) * 4096 - 1) 1 7) ((P : Int) * 4096 - 1) 1 = 7) := by
    intro f
    unfold ldV stV
    rw [if_pos HO1.out, if_pos HO1.out]
    exact le1_in f _ 7
  have HR1 : Hid (okR (P * 4096) ((P : Int) * 4096) 0 = true) := decide_eq_true (by omega)
  have HR2 : Hid (okR (P * 4096) ((P : Int) * 4096 - 1) (2 : Nat) = false) := decide_eq_false (by omega)
  have HR3 : Hid (okR (P * 4096) ((P : Int) * 4096 - 1) (1 : Nat) = true) := decide_eq_true (by omega)
  go_enter Try.func6, Try.ntmps6
  go_wp2_with fail
  refine (alive4 _).mono ?_
  rintro e w1 ⟨rfl, B1⟩
  go_wp2_with fail
  refine (HN _).mono ?_
  rintro e w2 ⟨a, b, rfl, M2, C2, ha, hb⟩
  have hz1 := B1.size
  have B2 : Below w.heap.size w w2 := B1.trans (C2.below_of B1.size (fun _ h => h.elim))
  clear C2 B1
  go_wp2_with fail
  refine (store_at M2 ((P : Int) * 4096 - 1) 1 7 true HO1.out).mono ?_
  rintro e w3 ⟨rfl, M3, C3⟩
  have B3 : Below w.heap.size w w3 := below_chg B2 C3 B2.size (fun k h => by omega)
  have HL3 := HL.out (fun _ => 0)
  generalize (stV (P * 4096) (fun _ => 0) ((P : Int) * 4096 - 1) 1 7) = f3 at M3 HL3
  have HL3 := Lib.hid HL3
  clear B2 C3 M2
  go_wp2_with fail
  refine (load_at M3 _ _ 7 true HO1.out HL3.out).mono ?_
  rintro e w4 ⟨rfl, rfl⟩
  go_wp2_with fail
  refine (store_at M3 _ _ _ false HO2.out).mono ?_
  rintro e w4 ⟨rfl, M4, C4⟩
  have B4 : Below w.heap.size w w4 := below_chg B3 C4 B3.size (fun k h => by omega)
  clear B3 C4 M3 HL3
  generalize stV (P * 4096) f3 ((P : Int) * 4096) 1 7 = f4 at M4
  go_wp2_with fail
  refine (load_at M4 _ _ (ldV (P * 4096) f4 ((P : Int) * 4096) 1) false HO2.out rfl).mono ?_
  rintro e w5 ⟨rfl, rfl⟩
  go_wp2_with fail
  refine (load_at M4 _ _ (ldV (P * 4096) f4 (-1) 1) false HO3.out rfl).mono ?_
  rintro e w5 ⟨rfl, rfl⟩
  go_wp2_with fail
  refine (size_any M4).mono ?_
  rintro e w5 ⟨rfl, rfl⟩
  have hcast : (((P * 4096 : Nat) : Int)) = (P : Int) * 4096 := by omega
  rw [hcast]
  clear hcast
  go_wp2_with fail
  have G := get_any M4 ((P : Int) * 4096) 0
  have hgn : getN (P * 4096) ((P : Int) * 4096) 0 = 0 := by unfold getN; rw [HR1.out]; rfl
  rw [hgn] at G
  clear hgn
  refine G.mono ?_
  rintro e w5 ⟨ao, cap, rfl, ho, C5⟩
  clear G
  have M5 := M4.chg C5 (fun h => h) (fun h => h)
  have B5 : Below w.heap.size w w5 := below_chg B4 C5 B4.size (fun k h => h.elim)
  clear B4 C5 M4 ho
  go_wp2_with fail
  have M6 := M5.chg ((Chg.refl w5 (fun _ => False)).alloc (.cells (u8s [1, 2]).toArray 5)) (fun h => h) (fun h => h)
  have B6 := B5.alloc B5.size (.cells (u8s [1, 2]).toArray 5)
  refine (put_any M6 ((P : Int) * 4096 - 1) 2 2 _ [1, 2] (src_new w5 [1, 2] 2 rfl) (by simp)).mono ?_
  rintro e w7 ⟨he, M7, C7⟩
  have B7 : Below w.heap.size w w7 := below_chg B6 C7 B6.size (fun k h => by omega)
  rw [HR2.out] at he
  subst he
  clear M6 B6 C7 M5 B5
  go_wp2_with fail
  have M8 := M7.chg ((Chg.refl w7 (fun _ => False)).alloc (.cells (u8s [1]).toArray 5)) (fun h => h) (fun h => h)
  have B8 := B7.alloc B7.size (.cells (u8s [1]).toArray 5)
  refine (put_any M8 ((P : Int) * 4096 - 1) 1 1 _ [1] (src_new w7 [1] 1 rfl) (by simp)).mono ?_
  rintro e w9 ⟨he, M9, C9⟩
  have B9 : Below w.heap.size w w9 := below_chg B8 C9 B8.size (fun k h => by omega)
  rw [HR3.out] at he
  subst he
  clear M8 B8 C9 M7 B7
  go_wp2_with fail
  go_ret
  exact ⟨rfl, B9⟩

set_option maxRecDepth 100000 in
set_option maxHeartbeats 1000000 in
theorem physEdges_near2 (P : Nat) (w : World) (h1 : 1 ≤ P) (h2 : P ≤ 256) :
    Calls Try.prog 6 #[.int .i64 P, .int .i64 2] w fun e w' => e = .returned (.bool true) ∧ Below w.heap.size w w' := by
  have hp : pgN (P : Int) = P * 4096 := by unfold pgN; omega
  have HN := fun w => new_at P (P * 4096) hp w
  clear hp
  have d1 : decide (300 < (P : Int)) = false := decide_eq_false (by omega)
  have d2 : decide (256 < (P : Int)) = false := decide_eq_false (by omega)
  have d3 : decide ((P : Int) < 1) = false := decide_eq_false (by omega)
  have HO1 : Hid (okB (P * 4096) ((P : Int) * 4096 - 2) 2 = true) := okB_of (by omega) (by omega) (by omega) (by omega)
  have HO2 : Hid (okB (P * 4096) ((P : Int) * 4096) 2 = false) := okB_not (by omega)
  have HO3 : Hid (okB (P * 4096) (-2) 2 = false) := okB_not (by omega)
  have HL : Hid (∀ f, ldV (P * 4096) (stV (P * 4096) f ((P : Int) * 4096 - 2) 2 7) ((P : Int) * 4096 - 2) 2 = 7) := by
    intro f
    unfold ldV stV
    rw [if_pos HO1.out, if_pos HO1.out]
    exact le2_in f _ 7
  have HR1 : Hid (okR (P * 4096) ((P : Int) * 4096) 0 = true) := decide_eq_true (by omega)
  have HR2 : Hid (okR (P * 4096) ((P : Int) * 4096 - 1) (2 : Nat) = false) := decide_eq_false (by omega)
  have HR3 : Hid (okR (P * 4096) ((P : Int) * 4096 - 1) (1 : Nat) = true) := decide_eq_true (by omega)
  go_enter Try.func6, Try.ntmps6
  go_wp2_with fail
  refine (alive4 _).mono ?_
  rintro e w1 ⟨rfl, B1⟩
  go_wp2_with fail
  refine (HN _).mono ?_
  rintro e w2 ⟨a, b, rfl, M2, C2, ha, hb⟩
  have hz1 := B1.size
  have B2 : Below w.heap.size w w2 := B1.trans (C2.below_of B1.size (fun _ h => h.elim))
  clear C2 B1
  go_wp2_with fail
  refine (store_at M2 ((P : Int) * 4096 - 2) 2 7 true HO1.out).mono ?_
  rintro e w3 ⟨rfl, M3, C3⟩
  have B3 : Below w.heap.size w w3 := below_chg B2 C3 B2.size (fun k h => by omega)
  have HL3 := HL.out (fun _ => 0)
  generalize (stV (P * 4096) (fun _ => 0) ((P : Int) * 4096 - 2) 2 7) = f3 at M3 HL3
  have HL3 := Lib.hid HL3
  clear B2 C3 M2
  go_wp2_with fail
  refine (load_at M3 _ _ 7 true HO1.out HL3.out).mono ?_
  rintro e w4 ⟨rfl, rfl⟩
  go_wp2_with fail
  refine (store_at M3 _ _ _ false HO2.out).mono ?_
  rintro e w4 ⟨rfl, M4, C4⟩
  have B4 : Below w.heap.size w w4 := below_chg B3 C4 B3.size (fun k h => by omega)
  clear B3 C4 M3 HL3
  generalize stV (P * 4096) f3 ((P : Int) * 4096) 2 7 = f4 at M4
  go_wp2_with fail
  refine (load_at M4 _ _ (ldV (P * 4096) f4 ((P : Int) * 4096) 2) false HO2.out rfl).mono ?_
  rintro e w5 ⟨rfl, rfl⟩
  go_wp2_with fail
  refine (load_at M4 _ _ (ldV (P * 4096) f4 (-2) 2) false HO3.out rfl).mono ?_
  rintro e w5 ⟨rfl, rfl⟩
  go_wp2_with fail
  refine (size_any M4).mono ?_
  rintro e w5 ⟨rfl, rfl⟩
  have hcast : (((P * 4096 : Nat) : Int)) = (P : Int) * 4096 := by omega
  rw [hcast]
  clear hcast
  go_wp2_with fail
  have G := get_any M4 ((P : Int) * 4096) 0
  have hgn : getN (P * 4096) ((P : Int) * 4096) 0 = 0 := by unfold getN; rw [HR1.out]; rfl
  rw [hgn] at G
  clear hgn
  refine G.mono ?_
  rintro e w5 ⟨ao, cap, rfl, ho, C5⟩
  clear G
  have M5 := M4.chg C5 (fun h => h) (fun h => h)
  have B5 : Below w.heap.size w w5 := below_chg B4 C5 B4.size (fun k h => h.elim)
  clear B4 C5 M4 ho
  go_wp2_with fail
  have M6 := M5.chg ((Chg.refl w5 (fun _ => False)).alloc (.cells (u8s [1, 2]).toArray 5)) (fun h => h) (fun h => h)
  have B6 := B5.alloc B5.size (.cells (u8s [1, 2]).toArray 5)
  refine (put_any M6 ((P : Int) * 4096 - 1) 2 2 _ [1, 2] (src_new w5 [1, 2] 2 rfl) (by simp)).mono ?_
  rintro e w7 ⟨he, M7, C7⟩
  have B7 : Below w.heap.size w w7 := below_chg B6 C7 B6.size (fun k h => by omega)
  rw [HR2.out] at he
  subst he
  clear M6 B6 C7 M5 B5
  go_wp2_with fail
  have M8 := M7.chg ((Chg.refl w7 (fun _ => False)).alloc (.cells (u8s [1]).toArray 5)) (fun h => h) (fun h => h)
  have B8 := B7.alloc B7.size (.cells (u8s [1]).toArray 5)
  refine (put_any M8 ((P : Int) * 4096 - 1) 1 1 _ [1] (src_new w7 [1] 1 rfl) (by simp)).mono ?_
  rintro e w9 ⟨he, M9, C9⟩
  have B9 : Below w.heap.size w w9 := below_chg B8 C9 B8.size (fun k h => by omega)
  rw [HR3.out] at he
  subst he
  clear M8 B8 C9 M7 B7
  go_wp2_with fail
  go_ret
  exact ⟨rfl, B9⟩

set_option maxRecDepth 100000 in
set_option maxHeartbeats 1000000 in
theorem physEdges_near4 (P : Nat) (w : World) (h1 : 1 ≤ P) (h2 : P ≤ 256) :
    Calls Try.prog 6 #[.int .i64 P, .int .i64 4] w fun e w' => e = .returned (.bool true) ∧ Below w.heap.size w w' := by
  have hp : pgN (P : Int) = P * 4096 := by unfold pgN; omega
  have HN := fun w => new_at P (P * 4096) hp w
  clear hp
  have d1 : decide (300 < (P : Int)) = false := decide_eq_false (by omega)
  have d2 : decide (256 < (P : Int)) = false := decide_eq_false (by omega)
  have d3 : decide ((P : Int) < 1) = false := decide_eq_false (by omega)
  have HO1 : Hid (okB (P * 4096) ((P : Int) * 4096 - 4) 4 = true) := okB_of (by omega) (by omega) (by omega) (by omega)
  have HO2 : Hid (okB (P * 4096) ((P : Int) * 4096) 4 = false) := okB_not (by omega)
  have HO3 : Hid (okB (P * 4096) (-4) 4 = false) := okB_not (by omega)
  have HL : Hid (∀ f, ldV (P * 4096) (stV (P * 4096) f ((P : Int) * 4096 - 4) 4 7) ((P : Int) * 4096 - 4) 4 = 7) := by
    intro f
    unfold ldV stV
    rw [if_pos HO1.out, if_pos HO1.out]
    exact le4_at f _ 7
  have HR1 : Hid (okR (P * 4096) ((P : Int) * 4096) 0 = true) := decide_eq_true (by omega)
  have HR2 : Hid (okR (P * 4096) ((P : Int) * 4096 - 1) (2 : Nat) = false) := decide_eq_false (by omega)
  have HR3 : Hid (okR (P * 4096) ((P : Int) * 4096 - 1) (1 : Nat) = true) := decide_eq_true (by omega)
  go_enter Try.func6, Try.ntmps6
  go_wp2_with fail
  refine (alive4 _).mono ?_
  rintro e w1 ⟨rfl, B1⟩
  go_wp2_with fail
  refine (HN _).mono ?_
  rintro e w2 ⟨a, b, rfl, M2, C2, ha, hb⟩
  have hz1 := B1.size
  have B2 : Below w.heap.size w w2 := B1.trans (C2.below_of B1.size (fun _ h => h.elim))
  clear C2 B1
  go_wp2_with fail
  refine (store_at M2 ((P : Int) * 4096 - 4) 4 7 true HO1.out).mono ?_
  rintro e w3 ⟨rfl, M3, C3⟩
  have B3 : Below w.heap.size w w3 := below_chg B2 C3 B2.size (fun k h => by omega)
  have HL3 := HL.out (fun _ => 0)
  generalize (stV (P * 4096) (fun _ => 0) ((P : Int) * 4096 - 4) 4 7) = f3 at M3 HL3
  have HL3 := Lib.hid HL3
  clear B2 C3 M2
  go_wp2_with fail
  refine (load_at M3 _ _ 7 true HO1.out HL3.out).mono ?_
  rintro e w4 ⟨rfl, rfl⟩
  go_wp2_with fail
  refine (store_at M3 _ _ _ false HO2.out).mono ?_
  rintro e w4 ⟨rfl, M4, C4⟩
  have B4 : Below w.heap.size w w4 := below_chg B3 C4 B3.size (fun k h => by omega)
  clear B3 C4 M3 HL3
  generalize stV (P * 4096) f3 ((P : Int) * 4096) 4 7 = f4 at M4
  go_wp2_with fail
  refine (load_at M4 _ _ (ldV (P * 4096) f4 ((P : Int) * 4096) 4) false HO2.out rfl).mono ?_
  rintro e w5 ⟨rfl, rfl⟩
  go_wp2_with fail
  refine (load_at M4 _ _ (ldV (P * 4096) f4 (-4) 4) false HO3.out rfl).mono ?_
  rintro e w5 ⟨rfl, rfl⟩
  go_wp2_with fail
  refine (size_any M4).mono ?_
  rintro e w5 ⟨rfl, rfl⟩
  have hcast : (((P * 4096 : Nat) : Int)) = (P : Int) * 4096 := by omega
  rw [hcast]
  clear hcast
  go_wp2_with fail
  have G := get_any M4 ((P : Int) * 4096) 0
  have hgn : getN (P * 4096) ((P : Int) * 4096) 0 = 0 := by unfold getN; rw [HR1.out]; rfl
  rw [hgn] at G
  clear hgn
  refine G.mono ?_
  rintro e w5 ⟨ao, cap, rfl, ho, C5⟩
  clear G
  have M5 := M4.chg C5 (fun h => h) (fun h => h)
  have B5 : Below w.heap.size w w5 := below_chg B4 C5 B4.size (fun k h => h.elim)
  clear B4 C5 M4 ho
  go_wp2_with fail
  have M6 := M5.chg ((Chg.refl w5 (fun _ => False)).alloc (.cells (u8s [1, 2]).toArray 5)) (fun h => h) (fun h => h)
  have B6 := B5.alloc B5.size (.cells (u8s [1, 2]).toArray 5)
  refine (put_any M6 ((P : Int) * 4096 - 1) 2 2 _ [1, 2] (src_new w5 [1, 2] 2 rfl) (by simp)).mono ?_
  rintro e w7 ⟨he, M7, C7⟩
  have B7 : Below w.heap.size w w7 := below_chg B6 C7 B6.size (fun k h => by omega)
  rw [HR2.out] at he
  subst he
  clear M6 B6 C7 M5 B5
  go_wp2_with fail
  have M8 := M7.chg ((Chg.refl w7 (fun _ => False)).alloc (.cells (u8s [1]).toArray 5)) (fun h => h) (fun h => h)
  have B8 := B7.alloc B7.size (.cells (u8s [1]).toArray 5)
  refine (put_any M8 ((P : Int) * 4096 - 1) 1 1 _ [1] (src_new w7 [1] 1 rfl) (by simp)).mono ?_
  rintro e w9 ⟨he, M9, C9⟩
  have B9 : Below w.heap.size w w9 := below_chg B8 C9 B8.size (fun k h => by omega)
  rw [HR3.out] at he
  subst he
  clear M8 B8 C9 M7 B7
  go_wp2_with fail
  go_ret
  exact ⟨rfl, B9⟩

set_option maxRecDepth 100000 in
set_option maxHeartbeats 1000000 in
theorem physEdges_far (pages size : Int) (w : World) (h : pages < 1 ∨ 300 < pages ∨ (size ≠ 1 ∧ size ≠ 2 ∧ size ≠ 4)) :
    Calls Try.prog 6 #[.int .i64 pages, .int .i64 size] w fun e w' => e = .returned (.bool true) ∧ Below w.heap.size w w' := by
  by_cases h1 : pages < 1
  · clear h
    go_enter Try.func6, Try.ntmps6
    go_wp2_with (go_at_call 15; refine (alive4 _).mono ?_; rintro e w1 ⟨rfl, B1⟩)
    go_ret
    exact ⟨rfl, B1⟩
  by_cases h2 : 300 < pages
  · clear h
    go_enter Try.func6, Try.ntmps6
    go_wp2_with (go_at_call 15; refine (alive4 _).mono ?_; rintro e w1 ⟨rfl, B1⟩)
    go_ret
    exact ⟨rfl, B1⟩
  have h3 : size ≠ 1 ∧ size ≠ 2 ∧ size ≠ 4 := by omega
  have b1 : (size != 1) = true := by rw [bne_iff_ne]; omega
  have b2 : (size != 2) = true := by rw [bne_iff_ne]; omega
  have b4 : (size != 4) = true := by rw [bne_iff_ne]; omega
  clear h h3
  go_enter Try.func6, Try.ntmps6
  go_wp2_with (go_at_call 15; refine (alive4 _).mono ?_; rintro e w1 ⟨rfl, B1⟩)
  go_ret
  exact ⟨rfl, B1⟩

theorem physEdges_any (pages size : Int) (w : World) :
    Calls Try.prog 6 #[.int .i64 pages, .int .i64 size] w fun e w' => e = .returned (.bool true) ∧ Below w.heap.size w w' := by
  by_cases h : pages < 1 ∨ 300 < pages ∨ (size ≠ 1 ∧ size ≠ 2 ∧ size ≠ 4)
  · exact physEdges_far pages size w h
  have hs : size = 1 ∨ size = 2 ∨ size = 4 := by omega
  by_cases h2 : 256 < pages
  · exact physEdges_many pages size w h2 (by omega) hs
  obtain ⟨P, rfl⟩ := Int.eq_ofNat_of_zero_le (show 0 ≤ pages by omega)
  rcases hs with rfl | rfl | rfl
  · exact physEdges_near1 P w (by omega) (by omega)
  · exact physEdges_near2 P w (by omega) (by omega)
  · exact physEdges_near4 P w (by omega) (by omega)

theorem physEdges_walk : LawWalk 6 Try.f6 := by
  intro H enc W base args ds p hval hA
  rw [Try.params6] at hA hval
  obtain ⟨v0, v1, d0, d1, p0, p1, rfl, rfl, rfl, h0, h1⟩ := trodAll_two hA
  obtain ⟨a0, rfl, rfl, rfl, w0⟩ := open_int Try.underlying3 (hval 0 3 v0 rfl rfl) h0
  obtain ⟨a1, rfl, rfl, rfl, w1⟩ := open_int Try.underlying3 (hval 1 3 v1 rfl rfl) h1
  exact physEdges_any a0 a1 W

set_option maxRecDepth 100000 in
theorem physEdges_lifted (os : Os) (started : os.Started) (H : Type) (enc : TypeId × Value → H) :
    ReturnsInHanded {} Try.checked os 6 .any (Rows.physEdgesSpec.pre6 enc Try.prog Try.f6 Rows.physEdgesRow.domain false) (Rows.physEdgesSpec.post enc Try.prog Try.f6 false true false false) :=
  law_lifted (s := Rows.physEdgesSpec) Try.func6 (by kernel_rfl) rfl (by kernel_rfl) (by kernel_rfl)
    (fun H ds h => by
      match ds, h with
      | [d0, d1], _ => rfl)
    physEdges_walk os started H enc
    (ChangeSpec.witness6 (enc := enc) (C := Try.checked) false ⟨#[], #[.int .i64 0, .int .i64 0], []⟩ 8 (by kernel_rfl) (by kernel_rfl) (by kernel_rfl) (by kernel_rfl))

/-- THE STATEMENT. -/
theorem physEdges_holds : Rows.PhysEdgesSaid :=
  OpenClaim.holds_of_wide 6 Try.f6 rfl rfl rfl rfl rfl rfl rfl ⟨rfl, rfl, rfl, rfl, rfl⟩ rfl rfl rfl rfl rfl (by kernel_rfl) Try.func6 (by kernel_rfl)
    (of_decide_eq_true (by kernel_rfl)) (by unfold Func.isWrapper; first | (rw [if_pos (by decide +kernel)]; kernel_rfl) | (rw [if_neg (by decide +kernel)]; exact ⟨rfl, rfl⟩))
    (fun os started H enc _ => physEdges_lifted os started H enc)
#print axioms physEdges_holds
end Go.Proofs.Ytmkhpahkcicfnaa


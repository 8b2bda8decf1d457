/- image: the word of four bytes. -/
import Derived.Test.YtdhkbephofnfdaaImg0
import Derived.BigQuiet
namespace Go.Proofs.Ytdhkbephofnfdaa
open Go.RowKit

theorem or_8 (x y : Int) (h0 : 0 ≤ x) (h1 : x < 256) (h2 : 0 ≤ y) (h3 : y < 256) : bits .or .i64 x (y * 256) = x + y * 256 := by
  have hb := (bits_nat .i64 62 (by decide) (fun n _ _ => by rw [IntKind.wrap_i64]; omega) x.toNat (y * 256).toNat (by omega) (by omega)).2
  have hb2 := (bits_nat .i64 62 (by decide) (fun n _ _ => by rw [IntKind.wrap_i64]; omega) (y * 256).toNat x.toNat (by omega) (by omega)).2
  rw [Int.toNat_of_nonneg h0, Int.toNat_of_nonneg (by omega)] at hb hb2
  rw [hb, Nat.or_comm, ← hb2, bits_join .i64 62 (by decide) (fun n _ _ => by rw [IntKind.wrap_i64]; omega) 8 (y * 256) x (by omega) (by omega) (by omega) h0 h1 (by omega)]
  omega
theorem or_16 (x y : Int) (h0 : 0 ≤ x) (h1 : x < 65536) (h2 : 0 ≤ y) (h3 : y < 256) : bits .or .i64 x (y * 65536) = x + y * 65536 := by
  have hb := (bits_nat .i64 62 (by decide) (fun n _ _ => by rw [IntKind.wrap_i64]; omega) x.toNat (y * 65536).toNat (by omega) (by omega)).2
  have hb2 := (bits_nat .i64 62 (by decide) (fun n _ _ => by rw [IntKind.wrap_i64]; omega) (y * 65536).toNat x.toNat (by omega) (by omega)).2
  rw [Int.toNat_of_nonneg h0, Int.toNat_of_nonneg (by omega)] at hb hb2
  rw [hb, Nat.or_comm, ← hb2, bits_join .i64 62 (by decide) (fun n _ _ => by rw [IntKind.wrap_i64]; omega) 16 (y * 65536) x (by omega) (by omega) (by omega) h0 h1 (by omega)]
  omega
theorem or_24 (x y : Int) (h0 : 0 ≤ x) (h1 : x < 16777216) (h2 : 0 ≤ y) (h3 : y < 256) : bits .or .i64 x (y * 16777216) = x + y * 16777216 := by
  have hb := (bits_nat .i64 62 (by decide) (fun n _ _ => by rw [IntKind.wrap_i64]; omega) x.toNat (y * 16777216).toNat (by omega) (by omega)).2
  have hb2 := (bits_nat .i64 62 (by decide) (fun n _ _ => by rw [IntKind.wrap_i64]; omega) (y * 16777216).toNat x.toNat (by omega) (by omega)).2
  rw [Int.toNat_of_nonneg h0, Int.toNat_of_nonneg (by omega)] at hb hb2
  rw [hb, Nat.or_comm, ← hb2, bits_join .i64 62 (by decide) (fun n _ _ => by rw [IntKind.wrap_i64]; omega) 24 (y * 16777216) x (by omega) (by omega) (by omega) h0 h1 (by omega)]
  omega

/-- The word of four bytes. -/
def num4 (a b c d : Int) : Int := a + b * 256 + c * 65536 + d * 16777216
def numB (xs : List Int) (p : Nat) : Int := num4 (xs.getD p 0) (xs.getD (p + 1) 0) (xs.getD (p + 2) 0) (xs.getD (p + 3) 0)
theorem or_all (a b c d : Int) (ha : 0 ≤ a ∧ a < 256) (hb : 0 ≤ b ∧ b < 256) (hc : 0 ≤ c ∧ c < 256) (hd : 0 ≤ d ∧ d < 256) :
    bits .or .i64 (bits .or .i64 (bits .or .i64 a (b * 256)) (c * 65536)) (d * 16777216) = num4 a b c d := by
  rw [or_8 a b ha.1 ha.2 hb.1 hb.2, or_16 _ c (by omega) (by omega) hc.1 hc.2, or_24 _ d (by omega) (by omega) hd.1 hd.2]
  rfl

set_option maxHeartbeats 800000 in
theorem number_any {ao : Option Addr} {m c : Nat} {xs : List Int} (w : World) (hL : Lst w ao m c (u8s xs) 1) (hx : ∀ x ∈ xs, 0 ≤ x ∧ x < 256) (hm : 4 ≤ m) :
    Calls Try.prog 71 #[.slice ao m c] w fun e w' => ∃ k, e = .returned (.int .i64 (numB xs 0)) ∧ w' = w.drewN k := by
  have hl : xs.length = m := by have := hL.src.len; simpa [u8s] using this
  obtain ⟨b, o, rfl⟩ := hL.pos (by omega)
  have hcell : ∀ j, j < 4 → w.cell? ⟨b, o + j, none⟩ = some (.int .u8 (xs.getD j 0)) := by
    intro j hj
    have := hL.src.get _ rfl j (.int .u8 (xs.getD j 0)) (by simp [u8s, show j < xs.length by omega])
    rwa [Addr.add_lit] at this
  have hr : ∀ j, j < 4 → 0 ≤ xs.getD j 0 ∧ xs.getD j 0 < 256 := by
    intro j hj
    rw [List.getD_eq_getElem?_getD, List.getElem?_eq_getElem (by omega)]
    exact hx _ (List.getElem_mem _)
  have c0 : w.cell? ⟨b, o, none⟩ = some (.int .u8 (xs.getD 0 0)) := hcell 0 (by decide)
  have c1 : w.cell? ⟨b, o + 1, none⟩ = some (.int .u8 (xs.getD 1 0)) := hcell 1 (by decide)
  have c2 : w.cell? ⟨b, o + 2, none⟩ = some (.int .u8 (xs.getD 2 0)) := hcell 2 (by decide)
  have c3 : w.cell? ⟨b, o + 3, none⟩ = some (.int .u8 (xs.getD 3 0)) := hcell 3 (by decide)
  have r0 := hr 0 (by decide)
  have r1 := hr 1 (by decide)
  have r2 := hr 2 (by decide)
  have r3 := hr 3 (by decide)
  unfold numB
  simp only [Nat.zero_add]
  generalize xs.getD 0 0 = x0 at *
  generalize xs.getD 1 0 = x1 at *
  generalize xs.getD 2 0 = x2 at *
  generalize xs.getD 3 0 = x3 at *
  have HO := Lib.hid (or_all x0 x1 x2 x3 r0 r1 r2 r3)
  have m0 : (0 : Int) < (m : Int) := by omega
  have m1 : (1 : Int) < (m : Int) := by omega
  have m2 : (2 : Int) < (m : Int) := by omega
  have m3 : (3 : Int) < (m : Int) := by omega
  clear hcell hr hx hL hl
  go_enter Try.func71, Try.ntmps71
  go_wp2_with fail
  go_quiet (fail)
  go_wp2_with fail
  go_ret
  exact ⟨_, by rw [← HO.out]; rfl, rfl⟩

set_option maxHeartbeats 800000 in
theorem rnum_any {ao : Option Addr} {m c p : Nat} {xs : List Int} (w : World) (hL : Lst w ao m c (u8s xs) 1) (hx : ∀ x ∈ xs, 0 ≤ x ∧ x < 256) (hm : p + 4 ≤ m) (hmm : m ≤ 2000000) :
    Calls Try.prog 70 #[.slice ao m c, .int .i64 p] w fun e w' => ∃ k, e = .returned (.int .i64 (numB xs p)) ∧ w' = w.drewN k := by
  have hl : xs.length = m := by have := hL.src.len; simpa [u8s] using this
  obtain ⟨b, o, rfl⟩ := hL.pos (by omega)
  have hcell : ∀ j, j < 4 → w.cell? ⟨b, o + (p + j), none⟩ = some (.int .u8 (xs.getD (p + j) 0)) := by
    intro j hj
    have := hL.src.get _ rfl (p + j) (.int .u8 (xs.getD (p + j) 0)) (by simp [u8s, show p + j < xs.length by omega])
    rwa [Addr.add_lit] at this
  have hr : ∀ j, j < 4 → 0 ≤ xs.getD (p + j) 0 ∧ xs.getD (p + j) 0 < 256 := by
    intro j hj
    rw [List.getD_eq_getElem?_getD, List.getElem?_eq_getElem (by omega)]
    exact hx _ (List.getElem_mem _)
  have c0 : w.cell? ⟨b, o + p, none⟩ = some (.int .u8 (xs.getD p 0)) := hcell 0 (by decide)
  have c1 : w.cell? ⟨b, o + (p + 1), none⟩ = some (.int .u8 (xs.getD (p + 1) 0)) := hcell 1 (by decide)
  have c2 : w.cell? ⟨b, o + (p + 2), none⟩ = some (.int .u8 (xs.getD (p + 2) 0)) := hcell 2 (by decide)
  have c3 : w.cell? ⟨b, o + (p + 3), none⟩ = some (.int .u8 (xs.getD (p + 3) 0)) := hcell 3 (by decide)
  have r0 := hr 0 (by decide)
  have r1 := hr 1 (by decide)
  have r2 := hr 2 (by decide)
  have r3 := hr 3 (by decide)
  simp only [Nat.add_zero] at r0
  unfold numB
  generalize xs.getD p 0 = x0 at *
  generalize xs.getD (p + 1) 0 = x1 at *
  generalize xs.getD (p + 2) 0 = x2 at *
  generalize xs.getD (p + 3) 0 = x3 at *
  have HO := Lib.hid (or_all x0 x1 x2 x3 r0 r1 r2 r3)
  have p0 : (0 : Int) ≤ (p : Int) := by omega
  have m0 : (p : Int) < (m : Int) := by omega
  have m1 : (p : Int) + 1 < (m : Int) := by omega
  have m2 : (p : Int) + 2 < (m : Int) := by omega
  have m3 : (p : Int) + 3 < (m : Int) := by omega
  have i1 : IntKind.i64.wrap ((p : Int) + 1) = p + 1 := IntWalk.i64_in _ (by omega)
  have i2 : IntKind.i64.wrap ((p : Int) + 2) = p + 2 := IntWalk.i64_in _ (by omega)
  have i3 : IntKind.i64.wrap ((p : Int) + 3) = p + 3 := IntWalk.i64_in _ (by omega)
  have n1 : ((p : Int) + 1).toNat = p + 1 := by omega
  have n2 : ((p : Int) + 2).toNat = p + 2 := by omega
  have n3 : ((p : Int) + 3).toNat = p + 3 := by omega
  have z1 : (0 : Int) ≤ (p : Int) + 1 := by omega
  have z2 : (0 : Int) ≤ (p : Int) + 2 := by omega
  have z3 : (0 : Int) ≤ (p : Int) + 3 := by omega
  clear hcell hr hx hL hl
  go_enter Try.func70, Try.ntmps70
  go_wp2_with fail
  go_quiet (fail)
  go_wp2_with fail
  go_ret
  exact ⟨_, by rw [← HO.out]; rfl, rfl⟩
end Go.Proofs.Ytdhkbephofnfdaa

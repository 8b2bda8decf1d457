/- ImageTurned: the walk. -/
import Derived.Test.YtgblnmahniphdaaImgL0
import Derived.Laws.BitsAllLaws
namespace Go.Proofs.Ytgblnmahniphdaa
open Go.RowKit

theorem xor_other (x y : Int) (hx : 0 ≤ x ∧ x < 256) (hy : 0 ≤ y ∧ y < 256) (h0 : y ≠ 0) : ∃ z, bits .xor .u8 x y = z ∧ 0 ≤ z ∧ z < 256 ∧ z ≠ x := by
  refine ⟨((x.toNat ^^^ y.toNat : Nat) : Int), ?_, by omega, ?_, ?_⟩
  · have := u8_xor_nat x.toNat y.toNat (by omega) (by omega)
    rwa [Int.toNat_of_nonneg hx.1, Int.toNat_of_nonneg hy.1] at this
  · have : x.toNat ^^^ y.toNat < 2 ^ 8 := Nat.xor_lt_two_pow (by omega) (by omega)
    omega
  · intro e
    have e2 : x.toNat ^^^ y.toNat = x.toNat := by omega
    have e3 : x.toNat ^^^ (x.toNat ^^^ y.toNat) = x.toNat ^^^ x.toNat := by rw [e2]
    rw [← Nat.xor_assoc, Nat.xor_self, Nat.zero_xor] at e3
    omega

theorem turned_not (e : Int) (xs : List Int) (k : Nat) (hk : k < (packB e xs).length) (x : Int) (hr : ∀ y ∈ xs, 0 ≤ y ∧ y < 256) (h0 : 0 ≤ x) (h1 : x < 256) (hn : x ≠ (packB e xs)[k]) : ¬ goodI ((packB e xs).set k x) := by
  intro h
  refine turned_bad e _ xs (midB ((packB e xs).set k x)) k hk x hr h0 h1 hn ?_ h.2.2
  unfold midB
  have := packB_len e xs
  simp only [List.length_take, List.length_drop, List.length_set, this]
  omega

set_option maxHeartbeats 1600000 in
theorem turned_out (e a y : Int) (m c : Nat) (ao : Option Addr) (w : World) (h : 5000 < m ∨ ¬ chkI e m = 0 ∨ a < 0 ∨ y = 0) :
    Calls Try.prog 9 #[.agg #[.int .i64 e, .slice ao m c], .int .i64 a, .int .u8 y] w fun r w' => r = .returned (.bool true) ∧ Below w.heap.size w w' := by
  by_cases h1 : 5000 < m
  · have d1 : decide ((5000 : Int) < (m : Int)) = true := decide_eq_true (by omega)
    clear h h1
    go_enter Try.func9, Try.ntmps9
    go_wp2_with fail
    refine (alive_any _).mono ?_
    rintro r w1 ⟨rfl, C1⟩
    have B1 := ((Box.new w 39 #[.int .i64 e, .slice ao m c]).chg C1 (fun h => h)).cell 1
    go_wp2_with fail
    go_ret
    exact ⟨rfl, (((Chg.refl w (fun _ => False)).alloc _).trans C1).below (Nat.le_refl _) (fun _ _ h => h)⟩
  have d1 : decide ((5000 : Int) < (m : Int)) = false := decide_eq_false (by omega)
  by_cases h2 : chkI e m = 0
  case neg =>
    obtain ⟨k, hk⟩ : ∃ k, chkI e m = k := ⟨_, rfl⟩
    have HK := Lib.hid hk
    rw [hk] at h2
    have d2 : (k != 0) = true := bne_iff_ne.2 h2
    clear h h1 h2 hk
    go_enter Try.func9, Try.ntmps9
    go_wp2_with fail
    refine (alive_any _).mono ?_
    rintro r w1 ⟨rfl, C1⟩
    have B1 := (Box.new w 39 #[.int .i64 e, .slice ao m c]).chg C1 (fun h => h)
    have y0 := B1.cell 0
    have y1 := B1.cell 1
    go_wp2_with fail
    refine (rcheckI_any e m c ao _).mono ?_
    rintro r w2 ⟨rfl, C2⟩
    rw [HK.out]
    go_wp2_with fail
    go_ret
    exact ⟨rfl, ((((Chg.refl w (fun _ => False)).alloc _).trans C1).trans C2).below (Nat.le_refl _) (fun _ _ h => h)⟩
  have HK := Lib.hid h2
  by_cases h3 : a < 0
  · have d3 : decide (a < 0) = true := decide_eq_true h3
    clear h h1 h2 h3
    go_enter Try.func9, Try.ntmps9
    go_wp2_with fail
    refine (alive_any _).mono ?_
    rintro r w1 ⟨rfl, C1⟩
    have B1 := (Box.new w 39 #[.int .i64 e, .slice ao m c]).chg C1 (fun h => h)
    have y0 := B1.cell 0
    have y1 := B1.cell 1
    go_wp2_with fail
    refine (rcheckI_any e m c ao _).mono ?_
    rintro r w2 ⟨rfl, C2⟩
    rw [HK.out]
    go_wp2_with fail
    go_ret
    exact ⟨rfl, ((((Chg.refl w (fun _ => False)).alloc _).trans C1).trans C2).below (Nat.le_refl _) (fun _ _ h => h)⟩
  · have d3 : decide (a < 0) = false := decide_eq_false h3
    have h4 : y = 0 := by rcases h with h | h | h | h <;> first | exact h | exact absurd h h1 | exact absurd h2 h | exact absurd h h3
    subst h4
    clear h h1 h2 h3
    go_enter Try.func9, Try.ntmps9
    go_wp2_with fail
    refine (alive_any _).mono ?_
    rintro r w1 ⟨rfl, C1⟩
    have B1 := (Box.new w 39 #[.int .i64 e, .slice ao m c]).chg C1 (fun h => h)
    have y0 := B1.cell 0
    have y1 := B1.cell 1
    go_wp2_with fail
    refine (rcheckI_any e m c ao _).mono ?_
    rintro r w2 ⟨rfl, C2⟩
    rw [HK.out]
    go_wp2_with fail
    go_ret
    exact ⟨rfl, ((((Chg.refl w (fun _ => False)).alloc _).trans C1).trans C2).below (Nat.le_refl _) (fun _ _ h => h)⟩

set_option maxRecDepth 100000 in
set_option maxHeartbeats 3200000 in
theorem turned_in (e a y : Int) (m c : Nat) (ao : Option Addr) (xs : List Int) (w : World) (hL : Lst w ao m c (u8s xs) 1) (hx : ∀ x ∈ xs, 0 ≤ x ∧ x < 256) (hy : 0 ≤ y ∧ y < 256) (h1 : ¬ 5000 < m) (h2 : chkI e m = 0) (h3 : ¬ a < 0) (h4 : ¬ y = 0) :
    Calls Try.prog 9 #[.agg #[.int .i64 e, .slice ao m c], .int .i64 a, .int .u8 y] w fun r w' => r = .returned (.bool true) ∧ Below w.heap.size w w' := by
  have hl : xs.length = m := by have := hL.src.len; simpa [u8s] using this
  have d1 : decide ((5000 : Int) < (m : Int)) = false := decide_eq_false (by omega)
  have d3 : decide (a < 0) = false := decide_eq_false h3
  have d4 : (y == 0) = false := beq_eq_false_iff_ne.2 h4
  have HK := Lib.hid h2
  have HS := Lib.hid hL.src
  have HX := Lib.hid hx
  obtain ⟨n, hn⟩ : ∃ n, m + 16 = n := ⟨_, rfl⟩
  have hn0 : ¬ (n : Int) = 0 := by omega
  obtain ⟨k, hk⟩ : ∃ k : Nat, a.tmod (n : Int) = (k : Int) := ⟨(a.tmod n).toNat, by rw [Int.toNat_of_nonneg]; rw [Int.tmod_eq_emod_of_nonneg (by omega)]; exact Int.emod_nonneg _ hn0⟩
  have hkn : k < n := by
    rw [Int.tmod_eq_emod_of_nonneg (by omega)] at hk
    have := Int.emod_lt_of_pos a (show (0 : Int) < (n : Int) by omega)
    omega
  have hpl : (packB e xs).length = n := by rw [packB_len]; omega
  obtain ⟨x, hxk⟩ : ∃ x, (packB e xs)[k]'(by omega) = x := ⟨_, rfl⟩
  have hxr : 0 ≤ x ∧ x < 256 := by rw [← hxk]; exact packB_rng e xs hx _ (List.getElem_mem _)
  obtain ⟨z, hz, hz0, hz1, hzx⟩ := xor_other x y hxr hy h4
  have HB := Lib.hid (turned_not e xs k (by omega) z hx hz0 hz1 (by rw [hxk]; exact hzx))
  have HC := Lib.hid (show (u8s (packB e xs))[k]? = some (.int .u8 x) by rw [← hxk]; simp [u8s, show k < (packB e xs).length by omega])
  have HZ := Lib.hid (show ∀ b ∈ (packB e xs).set k z, 0 ≤ b ∧ b < 256 from fun b hb => by
    rcases List.mem_or_eq_of_mem_set hb with h | h
    · exact packB_rng e xs hx b h
    · omega)
  have k0 : (0 : Int) ≤ (k : Int) := by omega
  have k1 : (k : Int) < (n : Int) := by omega
  have d5 : ((n : Int) == 0) = false := beq_eq_false_iff_ne.2 hn0
  have hnb : n ≤ 6000 := by omega
  have hm0 : m ≤ 1048576 := by omega
  have HN := Lib.hid hn
  clear h1 h2 h3 h4 hxk hl hn hpl hkn hL hx hzx
  go_enter Try.func9, Try.ntmps9
  go_wp2_with fail
  refine (alive_any _).mono ?_
  rintro r w1 ⟨rfl, C1⟩
  have CA : Chg w w1 (fun _ => False) := ((Chg.refl w _).alloc _).trans C1
  have B1 := (Box.new w 39 #[.int .i64 e, .slice ao m c]).chg C1 (fun h => h)
  have y0 := B1.cell 0
  have y1 := B1.cell 1
  go_wp2_with fail
  refine (rcheckI_any e m c ao _).mono ?_
  rintro r w2 ⟨rfl, C2⟩
  rw [HK.out]
  have CB := CA.trans C2
  have B2 := B1.chg C2 (fun h => h)
  have y2 := B2.cell 0
  have y3 := B2.cell 1
  go_wp2_with fail
  refine (ipack_ok e m c ao xs w2 (HS.out.chg CB (fun _ _ h => h)) HX.out hm0 HK.out).mono ?_
  rintro r w3 ⟨a3, c3, rfl, O3, C3⟩
  rw [HN.out] at O3 ⊢
  obtain ⟨g, cap, hv, hbg, hgs, hcap, hcm⟩ := own_block O3 (by omega)
  injection hv with e1 e2 e3
  subst e1 e3
  have hcell := own_cells O3 _ _ HC.out
  have hfz := own_frozen O3 k
  have CC := CB.trans C3
  have O4 := own_setB O3 k (.int .u8 z)
  rw [u8s_set] at O4
  have C4 : Chg w (w3.setCell ⟨g, k, none⟩ (.int .u8 z)) (fun _ => False) := CC.trans' ((Chg.refl w3 (fun j => j = g)).setCell (p := ⟨g, k, none⟩) (fun _ => rfl) _) (fun i hi h => by have := CB.size; omega)
  have HO4 := Lib.hid O4
  clear O3 O4 y0 y1 y2 y3 hbg hcm hgs
  go_wp2_with (go_at_call 21; refine (num_any _ _).mono ?_; rintro e w' ⟨rfl, rfl⟩)
  refine (unpack_any _ (own_lst HO4.out) HZ.out (by omega)).mono ?_
  rintro r w5 ⟨e5, a5, n5, c5, q5, rfl, C5, _, hb5⟩
  obtain ⟨rfl, rfl, rfl, rfl, rfl⟩ := hb5 HB.out
  clear hb5
  go_wp2_with (go_at_call 21; refine (num_any _ _).mono ?_; rintro e w' ⟨rfl, rfl⟩)
  go_ret
  exact ⟨rfl, ((C4.trans C5).alloc _).below (Nat.le_refl _) (fun _ _ h => h)⟩
end Go.Proofs.Ytgblnmahniphdaa

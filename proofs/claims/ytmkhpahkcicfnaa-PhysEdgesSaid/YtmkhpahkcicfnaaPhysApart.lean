/- PhysApart: a store changes just its bytes. For every address, size, value and other place. -/
import Derived.Test.YtmkhpahkcicfnaaPhysHalves
namespace Go.Proofs.Ytmkhpahkcicfnaa
open Go.ChangeShapes Go.WideShapes Go.ChangeAt Go.RowKit

theorem ldV_one {n : Nat} {f : Nat → Int} {p : Nat} (h : p < n) : ldV n f p 1 = f p := by
  unfold ldV
  rw [if_pos (okB_of (by omega) (by omega) (by omega) (by omega))]
  show f ((p : Int).toNat) + 256 * 0 = f p
  simp

theorem stV_yes {n : Nat} {f : Nat → Int} {p s : Nat} {v : Int} (h : okB n p s = true) : stV n f p s v = stN f p s v := by
  unfold stV; rw [if_pos h]; rfl

def apartOk (addr size other : Int) : Prop := 0 ≤ addr ∧ addr ≤ 4000 ∧ 0 ≤ other ∧ other ≤ 4095 ∧ (size = 1 ∨ size = 2 ∨ size = 4) ∧ addr % size = 0

set_option maxRecDepth 100000 in
set_option maxHeartbeats 1000000 in
theorem physApart_near1 (p o : Nat) (v : Int) (w : World) (h1 : p ≤ 4000) (h2 : o ≤ 4095) (h4 : (p : Int) % 1 = 0) :
    Calls Try.prog 4 #[.int .i64 p, .int .i64 1, .int .i64 v, .int .i64 o] w fun e w' => e = .returned (.bool true) ∧ Below w.heap.size w w' := by
  have e1 : ((p : Int) % 1 != 0) = false := by rw [h4]; rfl
  have HOK : Hid (okB 4096 p 1 = true) := okB_of (by omega) (by omega) h4 (by omega)
  have H4 := Lib.hid h4
  clear h4
  go_enter Try.func4, Try.ntmps4
  go_wp2_with fail
  refine (alive4 _).mono ?_
  rintro e w1 ⟨rfl, B1⟩
  go_wp2_with fail
  refine (new_at 1 4096 pgN_one _).mono ?_
  rintro e w2 ⟨a, b, rfl, M2, C2, ha, hb⟩
  have hb1 := B1.size
  have B2 : Below w.heap.size w w2 := B1.trans (C2.below_of hb1 (fun _ h => h.elim))
  clear B1
  go_wp2_with fail
  go_loopw [11] (fun i wr => ∃ (k : Nat) (f : Nat → Int), k ≤ 1024 ∧ i = .int .i64 k ∧ Mem 61 wr a b 4096 f ∧ Below w.heap.size w wr) (fun i _ => 1024 - (intOf i).toNat)
  case atStart => exact ⟨0, _, by omega, rfl, M2, B2⟩
  case round =>
    obtain ⟨k, f, hk, rfl, M, B⟩ := hrel
    by_cases hlt : k < 1024
    · go_wp2_with (go_at_call 17; refine (store_any M _ _ _).mono ?_; rintro e w4 ⟨rfl, M4, C4⟩)
      go_roundw
      case rel => exact ⟨k + 1, _, by omega, by go_num, M4, B.trans (C4.below_of B.size (fun k h => by omega))⟩
      case measure => simp [intOf]; omega
    · have hz := B.size
      go_wp2_with fail
      refine (load_at M o 1 (f o) true (okB_of (by omega) (by omega) (by omega) (by omega)) (ldV_one (by omega))).mono ?_
      rintro e w4 ⟨rfl, rfl⟩
      go_wp2_with fail
      refine (store_at M p 1 v true HOK.out).mono ?_
      rintro e w5 ⟨rfl, M5, C5⟩
      have MM : Mem 61 w5 a b 4096 (stN f p 1 v) := by rw [← stV_yes HOK.out]; exact M5
      have B5 : Below w.heap.size w w5 := B.trans (C5.below_of hz (fun k h => by omega))
      clear M5
      go_wp2_with fail
      by_cases hin : p ≤ o ∧ o < p + 1
      · obtain ⟨d, rfl⟩ := Nat.exists_eq_add_of_le hin.1
        have hd : d < 1 := by omega
        refine (load_at MM ((p + d : Nat) : Int) 1 (byteN v d) true (okB_of (by omega) (by omega) (by omega) (by omega)) ((ldV_one (by omega)).trans (stN_at _ _ _ _ _ hd))).mono ?_
        rintro e w6 ⟨rfl, rfl⟩
        have hand : bits .and .i64 (v / 2 ^ (8 * d)) 255 = byteN v d := and255 _
        go_wp2_with fail
        go_ret
        exact ⟨rfl, B5⟩
      · refine (load_at MM o 1 (f o) true (okB_of (by omega) (by omega) (by omega) (by omega)) ((ldV_one (by omega)).trans (by unfold stN; rw [if_neg hin]))).mono ?_
        rintro e w6 ⟨rfl, rfl⟩
        have hin' : o < p ∨ p + 1 ≤ o := by omega
        clear hin
        rcases hin' with hin | hin
        · go_wp2_with fail
          go_ret
          exact ⟨rfl, B5⟩
        · go_wp2_with fail
          go_ret
          exact ⟨rfl, B5⟩

set_option maxRecDepth 100000 in
set_option maxHeartbeats 1000000 in
theorem physApart_near2 (p o : Nat) (v : Int) (w : World) (h1 : p ≤ 4000) (h2 : o ≤ 4095) (h4 : (p : Int) % 2 = 0) :
    Calls Try.prog 4 #[.int .i64 p, .int .i64 2, .int .i64 v, .int .i64 o] w fun e w' => e = .returned (.bool true) ∧ Below w.heap.size w w' := by
  have e1 : ((p : Int) % 2 != 0) = false := by rw [h4]; rfl
  have HOK : Hid (okB 4096 p 2 = true) := okB_of (by omega) (by omega) h4 (by omega)
  have H4 := Lib.hid h4
  clear h4
  go_enter Try.func4, Try.ntmps4
  go_wp2_with fail
  refine (alive4 _).mono ?_
  rintro e w1 ⟨rfl, B1⟩
  go_wp2_with fail
  refine (new_at 1 4096 pgN_one _).mono ?_
  rintro e w2 ⟨a, b, rfl, M2, C2, ha, hb⟩
  have hb1 := B1.size
  have B2 : Below w.heap.size w w2 := B1.trans (C2.below_of hb1 (fun _ h => h.elim))
  clear B1
  go_wp2_with fail
  go_loopw [11] (fun i wr => ∃ (k : Nat) (f : Nat → Int), k ≤ 1024 ∧ i = .int .i64 k ∧ Mem 61 wr a b 4096 f ∧ Below w.heap.size w wr) (fun i _ => 1024 - (intOf i).toNat)
  case atStart => exact ⟨0, _, by omega, rfl, M2, B2⟩
  case round =>
    obtain ⟨k, f, hk, rfl, M, B⟩ := hrel
    by_cases hlt : k < 1024
    · go_wp2_with (go_at_call 17; refine (store_any M _ _ _).mono ?_; rintro e w4 ⟨rfl, M4, C4⟩)
      go_roundw
      case rel => exact ⟨k + 1, _, by omega, by go_num, M4, B.trans (C4.below_of B.size (fun k h => by omega))⟩
      case measure => simp [intOf]; omega
    · have hz := B.size
      go_wp2_with fail
      refine (load_at M o 1 (f o) true (okB_of (by omega) (by omega) (by omega) (by omega)) (ldV_one (by omega))).mono ?_
      rintro e w4 ⟨rfl, rfl⟩
      go_wp2_with fail
      refine (store_at M p 2 v true HOK.out).mono ?_
      rintro e w5 ⟨rfl, M5, C5⟩
      have MM : Mem 61 w5 a b 4096 (stN f p 2 v) := by rw [← stV_yes HOK.out]; exact M5
      have B5 : Below w.heap.size w w5 := B.trans (C5.below_of hz (fun k h => by omega))
      clear M5
      go_wp2_with fail
      by_cases hin : p ≤ o ∧ o < p + 2
      · obtain ⟨d, rfl⟩ := Nat.exists_eq_add_of_le hin.1
        have hd : d < 2 := by omega
        refine (load_at MM ((p + d : Nat) : Int) 1 (byteN v d) true (okB_of (by omega) (by omega) (by omega) (by omega)) ((ldV_one (by omega)).trans (stN_at _ _ _ _ _ hd))).mono ?_
        rintro e w6 ⟨rfl, rfl⟩
        have hand : bits .and .i64 (v / 2 ^ (8 * d)) 255 = byteN v d := and255 _
        go_wp2_with fail
        go_ret
        exact ⟨rfl, B5⟩
      · refine (load_at MM o 1 (f o) true (okB_of (by omega) (by omega) (by omega) (by omega)) ((ldV_one (by omega)).trans (by unfold stN; rw [if_neg hin]))).mono ?_
        rintro e w6 ⟨rfl, rfl⟩
        have hin' : o < p ∨ p + 2 ≤ o := by omega
        clear hin
        rcases hin' with hin | hin
        · go_wp2_with fail
          go_ret
          exact ⟨rfl, B5⟩
        · go_wp2_with fail
          go_ret
          exact ⟨rfl, B5⟩

set_option maxRecDepth 100000 in
set_option maxHeartbeats 1000000 in
theorem physApart_near4 (p o : Nat) (v : Int) (w : World) (h1 : p ≤ 4000) (h2 : o ≤ 4095) (h4 : (p : Int) % 4 = 0) :
    Calls Try.prog 4 #[.int .i64 p, .int .i64 4, .int .i64 v, .int .i64 o] w fun e w' => e = .returned (.bool true) ∧ Below w.heap.size w w' := by
  have e1 : ((p : Int) % 4 != 0) = false := by rw [h4]; rfl
  have HOK : Hid (okB 4096 p 4 = true) := okB_of (by omega) (by omega) h4 (by omega)
  have H4 := Lib.hid h4
  clear h4
  go_enter Try.func4, Try.ntmps4
  go_wp2_with fail
  refine (alive4 _).mono ?_
  rintro e w1 ⟨rfl, B1⟩
  go_wp2_with fail
  refine (new_at 1 4096 pgN_one _).mono ?_
  rintro e w2 ⟨a, b, rfl, M2, C2, ha, hb⟩
  have hb1 := B1.size
  have B2 : Below w.heap.size w w2 := B1.trans (C2.below_of hb1 (fun _ h => h.elim))
  clear B1
  go_wp2_with fail
  go_loopw [11] (fun i wr => ∃ (k : Nat) (f : Nat → Int), k ≤ 1024 ∧ i = .int .i64 k ∧ Mem 61 wr a b 4096 f ∧ Below w.heap.size w wr) (fun i _ => 1024 - (intOf i).toNat)
  case atStart => exact ⟨0, _, by omega, rfl, M2, B2⟩
  case round =>
    obtain ⟨k, f, hk, rfl, M, B⟩ := hrel
    by_cases hlt : k < 1024
    · go_wp2_with (go_at_call 17; refine (store_any M _ _ _).mono ?_; rintro e w4 ⟨rfl, M4, C4⟩)
      go_roundw
      case rel => exact ⟨k + 1, _, by omega, by go_num, M4, B.trans (C4.below_of B.size (fun k h => by omega))⟩
      case measure => simp [intOf]; omega
    · have hz := B.size
      go_wp2_with fail
      refine (load_at M o 1 (f o) true (okB_of (by omega) (by omega) (by omega) (by omega)) (ldV_one (by omega))).mono ?_
      rintro e w4 ⟨rfl, rfl⟩
      go_wp2_with fail
      refine (store_at M p 4 v true HOK.out).mono ?_
      rintro e w5 ⟨rfl, M5, C5⟩
      have MM : Mem 61 w5 a b 4096 (stN f p 4 v) := by rw [← stV_yes HOK.out]; exact M5
      have B5 : Below w.heap.size w w5 := B.trans (C5.below_of hz (fun k h => by omega))
      clear M5
      go_wp2_with fail
      by_cases hin : p ≤ o ∧ o < p + 4
      · obtain ⟨d, rfl⟩ := Nat.exists_eq_add_of_le hin.1
        have hd : d < 4 := by omega
        refine (load_at MM ((p + d : Nat) : Int) 1 (byteN v d) true (okB_of (by omega) (by omega) (by omega) (by omega)) ((ldV_one (by omega)).trans (stN_at _ _ _ _ _ hd))).mono ?_
        rintro e w6 ⟨rfl, rfl⟩
        have hand : bits .and .i64 (v / 2 ^ (8 * d)) 255 = byteN v d := and255 _
        go_wp2_with fail
        go_ret
        exact ⟨rfl, B5⟩
      · refine (load_at MM o 1 (f o) true (okB_of (by omega) (by omega) (by omega) (by omega)) ((ldV_one (by omega)).trans (by unfold stN; rw [if_neg hin]))).mono ?_
        rintro e w6 ⟨rfl, rfl⟩
        have hin' : o < p ∨ p + 4 ≤ o := by omega
        clear hin
        rcases hin' with hin | hin
        · go_wp2_with fail
          go_ret
          exact ⟨rfl, B5⟩
        · go_wp2_with fail
          go_ret
          exact ⟨rfl, B5⟩

set_option maxRecDepth 100000 in
set_option maxHeartbeats 1000000 in
theorem physApart_far (addr size v other : Int) (w : World) (h : addr < 0 ∨ 4000 < addr ∨ other < 0 ∨ 4095 < other) :
    Calls Try.prog 4 #[.int .i64 addr, .int .i64 size, .int .i64 v, .int .i64 other] w fun e w' => e = .returned (.bool true) ∧ Below w.heap.size w w' := by
  by_cases h1 : addr < 0
  · clear h
    go_enter Try.func4, Try.ntmps4
    go_wp2_with (go_at_call 15; refine (alive4 _).mono ?_; rintro e w1 ⟨rfl, B1⟩)
    go_ret
    exact ⟨rfl, B1⟩
  by_cases h2 : 4000 < addr
  · clear h
    go_enter Try.func4, Try.ntmps4
    go_wp2_with (go_at_call 15; refine (alive4 _).mono ?_; rintro e w1 ⟨rfl, B1⟩)
    go_ret
    exact ⟨rfl, B1⟩
  have h1' : 0 ≤ addr ∧ addr ≤ 4000 := by omega
  clear h1 h2
  by_cases h3 : other < 0
  · clear h
    go_enter Try.func4, Try.ntmps4
    go_wp2_with (go_at_call 15; refine (alive4 _).mono ?_; rintro e w1 ⟨rfl, B1⟩)
    go_ret
    exact ⟨rfl, B1⟩
  have h4 : 4095 < other := by omega
  clear h h3
  go_enter Try.func4, Try.ntmps4
  go_wp2_with (go_at_call 15; refine (alive4 _).mono ?_; rintro e w1 ⟨rfl, B1⟩)
  go_ret
  exact ⟨rfl, B1⟩

set_option maxRecDepth 100000 in
set_option maxHeartbeats 1000000 in
theorem physApart_size (p o : Nat) (size v : Int) (w : World) (h1 : p ≤ 4000) (h2 : o ≤ 4095) (h : (size ≠ 1 ∧ size ≠ 2 ∧ size ≠ 4) ∨ (p : Int) % size ≠ 0) :
    Calls Try.prog 4 #[.int .i64 p, .int .i64 size, .int .i64 v, .int .i64 o] w fun e w' => e = .returned (.bool true) ∧ Below w.heap.size w w' := by
  by_cases e1 : size = 1
  · subst e1; omega
  by_cases e2 : size = 2
  · subst e2
    have e3 : ((p : Int) % 2 != 0) = true := by rw [bne_iff_ne]; omega
    clear h e1
    go_enter Try.func4, Try.ntmps4
    go_wp2_with (go_at_call 15; refine (alive4 _).mono ?_; rintro e w1 ⟨rfl, B1⟩)
    go_ret
    exact ⟨rfl, B1⟩
  by_cases e4 : size = 4
  · subst e4
    have e3 : ((p : Int) % 4 != 0) = true := by rw [bne_iff_ne]; omega
    clear h e1 e2
    go_enter Try.func4, Try.ntmps4
    go_wp2_with (go_at_call 15; refine (alive4 _).mono ?_; rintro e w1 ⟨rfl, B1⟩)
    go_ret
    exact ⟨rfl, B1⟩
  clear h
  have b1 : (size != 1) = true := by rw [bne_iff_ne]; exact e1
  have b2 : (size != 2) = true := by rw [bne_iff_ne]; exact e2
  have b4 : (size != 4) = true := by rw [bne_iff_ne]; exact e4
  clear e1 e2 e4
  go_enter Try.func4, Try.ntmps4
  go_wp2_with (go_at_call 15; refine (alive4 _).mono ?_; rintro e w1 ⟨rfl, B1⟩)
  go_ret
  exact ⟨rfl, B1⟩

theorem physApart_any (addr size v other : Int) (w : World) :
    Calls Try.prog 4 #[.int .i64 addr, .int .i64 size, .int .i64 v, .int .i64 other] w fun e w' => e = .returned (.bool true) ∧ Below w.heap.size w w' := by
  by_cases h : addr < 0 ∨ 4000 < addr ∨ other < 0 ∨ 4095 < other
  · exact physApart_far addr size v other w h
  obtain ⟨p, rfl⟩ := Int.eq_ofNat_of_zero_le (show 0 ≤ addr by omega)
  obtain ⟨o, rfl⟩ := Int.eq_ofNat_of_zero_le (show 0 ≤ other by omega)
  by_cases h2 : (size ≠ 1 ∧ size ≠ 2 ∧ size ≠ 4) ∨ (p : Int) % size ≠ 0
  · exact physApart_size p o size v w (by omega) (by omega) h2
  have h3 : size = 1 ∨ size = 2 ∨ size = 4 := by omega
  have h4 : (p : Int) % size = 0 := Decidable.byContradiction (fun hc => h2 (.inr hc))
  rcases h3 with rfl | rfl | rfl
  · exact physApart_near1 p o v w (by omega) (by omega) h4
  · exact physApart_near2 p o v w (by omega) (by omega) h4
  · exact physApart_near4 p o v w (by omega) (by omega) h4

theorem physApart_walk : LawWalk 4 Try.f4 := by
  intro H enc W base args ds p hval hA
  rw [Try.params4] at hA hval
  obtain ⟨v0, v1, v2, v3, d0, d1, d2, d3, p0, p1, p2, p3, rfl, rfl, rfl, h0, h1, h2, h3⟩ := trodAll_four hA
  obtain ⟨a0, rfl, rfl, rfl, w0⟩ := open_int Try.underlying3 (hval 0 3 v0 rfl rfl) h0
  obtain ⟨a1, rfl, rfl, rfl, w1⟩ := open_int Try.underlying3 (hval 1 3 v1 rfl rfl) h1
  obtain ⟨a2, rfl, rfl, rfl, w2⟩ := open_int Try.underlying3 (hval 2 3 v2 rfl rfl) h2
  obtain ⟨a3, rfl, rfl, rfl, w3⟩ := open_int Try.underlying3 (hval 3 3 v3 rfl rfl) h3
  exact physApart_any a0 a1 a2 a3 W

set_option maxRecDepth 100000 in
theorem physApart_lifted (os : Os) (started : os.Started) (H : Type) (enc : TypeId × Value → H) :
    ReturnsInHanded {} Try.checked os 4 .any (Rows.physApartSpec.pre6 enc Try.prog Try.f4 Rows.physApartRow.domain false) (Rows.physApartSpec.post enc Try.prog Try.f4 false true false false) :=
  law_lifted (s := Rows.physApartSpec) Try.func4 (by kernel_rfl) rfl (by kernel_rfl) (by kernel_rfl)
    (fun H ds h => by
      match ds, h with
      | [d0, d1, d2, d3], _ => rfl)
    physApart_walk os started H enc
    (ChangeSpec.witness6 (enc := enc) (C := Try.checked) false ⟨#[], #[.int .i64 0, .int .i64 0, .int .i64 0, .int .i64 0], []⟩ 8 (by kernel_rfl) (by kernel_rfl) (by kernel_rfl) (by kernel_rfl))

/-- THE STATEMENT. -/
theorem physApart_holds : Rows.PhysApartSaid :=
  OpenClaim.holds_of_wide 4 Try.f4 rfl rfl rfl rfl rfl rfl rfl ⟨rfl, rfl, rfl, rfl, rfl⟩ rfl rfl rfl rfl rfl (by kernel_rfl) Try.func4 (by kernel_rfl)
    (of_decide_eq_true (by kernel_rfl)) (by unfold Func.isWrapper; first | (rw [if_pos (by decide +kernel)]; kernel_rfl) | (rw [if_neg (by decide +kernel)]; exact ⟨rfl, rfl⟩))
    (fun os started H enc _ => physApart_lifted os started H enc)
#print axioms physApart_holds
end Go.Proofs.Ytmkhpahkcicfnaa

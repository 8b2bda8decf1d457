/- PhysHalves: a number of four bytes is its halves, its quarters, the lowest first. For every address and every value. -/
import Derived.Test.YtmkhpahkcicfnaaRow
import Derived.Test.YtmkhpahkcicfnaaPhysAlive
namespace Go.Proofs.Ytmkhpahkcicfnaa
open Go.ChangeShapes Go.WideShapes Go.ChangeAt Go.RowKit

theorem ldV_yes {n : Nat} {f : Nat → Int} {p s : Nat} (h : okB n p s = true) : ldV n f p s = leN f p s := by
  unfold ldV; rw [if_pos h]; rfl

theorem okB_of {n : Nat} {addr size : Int} (h1 : size = 1 ∨ size = 2 ∨ size = 4) (h2 : 0 ≤ addr) (h3 : addr % size = 0) (h4 : addr + size ≤ n) : okB n addr size = true := decide_eq_true ⟨h1, h2, h3, h4⟩

theorem stN_at (f : Nat → Int) (p m i : Nat) (v : Int) (h : i < m) : stN f p m v (p + i) = byteN v i := by
  unfold stN; rw [if_pos (by omega), Nat.add_sub_cancel_left]

theorem byteN_all (v : Int) : byteN v 0 + 256 * (byteN v 1 + 256 * (byteN v 2 + 256 * (byteN v 3 + 256 * 0))) = v % 4294967296 := by
  unfold byteN
  simp only [Nat.mul_zero, Nat.mul_one, Nat.reduceMul, Int.reducePow]
  omega

theorem le4_at (f : Nat → Int) (p : Nat) (v : Int) : leN (stN f p 4 v) p 4 = v % 4294967296 := by
  rw [← byteN_all v]
  simp only [leN]
  rw [show stN f p 4 v p = byteN v 0 from stN_at f p 4 0 v (by decide), show stN f p 4 v (p + 1) = byteN v 1 from stN_at f p 4 1 v (by decide),
    show stN f p 4 v (p + 1 + 1) = byteN v 2 from stN_at f p 4 2 v (by decide), show stN f p 4 v (p + 1 + 1 + 1) = byteN v 3 from stN_at f p 4 3 v (by decide)]
theorem le2_at (f : Nat → Int) (p : Nat) (v : Int) : leN (stN f p 4 v) p 2 = v % 65536 := by
  simp only [leN]
  rw [show stN f p 4 v p = byteN v 0 from stN_at f p 4 0 v (by decide), show stN f p 4 v (p + 1) = byteN v 1 from stN_at f p 4 1 v (by decide)]
  unfold byteN
  simp only [Nat.mul_zero, Nat.mul_one, Int.reducePow]
  omega
theorem le2_at2 (f : Nat → Int) (p : Nat) (v : Int) : leN (stN f p 4 v) (p + 2) 2 = v / 65536 % 65536 := by
  simp only [leN]
  rw [show stN f p 4 v (p + 2) = byteN v 2 from stN_at f p 4 2 v (by decide), show stN f p 4 v (p + 2 + 1) = byteN v 3 from stN_at f p 4 3 v (by decide)]
  unfold byteN
  simp only [Nat.reduceMul, Int.reducePow]
  omega

theorem or_half (x y : Int) (h0 : 0 ≤ x) (h1 : x < 65536) (h2 : 0 ≤ y) (h3 : y < 65536) : bits .or .i64 x (y * 65536) = x + y * 65536 := by
  have hb := (bits_nat .i64 62 (by decide) (fun n _ _ => by rw [IntKind.wrap_i64]; omega) x.toNat (y * 65536).toNat (by omega) (by omega)).2
  have hb2 := (bits_nat .i64 62 (by decide) (fun n _ _ => by rw [IntKind.wrap_i64]; omega) (y * 65536).toNat x.toNat (by omega) (by omega)).2
  rw [Int.toNat_of_nonneg h0, Int.toNat_of_nonneg (by omega)] at hb hb2
  rw [hb, Nat.or_comm, ← hb2, bits_join .i64 62 (by decide) (fun n _ _ => by rw [IntKind.wrap_i64]; omega) 16 (y * 65536) x (by omega) (by omega) (by omega) h0 h1 (by omega)]
  omega

set_option maxHeartbeats 400000 in
theorem refW (n : Int) (w : World) : Calls Try.prog 19 #[.int .i64 n] w fun e w' => e = .returned (.int .i64 (n % 4294967296)) ∧ w = w' := by
  have e1 := and32 n
  go_enter Try.func19, Try.ntmps19
  go_wp2
  go_ret
  exact ⟨rfl, rfl⟩

set_option maxHeartbeats 400000 in
theorem physHalves_far (addr v : Int) (w : World) (h : addr < 0 ∨ 1000 < addr) :
    Calls Try.prog 3 #[.int .i64 addr, .int .i64 v] w fun e w' => e = .returned (.bool true) ∧ Below w.heap.size w w' := by
  rcases h with h | h
  all_goals
    go_enter Try.func3, Try.ntmps3
    go_wp2_with (go_at_call 15; refine (alive4 _).mono ?_; rintro e w1 ⟨rfl, B1⟩)
    go_ret
    exact ⟨rfl, B1⟩

set_option maxHeartbeats 1000000 in
theorem physHalves_near (q : Nat) (v : Int) (w : World) (h : q ≤ 1000) :
    Calls Try.prog 3 #[.int .i64 q, .int .i64 v] w fun e w' => e = .returned (.bool true) ∧ Below w.heap.size w w' := by
  obtain ⟨f, hf⟩ : ∃ f, stN (fun _ => 0) (q * 4) 4 v = f := ⟨_, rfl⟩
  have H4 : Hid (leN f (q * 4) 4 = v % 4294967296) := by rw [← hf]; exact le4_at _ _ _
  have H2 : Hid (leN f (q * 4) 2 = v % 65536) := by rw [← hf]; exact le2_at _ _ _
  have H22 : Hid (leN f (q * 4 + 2) 2 = v / 65536 % 65536) := by rw [← hf]; exact le2_at2 _ _ _
  have HF := Lib.hid hf
  clear hf
  go_enter Try.func3, Try.ntmps3
  go_wp2_with fail
  refine (alive4 _).mono ?_
  rintro e w1 ⟨rfl, B1⟩
  go_wp2_with fail
  refine (new_at 2 8192 pgN_two _).mono ?_
  rintro e w2 ⟨a, b, rfl, M2, C2, ha, hb⟩
  go_wp2_with fail
  refine (store_at M2 ((q : Int) * 4) 4 v true (okB_of (by omega) (by omega) (by omega) (by omega))).mono ?_
  rintro e w3 ⟨rfl, M3, C3⟩
  have M : Mem 61 w3 a b 8192 f := by
    have h1 : stV 8192 (fun _ => 0) ((q : Int) * 4) 4 v = f := by
      unfold stV
      rw [if_pos (okB_of (by omega) (by omega) (by omega) (by omega)), show ((q : Int) * 4).toNat = q * 4 from by omega]
      exact HF.out
    rw [← h1]; exact M3
  clear M3
  go_wp2_with fail
  refine (load_at M ((q : Int) * 4) 2 (v % 65536) true (okB_of (by omega) (by omega) (by omega) (by omega)) ?_).mono ?_
  · have := ldV_yes (n := 8192) (f := f) (p := q * 4) (s := 2) (okB_of (by omega) (by omega) (by omega) (by omega))
    rw [← H2.out]; exact this
  rintro e w4 ⟨rfl, rfl⟩
  go_wp2_with fail
  refine (load_at M ((q : Int) * 4 + 2) 2 (v / 65536 % 65536) true (okB_of (by omega) (by omega) (by omega) (by omega)) ?_).mono ?_
  · have := ldV_yes (n := 8192) (f := f) (p := q * 4 + 2) (s := 2) (okB_of (by omega) (by omega) (by omega) (by omega))
    rw [← H22.out]; exact this
  rintro e w4 ⟨rfl, rfl⟩
  go_wp2_with fail
  go_loop [11, 12] (fun n i => ∃ k : Nat, k ≤ 4 ∧ i = .int .i64 ((k : Int) - 1) ∧ n = .int .i64 (leN f (q * 4 + k) (4 - k))) (fun _ i => (intOf i + 1).toNat)
  case atStart => exact ⟨4, Nat.le_refl _, rfl, rfl⟩
  case round =>
    obtain ⟨k, hk, rfl, rfl⟩ := hrel
    have hlb := leN_lt f 8192 M.rng (q * 4 + k) (4 - k) (by omega) (by omega)
    by_cases hlt : 0 < k
    · have hfb := M.rng (q * 4 + (k - 1)) (by omega)
      have HO := Lib.hid (or_byte (leN f (q * 4 + k) (4 - k)) (f (q * 4 + (k - 1))) hlb.1 hlb.2 hfb.1 hfb.2)
      have hok : okB 8192 ((q : Int) * 4 + ((k : Int) - 1)) 1 = true := okB_of (by omega) (by omega) (by omega) (by omega)
      have hld : ldV 8192 f ((q : Int) * 4 + ((k : Int) - 1)) 1 = f (q * 4 + (k - 1)) := by
        unfold ldV
        rw [if_pos hok, show ((q : Int) * 4 + ((k : Int) - 1)).toNat = q * 4 + (k - 1) from by omega]
        show f _ + 256 * 0 = _
        omega
      have HC := load_at M ((q : Int) * 4 + ((k : Int) - 1)) 1 _ true hok hld
      clear hok hld
      go_wp2_with (go_at_call 18; refine HC.mono ?_; rintro e w4 ⟨rfl, rfl⟩)
      go_round
      case rel => exact ⟨k - 1, by omega, int_eq (by omega), by rw [HO.out, leN_step f (q * 4) k 4 hlt hk]; exact int_eq (by omega)⟩
      case measure => simp [intOf]; omega
    · have h0 : k = 0 := by omega
      subst h0
      have HC := load_at M ((q : Int) * 4) 4 (v % 4294967296) true (okB_of (by omega) (by omega) (by omega) (by omega)) (by
        have := ldV_yes (n := 8192) (f := f) (p := q * 4) (s := 4) (okB_of (by omega) (by omega) (by omega) (by omega))
        rw [← H4.out]; exact this)
      have E1 : leN f (q * 4) 4 = v % 4294967296 := H4.out
      have E2 : bits .or .i64 (v % 65536) (v / 65536 % 65536 * 65536) = v % 4294967296 := by
        rw [or_half _ _ (by omega) (by omega) (by omega) (by omega)]; omega
      clear hlb
      go_wp2_with (first
        | (go_at_call 18; refine HC.mono ?_; rintro e w4 ⟨rfl, rfl⟩)
        | (go_at_call 19; refine (refW _ _).mono ?_; rintro e w4 ⟨rfl, rfl⟩))
      go_ret
      refine ⟨rfl, ?_⟩
      exact (B1.trans ((C2.below_of (Nat.le_refl _) (fun _ h => h.elim)).mono B1.size)).trans (C3.below_of (Nat.le_trans B1.size C2.size) (fun k h => by have := B1.size; omega))

theorem physHalves_any (addr v : Int) (w : World) :
    Calls Try.prog 3 #[.int .i64 addr, .int .i64 v] w fun e w' => e = .returned (.bool true) ∧ Below w.heap.size w w' := by
  by_cases h : addr < 0 ∨ 1000 < addr
  · exact physHalves_far addr v w h
  · obtain ⟨q, rfl⟩ := Int.eq_ofNat_of_zero_le (show 0 ≤ addr by omega)
    exact physHalves_near q v w (by omega)

theorem physHalves_walk : LawWalk 3 Try.f3 := by
  intro H enc W base args ds p hval hA
  rw [Try.params3] at hA hval
  obtain ⟨v0, v1, d0, d1, p0, p1, rfl, rfl, rfl, h0, h1⟩ := trodAll_two hA
  obtain ⟨a0, rfl, rfl, rfl, w0⟩ := open_int Try.underlying3 (hval 0 3 v0 rfl rfl) h0
  obtain ⟨a1, rfl, rfl, rfl, w1⟩ := open_int Try.underlying3 (hval 1 3 v1 rfl rfl) h1
  exact physHalves_any a0 a1 W

set_option maxRecDepth 100000 in
theorem physHalves_lifted (os : Os) (started : os.Started) (H : Type) (enc : TypeId × Value → H) :
    ReturnsInHanded {} Try.checked os 3 .any (Rows.physHalvesSpec.pre6 enc Try.prog Try.f3 Rows.physHalvesRow.domain false) (Rows.physHalvesSpec.post enc Try.prog Try.f3 false true false false) :=
  law_lifted (s := Rows.physHalvesSpec) Try.func3 (by kernel_rfl) rfl (by kernel_rfl) (by kernel_rfl)
    (fun H ds h => by
      match ds, h with
      | [d0, d1], _ => rfl)
    physHalves_walk os started H enc
    (ChangeSpec.witness6 (enc := enc) (C := Try.checked) false ⟨#[], #[.int .i64 0, .int .i64 0], []⟩ 8 (by kernel_rfl) (by kernel_rfl) (by kernel_rfl) (by kernel_rfl))

/-- THE STATEMENT. -/
theorem physHalves_holds : Rows.PhysHalvesSaid :=
  OpenClaim.holds_of_wide 3 Try.f3 rfl rfl rfl rfl rfl rfl rfl ⟨rfl, rfl, rfl, rfl, rfl⟩ rfl rfl rfl rfl rfl (by kernel_rfl) Try.func3 (by kernel_rfl)
    (of_decide_eq_true (by kernel_rfl)) (by unfold Func.isWrapper; first | (rw [if_pos (by decide +kernel)]; kernel_rfl) | (rw [if_neg (by decide +kernel)]; exact ⟨rfl, rfl⟩))
    (fun os started H enc _ => physHalves_lifted os started H enc)
#print axioms physHalves_holds
end Go.Proofs.Ytmkhpahkcicfnaa

/- The reference's memory: NewMemory, Load, Store. -/
import Derived.Test.YtadcmelbcahecaaPhysNew
namespace Go.Proofs.Ytadcmelbcahecaa
open Go.RowKit

set_option maxHeartbeats 400000 in
theorem rnew_any (pages : Int) (w : World) :
    Calls Try.prog 24 #[.int .i64 pages] w fun e w' => ∃ a b, MemNew 76 w (pgN pages) e w' a b := by
  by_cases h1 : pages < 0
  · have hmk := mk_bytes 0 0 rfl (by decide)
    have HP : Hid (pgN pages = 0) := by show pgN pages = 0; unfold pgN; omega
    go_enter Try.func24, Try.ntmps24
    go_wp2
    go_ret
    rw [HP.out]
    exact ⟨_, _, memNew_of 76 w 0 (by omega) (by omega)⟩
  · obtain ⟨p, rfl⟩ := Int.eq_ofNat_of_zero_le (show 0 ≤ pages by omega)
    by_cases h2 : p ≤ 256
    · have hmk := mk_bytes ((p : Int) * 4096) (p * 4096) (by omega) (by omega)
      have HP : Hid (pgN p = p * 4096) := by show pgN p = p * 4096; unfold pgN; omega
      go_enter Try.func24, Try.ntmps24
      go_wp2
      go_ret
      rw [HP.out]
      exact ⟨_, _, memNew_of 76 w (p * 4096) (by omega) (by omega)⟩
    · have hmk := mk_bytes 1048576 1048576 rfl (by decide)
      have HP : Hid (pgN p = 1048576) := by show pgN p = 1048576; unfold pgN; omega
      go_enter Try.func24, Try.ntmps24
      go_wp2
      go_ret
      rw [HP.out]
      exact ⟨_, _, memNew_of 76 w 1048576 (by omega) (by omega)⟩

theorem rok_of {n : Nat} {addr size : Int} (hm : n % 4096 = 0) (h : (size = 1 ∨ size = 2 ∨ size = 4) ∧ 0 ≤ addr ∧ addr < n ∧ addr % size = 0) : okB n addr size = true := by
  obtain ⟨h1, h2, h3, h4⟩ := h
  refine decide_eq_true ⟨h1, h2, h4, ?_⟩
  rcases h1 with rfl | rfl | rfl <;> omega

set_option maxHeartbeats 400000 in
theorem rload_yes1 (a b n p : Nat) (f : Nat → Int) (w : World) (hc : w.cell? ⟨a, 0, none⟩ = some (.slice (some ⟨b, 0, none⟩) n n)) (hn : n ≤ 1048576) (h3 : (p : Int) % 1 = 0) (h4 : p + 1 ≤ n)
    (hr : ∀ i, i < n → w.cell? ⟨b, i, none⟩ = some (.int .u8 (f i))) (hf : ∀ i, i < n → 0 ≤ f i ∧ f i < 256) :
    Calls Try.prog 27 #[.pointer (some ⟨a, 0, none⟩), .int .i64 p, .int .i64 1] w fun e w' => e = .returned (.tuple #[.int .i64 (leN f p 1), .bool true]) ∧ w = w' := by
  have HR := Lib.hid hr
  have HF := Lib.hid hf
  have e4 : ((p : Int) % 1 != 0) = false := by rw [h3]; rfl
  have e5 : decide ((p : Int) < 0) = false := decide_eq_false (by omega)
  have e6 : decide (n ≤ p) = false := decide_eq_false (by omega)
  have hpn : p < n := by omega
  clear hr hf h3
  go_enter Try.func27, Try.ntmps27
  go_wp2
  go_loop [8, 9] (fun v i => ∃ k : Nat, k ≤ 1 ∧ i = .int .i64 ((k : Int) - 1) ∧ v = .int .i64 (leN f (p + k) (1 - k))) (fun _ i => (intOf i + 1).toNat)
  case atStart => exact ⟨1, Nat.le_refl _, rfl, by rw [Nat.sub_self]; rfl⟩
  case round =>
    obtain ⟨k, hk, rfl, rfl⟩ := hrel
    have hlb := leN_lt f n HF.out (p + k) (1 - k) (by omega) (by omega)
    by_cases hlt : 0 < k
    · have hcell : w.cell? ⟨b, p, none⟩ = some (.int .u8 (f p)) := HR.out _ (by omega)
      obtain rfl : k = 1 := by omega
      have hfb := HF.out p (by omega)
      have e0 : leN f (p + 1) 0 = 0 := rfl
      have e7 : bits .or .i64 0 (f p) = f p := by have := or_byte 0 (f p) (by omega) (by omega) hfb.1 hfb.2; simpa using this
      clear hlb
      go_wp2
      go_round
      case rel => exact ⟨0, by omega, rfl, by show _ = Value.int .i64 (f p + 256 * 0); simp [e7]⟩
      case measure => simp [intOf]
    · have h0 : k = 0 := by omega
      subst h0
      go_wp2
      go_ret2
      exact ⟨rfl, rfl⟩

set_option maxHeartbeats 400000 in
theorem rstore_yes1 (a b n p : Nat) (f : Nat → Int) (v : Int) (w : World) (M : Mem 76 w a b n f) (h3 : (p : Int) % 1 = 0) (h4 : p + 1 ≤ n) :
    Calls Try.prog 26 #[.pointer (some ⟨a, 0, none⟩), .int .i64 p, .int .i64 1, .int .i64 v] w fun e w' => e = .returned (.bool true) ∧ Mem 76 w' a b n (stN f p 1 v) ∧ Chg w w' (fun k => k = b) := by
  have hn := M.le
  have hc := M.cell0
  have e4 : ((p : Int) % 1 != 0) = false := by rw [h3]; rfl
  have e5 : decide ((p : Int) < 0) = false := decide_eq_false (by omega)
  have e6 : decide (n ≤ p) = false := decide_eq_false (by omega)
  have hpn : p < n := by omega
  clear h3
  go_enter Try.func26, Try.ntmps26
  go_wp2
  clear hc
  go_loopw [9] (fun i wr => ∃ k : Nat, k ≤ 1 ∧ i = .int .i64 (k : Int) ∧ Mem 76 wr a b n (stN f p k v) ∧ Chg w wr (fun k => k = b)) (fun i _ => 1 - (intOf i).toNat)
  case atStart => exact ⟨0, by omega, rfl, M.congr (fun i _ => by unfold stN; rw [if_neg (by omega)]), Chg.refl _ _⟩
  case round =>
    obtain ⟨k, hk, rfl, Mk, Ck⟩ := hrel
    by_cases hlt : k < 1
    · have hc := Mk.cell0
      have hcell := Mk.cell (p + k) (by omega)
      have hfr := Mk.row.frozen (p + k)
      have hst := Mk.setb (p + k) (byteN v k) (byteN_rng v k)
      have hb := byteN_rng v k
      have hand : bits .and .i64 (v / 2 ^ (8 * k)) 255 = byteN v k := and255 _
      rw [stN_step] at hst
      have hch := Ck.setCell (p := ⟨b, p + k, none⟩) (fun _ => rfl) (.int .u8 (byteN v k))
      go_wp2
      go_roundw
      case rel => exact ⟨k + 1, by omega, by go_num, hst, hch⟩
      case measure => simp [intOf]; omega
    · have h0 : k = 1 := by omega
      subst h0
      go_wp2
      go_ret
      exact ⟨rfl, Mk, Ck⟩

set_option maxHeartbeats 400000 in
theorem rload_yes2 (a b n p : Nat) (f : Nat → Int) (w : World) (hc : w.cell? ⟨a, 0, none⟩ = some (.slice (some ⟨b, 0, none⟩) n n)) (hn : n ≤ 1048576) (h3 : (p : Int) % 2 = 0) (h4 : p + 2 ≤ n)
    (hr : ∀ i, i < n → w.cell? ⟨b, i, none⟩ = some (.int .u8 (f i))) (hf : ∀ i, i < n → 0 ≤ f i ∧ f i < 256) :
    Calls Try.prog 27 #[.pointer (some ⟨a, 0, none⟩), .int .i64 p, .int .i64 2] w fun e w' => e = .returned (.tuple #[.int .i64 (leN f p 2), .bool true]) ∧ w = w' := by
  have HR := Lib.hid hr
  have HF := Lib.hid hf
  have e4 : ((p : Int) % 2 != 0) = false := by rw [h3]; rfl
  have e5 : decide ((p : Int) < 0) = false := decide_eq_false (by omega)
  have e6 : decide (n ≤ p) = false := decide_eq_false (by omega)
  have hpn : p < n := by omega
  clear hr hf h3
  go_enter Try.func27, Try.ntmps27
  go_wp2
  go_loop [8, 9] (fun v i => ∃ k : Nat, k ≤ 2 ∧ i = .int .i64 ((k : Int) - 1) ∧ v = .int .i64 (leN f (p + k) (2 - k))) (fun _ i => (intOf i + 1).toNat)
  case atStart => exact ⟨2, Nat.le_refl _, rfl, by rw [Nat.sub_self]; rfl⟩
  case round =>
    obtain ⟨k, hk, rfl, rfl⟩ := hrel
    have hlb := leN_lt f n HF.out (p + k) (2 - k) (by omega) (by omega)
    by_cases hlt : 0 < k
    · have hcell : w.cell? ⟨b, p + (k - 1), none⟩ = some (.int .u8 (f (p + (k - 1)))) := HR.out _ (by omega)
      have hfb := HF.out (p + (k - 1)) (by omega)
      have HO := Lib.hid (or_byte (leN f (p + k) (2 - k)) (f (p + (k - 1))) hlb.1 hlb.2 hfb.1 hfb.2)
      go_wp2
      go_round
      case rel => exact ⟨k - 1, by omega, int_eq (by omega), by rw [HO.out, leN_step f p k 2 hlt hk]; exact int_eq (by omega)⟩
      case measure => simp [intOf]; omega
    · have h0 : k = 0 := by omega
      subst h0
      go_wp2
      go_ret2
      exact ⟨rfl, rfl⟩

set_option maxHeartbeats 400000 in
theorem rstore_yes2 (a b n p : Nat) (f : Nat → Int) (v : Int) (w : World) (M : Mem 76 w a b n f) (h3 : (p : Int) % 2 = 0) (h4 : p + 2 ≤ n) :
    Calls Try.prog 26 #[.pointer (some ⟨a, 0, none⟩), .int .i64 p, .int .i64 2, .int .i64 v] w fun e w' => e = .returned (.bool true) ∧ Mem 76 w' a b n (stN f p 2 v) ∧ Chg w w' (fun k => k = b) := by
  have hn := M.le
  have hc := M.cell0
  have e4 : ((p : Int) % 2 != 0) = false := by rw [h3]; rfl
  have e5 : decide ((p : Int) < 0) = false := decide_eq_false (by omega)
  have e6 : decide (n ≤ p) = false := decide_eq_false (by omega)
  have hpn : p < n := by omega
  clear h3
  go_enter Try.func26, Try.ntmps26
  go_wp2
  clear hc
  go_loopw [9] (fun i wr => ∃ k : Nat, k ≤ 2 ∧ i = .int .i64 (k : Int) ∧ Mem 76 wr a b n (stN f p k v) ∧ Chg w wr (fun k => k = b)) (fun i _ => 2 - (intOf i).toNat)
  case atStart => exact ⟨0, by omega, rfl, M.congr (fun i _ => by unfold stN; rw [if_neg (by omega)]), Chg.refl _ _⟩
  case round =>
    obtain ⟨k, hk, rfl, Mk, Ck⟩ := hrel
    by_cases hlt : k < 2
    · have hc := Mk.cell0
      have hcell := Mk.cell (p + k) (by omega)
      have hfr := Mk.row.frozen (p + k)
      have hst := Mk.setb (p + k) (byteN v k) (byteN_rng v k)
      have hb := byteN_rng v k
      have hand : bits .and .i64 (v / 2 ^ (8 * k)) 255 = byteN v k := and255 _
      rw [stN_step] at hst
      have hch := Ck.setCell (p := ⟨b, p + k, none⟩) (fun _ => rfl) (.int .u8 (byteN v k))
      go_wp2
      go_roundw
      case rel => exact ⟨k + 1, by omega, by go_num, hst, hch⟩
      case measure => simp [intOf]; omega
    · have h0 : k = 2 := by omega
      subst h0
      go_wp2
      go_ret
      exact ⟨rfl, Mk, Ck⟩

set_option maxHeartbeats 400000 in
theorem rload_yes4 (a b n p : Nat) (f : Nat → Int) (w : World) (hc : w.cell? ⟨a, 0, none⟩ = some (.slice (some ⟨b, 0, none⟩) n n)) (hn : n ≤ 1048576) (h3 : (p : Int) % 4 = 0) (h4 : p + 4 ≤ n)
    (hr : ∀ i, i < n → w.cell? ⟨b, i, none⟩ = some (.int .u8 (f i))) (hf : ∀ i, i < n → 0 ≤ f i ∧ f i < 256) :
    Calls Try.prog 27 #[.pointer (some ⟨a, 0, none⟩), .int .i64 p, .int .i64 4] w fun e w' => e = .returned (.tuple #[.int .i64 (leN f p 4), .bool true]) ∧ w = w' := by
  have HR := Lib.hid hr
  have HF := Lib.hid hf
  have e4 : ((p : Int) % 4 != 0) = false := by rw [h3]; rfl
  have e5 : decide ((p : Int) < 0) = false := decide_eq_false (by omega)
  have e6 : decide (n ≤ p) = false := decide_eq_false (by omega)
  have hpn : p < n := by omega
  clear hr hf h3
  go_enter Try.func27, Try.ntmps27
  go_wp2
  go_loop [8, 9] (fun v i => ∃ k : Nat, k ≤ 4 ∧ i = .int .i64 ((k : Int) - 1) ∧ v = .int .i64 (leN f (p + k) (4 - k))) (fun _ i => (intOf i + 1).toNat)
  case atStart => exact ⟨4, Nat.le_refl _, rfl, by rw [Nat.sub_self]; rfl⟩
  case round =>
    obtain ⟨k, hk, rfl, rfl⟩ := hrel
    have hlb := leN_lt f n HF.out (p + k) (4 - k) (by omega) (by omega)
    by_cases hlt : 0 < k
    · have hcell : w.cell? ⟨b, p + (k - 1), none⟩ = some (.int .u8 (f (p + (k - 1)))) := HR.out _ (by omega)
      have hfb := HF.out (p + (k - 1)) (by omega)
      have HO := Lib.hid (or_byte (leN f (p + k) (4 - k)) (f (p + (k - 1))) hlb.1 hlb.2 hfb.1 hfb.2)
      go_wp2
      go_round
      case rel => exact ⟨k - 1, by omega, int_eq (by omega), by rw [HO.out, leN_step f p k 4 hlt hk]; exact int_eq (by omega)⟩
      case measure => simp [intOf]; omega
    · have h0 : k = 0 := by omega
      subst h0
      go_wp2
      go_ret2
      exact ⟨rfl, rfl⟩

set_option maxHeartbeats 400000 in
theorem rstore_yes4 (a b n p : Nat) (f : Nat → Int) (v : Int) (w : World) (M : Mem 76 w a b n f) (h3 : (p : Int) % 4 = 0) (h4 : p + 4 ≤ n) :
    Calls Try.prog 26 #[.pointer (some ⟨a, 0, none⟩), .int .i64 p, .int .i64 4, .int .i64 v] w fun e w' => e = .returned (.bool true) ∧ Mem 76 w' a b n (stN f p 4 v) ∧ Chg w w' (fun k => k = b) := by
  have hn := M.le
  have hc := M.cell0
  have e4 : ((p : Int) % 4 != 0) = false := by rw [h3]; rfl
  have e5 : decide ((p : Int) < 0) = false := decide_eq_false (by omega)
  have e6 : decide (n ≤ p) = false := decide_eq_false (by omega)
  have hpn : p < n := by omega
  clear h3
  go_enter Try.func26, Try.ntmps26
  go_wp2
  clear hc
  go_loopw [9] (fun i wr => ∃ k : Nat, k ≤ 4 ∧ i = .int .i64 (k : Int) ∧ Mem 76 wr a b n (stN f p k v) ∧ Chg w wr (fun k => k = b)) (fun i _ => 4 - (intOf i).toNat)
  case atStart => exact ⟨0, by omega, rfl, M.congr (fun i _ => by unfold stN; rw [if_neg (by omega)]), Chg.refl _ _⟩
  case round =>
    obtain ⟨k, hk, rfl, Mk, Ck⟩ := hrel
    by_cases hlt : k < 4
    · have hc := Mk.cell0
      have hcell := Mk.cell (p + k) (by omega)
      have hfr := Mk.row.frozen (p + k)
      have hst := Mk.setb (p + k) (byteN v k) (byteN_rng v k)
      have hb := byteN_rng v k
      have hand : bits .and .i64 (v / 2 ^ (8 * k)) 255 = byteN v k := and255 _
      rw [stN_step] at hst
      have hch := Ck.setCell (p := ⟨b, p + k, none⟩) (fun _ => rfl) (.int .u8 (byteN v k))
      go_wp2
      go_roundw
      case rel => exact ⟨k + 1, by omega, by go_num, hst, hch⟩
      case measure => simp [intOf]; omega
    · have h0 : k = 4 := by omega
      subst h0
      go_wp2
      go_ret
      exact ⟨rfl, Mk, Ck⟩

set_option maxHeartbeats 400000 in
theorem rload_no (a b n : Nat) (addr size : Int) (w : World) (hc : w.cell? ⟨a, 0, none⟩ = some (.slice (some ⟨b, 0, none⟩) n n)) (hn : n ≤ 1048576) (hm : n % 4096 = 0) (h : okB n addr size = false) :
    Calls Try.prog 27 #[.pointer (some ⟨a, 0, none⟩), .int .i64 addr, .int .i64 size] w fun e w' => e = .returned (.tuple #[.int .i64 0, .bool false]) ∧ w = w' := by
  have h' : ¬ ((size = 1 ∨ size = 2 ∨ size = 4) ∧ 0 ≤ addr ∧ addr < n ∧ addr % size = 0) := fun h2 => by rw [rok_of hm h2] at h; cases h
  clear h hm
  by_cases h1 : size = 1 ∨ size = 2 ∨ size = 4
  · by_cases h2 : 0 ≤ addr
    · obtain ⟨p, rfl⟩ := Int.eq_ofNat_of_zero_le h2
      by_cases h3 : p < n
      · rcases h1 with rfl | rfl | rfl
        · exact absurd ⟨.inl rfl, h2, by omega, by omega⟩ h'
        · have e4 : ((p : Int) % 2 != 0) = true := by rw [bne_iff_ne]; exact fun h4 => h' ⟨by omega, h2, by omega, h4⟩
          clear h'
          go_enter Try.func27, Try.ntmps27
          go_wp2
          go_ret2
          exact ⟨rfl, rfl⟩
        · have e4 : ((p : Int) % 4 != 0) = true := by rw [bne_iff_ne]; exact fun h4 => h' ⟨by omega, h2, by omega, h4⟩
          clear h'
          go_enter Try.func27, Try.ntmps27
          go_wp2
          go_ret2
          exact ⟨rfl, rfl⟩
      · clear h'
        rcases h1 with rfl | rfl | rfl
        all_goals
          go_enter Try.func27, Try.ntmps27
          go_wp2
          go_ret2
          exact ⟨rfl, rfl⟩
    · clear h'
      rcases h1 with rfl | rfl | rfl
      all_goals
        go_enter Try.func27, Try.ntmps27
        go_wp2
        go_ret2
        exact ⟨rfl, rfl⟩
  · clear h'
    have e1 : (size != 1) = true := by rw [bne_iff_ne]; omega
    have e2 : (size != 2) = true := by rw [bne_iff_ne]; omega
    have e4 : (size != 4) = true := by rw [bne_iff_ne]; omega
    clear h1
    go_enter Try.func27, Try.ntmps27
    go_wp2
    go_ret2
    exact ⟨rfl, rfl⟩

set_option maxHeartbeats 400000 in
theorem rstore_no (a b n : Nat) (addr size v : Int) (w : World) (hc : w.cell? ⟨a, 0, none⟩ = some (.slice (some ⟨b, 0, none⟩) n n)) (hn : n ≤ 1048576) (hm : n % 4096 = 0) (h : okB n addr size = false) :
    Calls Try.prog 26 #[.pointer (some ⟨a, 0, none⟩), .int .i64 addr, .int .i64 size, .int .i64 v] w fun e w' => e = .returned (.bool false) ∧ w = w' := by
  have h' : ¬ ((size = 1 ∨ size = 2 ∨ size = 4) ∧ 0 ≤ addr ∧ addr < n ∧ addr % size = 0) := fun h2 => by rw [rok_of hm h2] at h; cases h
  clear h hm
  by_cases h1 : size = 1 ∨ size = 2 ∨ size = 4
  · by_cases h2 : 0 ≤ addr
    · obtain ⟨p, rfl⟩ := Int.eq_ofNat_of_zero_le h2
      by_cases h3 : p < n
      · rcases h1 with rfl | rfl | rfl
        · exact absurd ⟨.inl rfl, h2, by omega, by omega⟩ h'
        · have e4 : ((p : Int) % 2 != 0) = true := by rw [bne_iff_ne]; exact fun h4 => h' ⟨by omega, h2, by omega, h4⟩
          clear h'
          go_enter Try.func26, Try.ntmps26
          go_wp2
          go_ret
          exact ⟨rfl, rfl⟩
        · have e4 : ((p : Int) % 4 != 0) = true := by rw [bne_iff_ne]; exact fun h4 => h' ⟨by omega, h2, by omega, h4⟩
          clear h'
          go_enter Try.func26, Try.ntmps26
          go_wp2
          go_ret
          exact ⟨rfl, rfl⟩
      · clear h'
        rcases h1 with rfl | rfl | rfl
        all_goals
          go_enter Try.func26, Try.ntmps26
          go_wp2
          go_ret
          exact ⟨rfl, rfl⟩
    · clear h'
      rcases h1 with rfl | rfl | rfl
      all_goals
        go_enter Try.func26, Try.ntmps26
        go_wp2
        go_ret
        exact ⟨rfl, rfl⟩
  · clear h'
    have e1 : (size != 1) = true := by rw [bne_iff_ne]; omega
    have e2 : (size != 2) = true := by rw [bne_iff_ne]; omega
    have e4 : (size != 4) = true := by rw [bne_iff_ne]; omega
    clear h1
    go_enter Try.func26, Try.ntmps26
    go_wp2
    go_ret
    exact ⟨rfl, rfl⟩

/-- LOAD, the reference's. -/
theorem rload_any {a b n : Nat} {f : Nat → Int} {w : World} (M : Mem 76 w a b n f) (addr size : Int) :
    Calls Try.prog 27 #[.pointer (some ⟨a, 0, none⟩), .int .i64 addr, .int .i64 size] w fun e w' => e = .returned (.tuple #[.int .i64 (ldV n f addr size), .bool (okB n addr size)]) ∧ w = w' := by
  unfold ldV
  cases h : okB n addr size
  · exact rload_no a b n addr size w M.cell0 M.le M.mul h
  · obtain ⟨h1, h2, h3, h4⟩ := okB_true h
    obtain ⟨p, rfl⟩ := Int.eq_ofNat_of_zero_le h2
    rcases h1 with rfl | rfl | rfl
    · exact rload_yes1 a b n p f w M.cell0 M.le h3 (by omega) M.cell M.rng
    · exact rload_yes2 a b n p f w M.cell0 M.le h3 (by omega) M.cell M.rng
    · exact rload_yes4 a b n p f w M.cell0 M.le h3 (by omega) M.cell M.rng

/-- STORE, the reference's. -/
theorem rstore_any {a b n : Nat} {f : Nat → Int} {w : World} (M : Mem 76 w a b n f) (addr size v : Int) :
    Calls Try.prog 26 #[.pointer (some ⟨a, 0, none⟩), .int .i64 addr, .int .i64 size, .int .i64 v] w fun e w' =>
      e = .returned (.bool (okB n addr size)) ∧ Mem 76 w' a b n (stV n f addr size v) ∧ Chg w w' (fun k => k = b) := by
  unfold stV
  cases h : okB n addr size
  · exact (rstore_no a b n addr size v w M.cell0 M.le M.mul h).mono fun e w' ⟨he, hw⟩ => by subst hw; exact ⟨he, M, Chg.refl _ _⟩
  · obtain ⟨h1, h2, h3, h4⟩ := okB_true h
    obtain ⟨p, rfl⟩ := Int.eq_ofNat_of_zero_le h2
    rcases h1 with rfl | rfl | rfl
    · exact rstore_yes1 a b n p f v w M h3 (by omega)
    · exact rstore_yes2 a b n p f v w M h3 (by omega)
    · exact rstore_yes4 a b n p f v w M h3 (by omega)

end Go.Proofs.Ytadcmelbcahecaa

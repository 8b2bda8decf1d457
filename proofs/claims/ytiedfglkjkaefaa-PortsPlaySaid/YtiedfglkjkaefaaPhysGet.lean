/- phys: Get, Put; the reference's. -/
import Derived.Test.YtiedfglkjkaefaaClone
import Derived.Test.YtiedfglkjkaefaaRefMem
namespace Go.Proofs.Ytiedfglkjkaefaa
open Go.RowKit

/-- Are bytes there? -/
def okR (n : Nat) (addr m : Int) : Bool := decide (0 ≤ addr ∧ 0 ≤ m ∧ addr + m ≤ n)
theorem okR_true {n : Nat} {addr m : Int} (h : okR n addr m = true) : 0 ≤ addr ∧ 0 ≤ m ∧ addr + m ≤ n := of_decide_eq_true h
theorem okR_false {n : Nat} {addr m : Int} (h : okR n addr m = false) : ¬ (0 ≤ addr ∧ 0 ≤ m ∧ addr + m ≤ n) := of_decide_eq_false h

/-- How many bytes a Get tells. -/
def getN (n : Nat) (addr m : Int) : Nat := if okR n addr m = true then m.toNat else 0

set_option maxRecDepth 100000 in
set_option maxHeartbeats 400000 in
theorem there_any {a b n : Nat} {f : Nat → Int} {w : World} (M : Mem 92 w a b n f) (addr m : Int) :
    Calls Try.prog 41 #[.pointer (some ⟨a, 0, none⟩), .int .i64 addr, .int .i64 m] w fun e w' => e = .returned (.bool (okR n addr m)) ∧ w = w' := by
  have hc := M.cell0
  have hn := M.le
  by_cases h1 : 0 ≤ addr
  · by_cases h2 : 0 ≤ m
    · by_cases h3 : addr ≤ n
      · by_cases h4 : m ≤ n - addr
        · have HH : Hid (okR n addr m = true) := decide_eq_true (by omega)
          go_enter Try.func41, Try.ntmps41
          go_wp2
          go_ret
          exact ⟨ret_bool (by rw [HH.out]; try simp; try omega), rfl⟩
        · have HH : Hid (okR n addr m = false) := decide_eq_false (by omega)
          go_enter Try.func41, Try.ntmps41
          go_wp2
          go_ret
          exact ⟨ret_bool (by rw [HH.out]; try simp; try omega), rfl⟩
      · have HH : Hid (okR n addr m = false) := decide_eq_false (by omega)
        have hd : decide (addr ≤ (n : Int)) = false := decide_eq_false h3
        go_enter Try.func41, Try.ntmps41
        go_wp2
        go_ret
        exact ⟨ret_bool (by rw [HH.out]; try simp; try omega), rfl⟩
    · have HH : Hid (okR n addr m = false) := decide_eq_false (by omega)
      have hd : decide (0 ≤ m) = false := decide_eq_false h2
      go_enter Try.func41, Try.ntmps41
      go_wp2
      go_ret
      exact ⟨ret_bool (by rw [HH.out]; try simp; try omega), rfl⟩
  · have HH : Hid (okR n addr m = false) := decide_eq_false (by omega)
    have hd : decide (0 ≤ addr) = false := decide_eq_false h1
    go_enter Try.func41, Try.ntmps41
    go_wp2
    go_ret
    exact ⟨ret_bool (by rw [HH.out]; try simp; try omega), rfl⟩

theorem mem_src {t : TypeId} {a b n : Nat} {f : Nat → Int} {w : World} (M : Mem t w a b n f) (p m c : Nat) (h : p + m ≤ n) : Src w (some ⟨b, p, none⟩) m c (u8s (sl f p m)) 1 := by
  refine ⟨by simp [u8s, sl], fun h => (by cases h), fun ad he j u hu => ?_⟩
  injection he with he
  subst he
  obtain ⟨hj, rfl⟩ := u8s_get hu
  rw [sl_length] at hj
  rw [Addr.add_lit, M.cell (p + j) (by omega), sl_getD _ _ _ _ hj]

set_option maxRecDepth 100000 in
set_option maxHeartbeats 400000 in
theorem get_yes (a b n p m : Nat) (f : Nat → Int) (w : World) (M : Mem 92 w a b n f) (h : p + m ≤ n) :
    Calls Try.prog 19 #[.pointer (some ⟨a, 0, none⟩), .int .i64 p, .int .i64 m] w fun e w' => ∃ ao cap, Made w 5 1 m (u8s (sl f p m)) e w' ao cap := by
  have hc := M.cell0
  have hn := M.le
  have HT := (there_any M p m)
  have hok : okR n p m = true := decide_eq_true (by omega)
  rw [hok] at HT
  clear hok
  have HC : ∀ k, k + m ≤ n → (m = 0 ∨ k = p) → Calls Try.prog 35 #[.slice (some ⟨b, k, none⟩) m m] w fun e w' => ∃ ao cap, Made w 5 1 m (u8s (sl f p m)) e w' ao cap := by
    intro k hk he
    have hx : sl f p m = sl f k m := by
      rcases he with rfl | rfl
      · rfl
      · rfl
    rw [hx]
    exact clone_any (mem_src M k m m hk) (by omega)
  by_cases hm : m = 0
  · subst hm
    have HC0 := HC 0 (by omega) (.inl rfl)
    clear HC
    go_enter Try.func19, Try.ntmps19
    go_wp2_with (first | (go_at_call 41; refine HT.mono ?_; rintro e w' ⟨rfl, rfl⟩) | (go_at_call 35; refine HC0.mono ?_; rintro e w' ⟨ao, cap, rfl, ho, hch⟩))
    go_ret
    exact ⟨ao, cap, rfl, ho, hch⟩
  · have HC0 := HC p h (.inr rfl)
    clear HC
    go_enter Try.func19, Try.ntmps19
    go_wp2_with (first | (go_at_call 41; refine HT.mono ?_; rintro e w' ⟨rfl, rfl⟩) | (go_at_call 35; refine HC0.mono ?_; rintro e w' ⟨ao, cap, rfl, ho, hch⟩))
    go_ret
    exact ⟨ao, cap, rfl, ho, hch⟩

/-- GET. -/
theorem get_any {a b n : Nat} {f : Nat → Int} {w : World} (M : Mem 92 w a b n f) (addr m : Int) :
    Calls Try.prog 19 #[.pointer (some ⟨a, 0, none⟩), .int .i64 addr, .int .i64 m] w fun e w' => ∃ ao cap, Made w 5 1 (getN n addr m) (u8s (sl f addr.toNat (getN n addr m))) e w' ao cap := by
  unfold getN
  cases h : okR n addr m
  · have HT := (there_any M addr m)
    rw [h] at HT
    clear h
    go_enter Try.func19, Try.ntmps19
    go_wp2_with (go_at_call 41; refine HT.mono ?_; rintro e w' ⟨rfl, rfl⟩)
    go_ret
    exact ⟨none, 0, rfl, World.ownsRow_nil _ _ _ _, Chg.refl _ _⟩
  · obtain ⟨h1, h2, h3⟩ := okR_true h
    obtain ⟨p, rfl⟩ := Int.eq_ofNat_of_zero_le h1
    obtain ⟨k, rfl⟩ := Int.eq_ofNat_of_zero_le h2
    exact get_yes a b n p k f w M (by omega)

/-- The reference's GET. -/
theorem rget_src (a b n p m : Nat) (f : Nat → Int) (w : World) (M : Mem 65 w a b n f) (h : p + m ≤ n) : Src w (some ⟨b, p, none⟩) m (n - p) (u8s (sl f p m)) 1 := mem_src M p m _ h

set_option maxRecDepth 100000 in
set_option maxHeartbeats 400000 in
theorem rget_yes (a b n p m : Nat) (f : Nat → Int) (w : World) (M : Mem 65 w a b n f) (h : p + m ≤ n) :
    Calls Try.prog 44 #[.pointer (some ⟨a, 0, none⟩), .int .i64 p, .int .i64 m] w fun e w' => ∃ ao cap, Made w 5 1 m (u8s (sl f p m)) e w' ao cap := by
  obtain ⟨i0, hi, hz0, hz1, hz2⟩ := info_parts info_u8
  have hc := M.cell0
  have hn := M.le
  by_cases hnp : n = p
  · subst hnp
    obtain rfl : m = 0 := by omega
    go_enter Try.func44, Try.ntmps44
    go_wp2
    go_ret
    exact ⟨none, 0, rfl, World.ownsRow_nil _ _ _ _, Chg.refl _ _⟩
  · have hs : Src w (some ⟨b, p, none⟩) (p + m - p) (n - p) (u8s (sl f p m)) 1 := by rw [Nat.add_sub_cancel_left]; exact rget_src a b n p m f w M h
    have d1 : decide ((p : Int) < 0) = false := decide_eq_false (by omega)
    have d2 : decide ((m : Int) < 0) = false := decide_eq_false (by omega)
    have d3 : decide (n < p) = false := decide_eq_false (by omega)
    have d4 : decide ((n : Int) - p < m) = false := decide_eq_false (by omega)
    go_enter Try.func44, Try.ntmps44
    go_wp2_with (at_builtin; refine wpList_append_src _ rfl (.const (.slice none 0 0)) (.tmp 41) _ rfl w.heap.size 5 i0 _ 1 1 Try.underlying22 hi hz0 hz1 hz2 rfl (by omega) _ 0 [] rfl (World.ownsRow_nil _ _ _ _) (some ⟨b, p, none⟩) (p + m - p) (n - p) (u8s (sl f p (m))) rfl hs (u8s_one _) (by unfold maxLen; omega) (by omega) (Nat.le_refl _) ?_; intro v1 w1 hown1 hgr1)
    go_ret
    simp only [Nat.zero_add, List.nil_append, Nat.add_sub_cancel_left] at hown1
    obtain ⟨ao, cap, rfl, _⟩ := own_form hown1
    exact ⟨ao, cap, rfl, hown1, Chg.of_grown hgr1 (fun k hk hlt => by cases hk)⟩

set_option maxRecDepth 100000 in
set_option maxHeartbeats 400000 in
theorem rget_no (a b n : Nat) (addr m : Int) (w : World) (hc : w.cell? ⟨a, 0, none⟩ = some (.slice (some ⟨b, 0, none⟩) n n)) (hn : n ≤ 1048576) (h : okR n addr m = false) :
    Calls Try.prog 44 #[.pointer (some ⟨a, 0, none⟩), .int .i64 addr, .int .i64 m] w fun e w' => e = .returned (.slice none 0 0) ∧ w = w' := by
  have h' := okR_false h
  clear h
  by_cases h1 : addr < 0
  · clear h'
    go_enter Try.func44, Try.ntmps44
    go_wp2
    go_ret
    exact ⟨rfl, rfl⟩
  obtain ⟨p, rfl⟩ := Int.eq_ofNat_of_zero_le (show 0 ≤ addr by omega)
  have d1 : decide ((p : Int) < 0) = false := decide_eq_false (by omega)
  clear h1
  by_cases h2 : m < 0
  · clear h'
    go_enter Try.func44, Try.ntmps44
    go_wp2
    go_ret
    exact ⟨rfl, rfl⟩
  obtain ⟨k, rfl⟩ := Int.eq_ofNat_of_zero_le (show 0 ≤ m by omega)
  have d2 : decide ((k : Int) < 0) = false := decide_eq_false (by omega)
  clear h2
  by_cases h3 : n < p
  · clear h'
    have d3 : decide (n < p) = true := decide_eq_true h3
    go_enter Try.func44, Try.ntmps44
    go_wp2
    go_ret
    exact ⟨rfl, rfl⟩
  have d3 : decide (n < p) = false := decide_eq_false h3
  have h5 : (n : Int) - p < k := by omega
  have d4 : decide ((n : Int) - p < k) = true := decide_eq_true h5
  clear h'
  go_enter Try.func44, Try.ntmps44
  go_wp2
  go_ret
  exact ⟨rfl, rfl⟩

theorem rget_any {a b n : Nat} {f : Nat → Int} {w : World} (M : Mem 65 w a b n f) (addr m : Int) :
    Calls Try.prog 44 #[.pointer (some ⟨a, 0, none⟩), .int .i64 addr, .int .i64 m] w fun e w' => ∃ ao cap, Made w 5 1 (getN n addr m) (u8s (sl f addr.toNat (getN n addr m))) e w' ao cap := by
  unfold getN
  cases h : okR n addr m
  · refine (rget_no a b n addr m w M.cell0 M.le h).mono fun e w' ⟨he, hw⟩ => ?_
    subst hw
    exact ⟨none, 0, he, World.ownsRow_nil _ _ _ _, Chg.refl _ _⟩
  · obtain ⟨h1, h2, h3⟩ := okR_true h
    obtain ⟨p, rfl⟩ := Int.eq_ofNat_of_zero_le h1
    obtain ⟨k, rfl⟩ := Int.eq_ofNat_of_zero_le h2
    exact rget_yes a b n p k f w M (by omega)

end Go.Proofs.Ytiedfglkjkaefaa

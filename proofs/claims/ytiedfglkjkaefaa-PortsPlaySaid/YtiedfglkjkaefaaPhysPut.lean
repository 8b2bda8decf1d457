/- phys: Put; the reference's. -/
import Derived.Test.YtiedfglkjkaefaaPhysGet
namespace Go.Proofs.Ytiedfglkjkaefaa
open Go.RowKit

/-- xs put from p on. -/
def ptN (f : Nat → Int) (p : Nat) (xs : List Int) : Nat → Int := fun j => if p ≤ j ∧ j < p + xs.length then xs.getD (j - p) 0 else f j
/-- What a Put makes of the bytes. -/
def ptV (n : Nat) (f : Nat → Int) (addr : Int) (xs : List Int) : Nat → Int := if okR n addr xs.length = true then ptN f addr.toNat xs else f

theorem usz : (Try.prog.info? 5).map (·.size) = some 1 := by kernel_rfl

theorem put_post {t : TypeId} {a b n p : Nat} {f : Nat → Int} {w : World} (M : Mem t w a b n f) (xs : List Int) (hx : ∀ x ∈ xs, 0 ≤ x ∧ x < 256) {cur : Array Value}
    (hcur : w.heap[b]? = some (.cells cur 5 (0, 0))) (hsz : cur.size = n) (hget : ∀ i, i < n → cur[i]? = some (.int .u8 (f i))) (hfit : p + (u8s xs).length ≤ cur.size) :
    Mem t (w.setRow b (cur.toList.take p ++ (u8s xs ++ cur.toList.drop (p + (u8s xs).length))).toArray) a b n (ptN f p xs) ∧ Chg w (w.setRow b (cur.toList.take p ++ (u8s xs ++ cur.toList.drop (p + (u8s xs).length))).toArray) (fun k => k = b) := by
  have hch : Chg w (w.setRow b (cur.toList.take p ++ (u8s xs ++ cur.toList.drop (p + (u8s xs).length))).toArray) (fun k => k = b) := ⟨rfl, rfl, rfl, by simp, fun k _ hk => setRow_other w b k _ hk⟩
  rw [u8s_length] at hfit
  refine ⟨⟨hch.row M.ptr M.ne, ⟨_, setRow_heap w b cur _ _ _ hcur, ?_, ?_⟩, ?_, M.ne, M.le, M.mul⟩, hch⟩
  · simp [u8s]
    omega
  · intro i hi
    rw [List.getElem?_toArray]
    show _ = some (Value.int .u8 (ptN f p xs i))
    unfold ptN
    by_cases h1 : i < p
    · rw [List.getElem?_append_left (by simp; omega), List.getElem?_take_of_lt h1, Array.getElem?_toList, hget i hi, if_neg (by omega)]
    · rw [List.getElem?_append_right (by simp; omega)]
      have e1 : (cur.toList.take p).length = p := by simp; omega
      rw [e1]
      by_cases h2 : i < p + xs.length
      · rw [List.getElem?_append_left (by simp [u8s]; omega), if_pos (by omega)]
        simp [u8s, show i - p < xs.length by omega]
      · rw [List.getElem?_append_right (by simp [u8s]; omega), List.getElem?_drop, if_neg (by omega), u8s_length, show p + xs.length + (i - p - xs.length) = i from by omega, Array.getElem?_toList, hget i hi]
  · intro i hi
    unfold ptN
    by_cases h2 : p ≤ i ∧ i < p + xs.length
    · rw [if_pos h2]
      have hlt : i - p < xs.length := by omega
      rw [List.getD_eq_getElem?_getD, List.getElem?_eq_getElem hlt]
      exact hx _ (List.getElem_mem hlt)
    · rw [if_neg h2]
      exact M.rng i hi

set_option maxRecDepth 100000 in
set_option maxHeartbeats 400000 in
theorem put_zero (a b n p c : Nat) (ao : Option Addr) (f : Nat → Int) (w : World) (M : Mem 92 w a b n f) (h : p ≤ n) :
    Calls Try.prog 71 #[.pointer (some ⟨a, 0, none⟩), .int .i64 p, .slice ao 0 c] w fun e w' => e = .returned (.bool true) ∧ w = w' := by
  have hc := M.cell0
  have hn := M.le
  have HT := there_any M p 0
  have hok : okR n p 0 = true := decide_eq_true (by omega)
  rw [hok] at HT
  clear hok
  by_cases hnp : n = p
  · subst hnp
    go_enter Try.func71, Try.ntmps71
    go_wp2_with (first | (go_at_call 41; refine HT.mono ?_; rintro e w' ⟨rfl, rfl⟩) | (with_reducible refine wpList_copy_nothing rfl (.tmp 18) (.tmp 19) 22 22 rfl 5 Try.underlying22 usz (some ⟨b, 0, none⟩) ao 0 0 0 c rfl rfl (by simp [Nat.min_def]) ?_))
    go_ret
    exact ⟨rfl, rfl⟩
  · go_enter Try.func71, Try.ntmps71
    go_wp2_with (first | (go_at_call 41; refine HT.mono ?_; rintro e w' ⟨rfl, rfl⟩) | (with_reducible refine wpList_copy_nothing rfl (.tmp 18) (.tmp 19) 22 22 rfl 5 Try.underlying22 usz (some ⟨b, p, none⟩) ao (n - p) (n - p) 0 c rfl rfl (by simp [Nat.min_def]) ?_))
    go_ret
    exact ⟨rfl, rfl⟩

set_option maxRecDepth 100000 in
set_option maxHeartbeats 400000 in
theorem put_yes (a b n p m c : Nat) (ao : Option Addr) (f : Nat → Int) (w : World) (M : Mem 92 w a b n f) (xs : List Int) (hs : Src w ao m c (u8s xs) 1) (hx : ∀ x ∈ xs, 0 ≤ x ∧ x < 256) (hm : 0 < m) (h : p + m ≤ n) :
    Calls Try.prog 71 #[.pointer (some ⟨a, 0, none⟩), .int .i64 p, .slice ao m c] w fun e w' => e = .returned (.bool true) ∧ Mem 92 w' a b n (ptN f p xs) ∧ Chg w w' (fun k => k = b) := by
  have hc := M.cell0
  have hn := M.le
  have hnp : ¬ n = p := by omega
  obtain ⟨ad, rfl⟩ : ∃ ad, ao = some ad := by
    cases ao with
    | none => have := (hs.nil rfl).1; omega
    | some ad => exact ⟨ad, rfl⟩
  obtain ⟨cur, hcur, hsz, hget⟩ := M.row
  have hxl : (u8s xs).length = m := by have := hs.len; omega
  have hfit : p + (u8s xs).length ≤ cur.size := by omega
  have hpost := put_post M xs hx hcur hsz hget hfit
  have hmin : (u8s xs).length = Nat.min m (n - p) := by rw [hxl]; simp only [Nat.min_def]; split <;> omega
  have hsg := hs.get ad rfl
  have HT := there_any M p m
  have hok : okR n p m = true := decide_eq_true (by omega)
  rw [hok] at HT
  clear hok
  have HS : Hid (p + (u8s xs).length ≤ cur.size) := hfit
  have HM := Lib.hid hmin
  have HG := Lib.hid hget
  have HCu := Lib.hid hcur
  have HSg := Lib.hid hsg
  clear hs hget hcur hsz hxl hfit hmin hsg
  go_enter Try.func71, Try.ntmps71
  go_wp2_with (first | (go_at_call 41; refine HT.mono ?_; rintro e w' ⟨rfl, rfl⟩) | (with_reducible refine wpList_copy_own rfl (.tmp 18) (.tmp 19) 22 22 rfl 5 Try.underlying22 usz b p (n - p) (n - p) ad m c rfl rfl cur 5 HCu.out (u8s xs) HM.out HSg.out HS.out (u8s_one _) ?_))
  go_ret
  exact ⟨rfl, hpost⟩

set_option maxRecDepth 100000 in
set_option maxHeartbeats 400000 in
theorem put_no (a b n : Nat) (addr : Int) (m c : Nat) (ao : Option Addr) (f : Nat → Int) (w : World) (M : Mem 92 w a b n f) (h : okR n addr m = false) :
    Calls Try.prog 71 #[.pointer (some ⟨a, 0, none⟩), .int .i64 addr, .slice ao m c] w fun e w' => e = .returned (.bool false) ∧ w = w' := by
  have HT := there_any M addr m
  rw [h] at HT
  clear h
  go_enter Try.func71, Try.ntmps71
  go_wp2_with (go_at_call 41; refine HT.mono ?_; rintro e w' ⟨rfl, rfl⟩)
  go_ret
  exact ⟨rfl, rfl⟩

/-- PUT. -/
theorem put_any {a b n : Nat} {f : Nat → Int} {w : World} (M : Mem 92 w a b n f) (addr : Int) (m c : Nat) (ao : Option Addr) (xs : List Int) (hs : Src w ao m c (u8s xs) 1) (hx : ∀ x ∈ xs, 0 ≤ x ∧ x < 256) :
    Calls Try.prog 71 #[.pointer (some ⟨a, 0, none⟩), .int .i64 addr, .slice ao m c] w fun e w' => e = .returned (.bool (okR n addr m)) ∧ Mem 92 w' a b n (ptV n f addr xs) ∧ Chg w w' (fun k => k = b) := by
  have hl : xs.length = m := by have := hs.len; simpa [u8s] using this
  unfold ptV
  rw [hl]
  cases h : okR n addr m
  · exact (put_no a b n addr m c ao f w M h).mono fun e w' ⟨he, hw⟩ => by subst hw; exact ⟨he, M, Chg.refl _ _⟩
  · obtain ⟨h1, h2, h3⟩ := okR_true h
    obtain ⟨p, rfl⟩ := Int.eq_ofNat_of_zero_le h1
    by_cases hm : m = 0
    · subst hm
      have hx0 : xs = [] := List.eq_nil_of_length_eq_zero hl
      subst hx0
      refine (put_zero a b n p c ao f w M (by omega)).mono fun e w' ⟨he, hw⟩ => ?_
      subst hw
      refine ⟨he, M.congr (fun i _ => ?_), Chg.refl _ _⟩
      simp [ptN]
      omega
    · exact put_yes a b n p m c ao f w M xs hs hx (by omega) (by omega)

set_option maxRecDepth 100000 in
set_option maxHeartbeats 400000 in
theorem rput_zero (a b n p c : Nat) (ao : Option Addr) (f : Nat → Int) (w : World) (M : Mem 65 w a b n f) (h : p ≤ n) :
    Calls Try.prog 45 #[.pointer (some ⟨a, 0, none⟩), .int .i64 p, .slice ao 0 c] w fun e w' => e = .returned (.bool true) ∧ w = w' := by
  have hc := M.cell0
  have hn := M.le
  have d1 : decide ((p : Int) < 0) = false := decide_eq_false (by omega)
  have d3 : decide (n < p) = false := decide_eq_false (by omega)
  have d4 : decide ((n : Int) - p < 0) = false := decide_eq_false (by omega)
  by_cases hnp : n = p
  · subst hnp
    go_enter Try.func45, Try.ntmps45
    go_wp2_with ((with_reducible refine wpList_copy_nothing rfl (.tmp 35) (.tmp 36) 22 22 rfl 5 Try.underlying22 usz (some ⟨b, 0, none⟩) ao 0 0 0 c rfl rfl (by simp [Nat.min_def]) ?_))
    go_ret
    exact ⟨rfl, rfl⟩
  · go_enter Try.func45, Try.ntmps45
    go_wp2_with ((with_reducible refine wpList_copy_nothing rfl (.tmp 35) (.tmp 36) 22 22 rfl 5 Try.underlying22 usz (some ⟨b, p, none⟩) ao (n - p) (n - p) 0 c rfl rfl (by simp [Nat.min_def]) ?_))
    go_ret
    exact ⟨rfl, rfl⟩

set_option maxRecDepth 100000 in
set_option maxHeartbeats 400000 in
theorem rput_yes (a b n p m c : Nat) (ao : Option Addr) (f : Nat → Int) (w : World) (M : Mem 65 w a b n f) (xs : List Int) (hs : Src w ao m c (u8s xs) 1) (hx : ∀ x ∈ xs, 0 ≤ x ∧ x < 256) (hm : 0 < m) (h : p + m ≤ n) :
    Calls Try.prog 45 #[.pointer (some ⟨a, 0, none⟩), .int .i64 p, .slice ao m c] w fun e w' => e = .returned (.bool true) ∧ Mem 65 w' a b n (ptN f p xs) ∧ Chg w w' (fun k => k = b) := by
  have hc := M.cell0
  have hn := M.le
  have hnp : ¬ n = p := by omega
  obtain ⟨ad, rfl⟩ : ∃ ad, ao = some ad := by
    cases ao with
    | none => have := (hs.nil rfl).1; omega
    | some ad => exact ⟨ad, rfl⟩
  obtain ⟨cur, hcur, hsz, hget⟩ := M.row
  have hxl : (u8s xs).length = m := by have := hs.len; omega
  have hfit : p + (u8s xs).length ≤ cur.size := by omega
  have hpost := put_post M xs hx hcur hsz hget hfit
  have hmin : (u8s xs).length = Nat.min m (n - p) := by rw [hxl]; simp only [Nat.min_def]; split <;> omega
  have hsg := hs.get ad rfl
  have d1 : decide ((p : Int) < 0) = false := decide_eq_false (by omega)
  have d3 : decide (n < p) = false := decide_eq_false (by omega)
  have d4 : decide ((n : Int) - p < m) = false := decide_eq_false (by omega)
  have HS : Hid (p + (u8s xs).length ≤ cur.size) := hfit
  have HM := Lib.hid hmin
  have HG := Lib.hid hget
  have HCu := Lib.hid hcur
  have HSg := Lib.hid hsg
  clear hs hget hcur hsz hxl hfit hmin hsg
  go_enter Try.func45, Try.ntmps45
  go_wp2_with ((with_reducible refine wpList_copy_own rfl (.tmp 35) (.tmp 36) 22 22 rfl 5 Try.underlying22 usz b p (n - p) (n - p) ad m c rfl rfl cur 5 HCu.out (u8s xs) HM.out HSg.out HS.out (u8s_one _) ?_))
  go_ret
  exact ⟨rfl, hpost⟩

set_option maxRecDepth 100000 in
set_option maxHeartbeats 400000 in
theorem rput_no (a b n : Nat) (addr : Int) (m c : Nat) (ao : Option Addr) (f : Nat → Int) (w : World) (M : Mem 65 w a b n f) (h : okR n addr m = false) :
    Calls Try.prog 45 #[.pointer (some ⟨a, 0, none⟩), .int .i64 addr, .slice ao m c] w fun e w' => e = .returned (.bool false) ∧ w = w' := by
  have hc := M.cell0
  have hn := M.le
  have h' := okR_false h
  clear h
  by_cases h1 : addr < 0
  · clear h'
    go_enter Try.func45, Try.ntmps45
    go_wp2
    go_ret
    exact ⟨rfl, rfl⟩
  obtain ⟨p, rfl⟩ := Int.eq_ofNat_of_zero_le (show 0 ≤ addr by omega)
  have d1 : decide ((p : Int) < 0) = false := decide_eq_false (by omega)
  clear h1
  by_cases h3 : n < p
  · clear h'
    have d3 : decide (n < p) = true := decide_eq_true h3
    go_enter Try.func45, Try.ntmps45
    go_wp2
    go_ret
    exact ⟨rfl, rfl⟩
  have d3 : decide (n < p) = false := decide_eq_false h3
  have h5 : (n : Int) - p < m := by omega
  have d4 : decide ((n : Int) - p < m) = true := decide_eq_true h5
  clear h'
  go_enter Try.func45, Try.ntmps45
  go_wp2
  go_ret
  exact ⟨rfl, rfl⟩

/-- PUT. -/
theorem rput_any {a b n : Nat} {f : Nat → Int} {w : World} (M : Mem 65 w a b n f) (addr : Int) (m c : Nat) (ao : Option Addr) (xs : List Int) (hs : Src w ao m c (u8s xs) 1) (hx : ∀ x ∈ xs, 0 ≤ x ∧ x < 256) :
    Calls Try.prog 45 #[.pointer (some ⟨a, 0, none⟩), .int .i64 addr, .slice ao m c] w fun e w' => e = .returned (.bool (okR n addr m)) ∧ Mem 65 w' a b n (ptV n f addr xs) ∧ Chg w w' (fun k => k = b) := by
  have hl : xs.length = m := by have := hs.len; simpa [u8s] using this
  unfold ptV
  rw [hl]
  cases h : okR n addr m
  · exact (rput_no a b n addr m c ao f w M h).mono fun e w' ⟨he, hw⟩ => by subst hw; exact ⟨he, M, Chg.refl _ _⟩
  · obtain ⟨h1, h2, h3⟩ := okR_true h
    obtain ⟨p, rfl⟩ := Int.eq_ofNat_of_zero_le h1
    by_cases hm : m = 0
    · subst hm
      have hx0 : xs = [] := List.eq_nil_of_length_eq_zero hl
      subst hx0
      refine (rput_zero a b n p c ao f w M (by omega)).mono fun e w' ⟨he, hw⟩ => ?_
      subst hw
      refine ⟨he, M.congr (fun i _ => ?_), Chg.refl _ _⟩
      simp [ptN]
      omega
    · exact rput_yes a b n p m c ao f w M xs hs hx (by omega) (by omega)

end Go.Proofs.Ytiedfglkjkaefaa

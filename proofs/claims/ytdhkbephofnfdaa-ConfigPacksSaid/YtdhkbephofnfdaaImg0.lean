/- image: the bytes of a word, sums of bytes. -/
import Derived.Test.YtdhkbephofnfdaaBase
import Derived.Test.YtdhkbephofnfdaaBytes
import Derived.Test.YtdhkbephofnfdaaLst
import Derived.Test.YtdhkbephofnfdaaBits
import Derived.Deep.AppendLies
import Derived.Deep.DeepCutAuto
namespace Go.Proofs.Ytdhkbephofnfdaa
open Go.RowKit

/-- A word's four bytes, the lowest first. -/
def fourB (n : Int) : List Int := [n % 256, n / 256 % 256, n / 65536 % 256, n / 16777216 % 256]

/-- A block that was just made is owned whole. -/
theorem own_new (w : World) (t : TypeId) (size n : Nat) (cs : Array Value) (hc : cs.size = n * size) (hn : n ≤ maxLen) : (w.alloc (.cells cs t)).ownsRow w.heap.size t size (.slice (some ⟨w.heap.size, 0, none⟩) n n) n cs.toList := by
  refine ⟨by simpa using hc, .inr ⟨w.heap.size, n, cs, rfl, Nat.le_refl _, heap_alloc_new w _, Nat.le_refl _, hn, hc, ?_⟩⟩
  rw [← hc, ← Array.length_toList, List.take_length]
theorem fourB_len (n : Int) : (fourB n).length = 4 := rfl
theorem fourB_rng (n : Int) : ∀ x ∈ fourB n, 0 ≤ x ∧ x < 256 := by
  intro x hx
  simp [fourB] at hx
  omega

set_option maxHeartbeats 400000 in
theorem add_any (a b : Int) (w : World) : Calls Try.prog 65 #[.int .i64 a, .int .i64 b] w fun e w' => e = .returned (.int .i64 ((a + b) % 4294967296)) ∧ w = w' := by
  go_enter Try.func65, Try.ntmps65
  go_wp2_with fail
  go_ret
  exact ⟨rfl, rfl⟩

set_option maxHeartbeats 400000 in
theorem four_any (n : Int) (w : World) : Calls Try.prog 52 #[.int .i64 n] w fun e w' => ∃ ao cap, e = .returned (.slice ao 4 cap) ∧ w'.ownsRow w.heap.size 5 1 (.slice ao 4 cap) 4 (u8s (fourB n)) ∧ Chg w w' (fun _ => False) := by
  go_enter Try.func52, Try.ntmps52
  go_wp2_with fail
  go_ret
  exact ⟨_, _, rfl, own_new w _ 1 4 _ rfl (by unfold maxLen; omega), (Chg.refl w _).alloc _⟩

set_option maxHeartbeats 400000 in
theorem rfour_any (n : Int) (w : World) : Calls Try.prog 55 #[.int .i64 n] w fun e w' => ∃ ao cap, e = .returned (.slice ao 4 cap) ∧ w'.ownsRow w.heap.size 5 1 (.slice ao 4 cap) 4 (u8s (fourB n)) ∧ Chg w w' (fun _ => False) := by
  go_enter Try.func55, Try.ntmps55
  go_wp2_with fail
  go_ret
  simp only [and255, Int.emod_emod_of_dvd, Int.emod_emod]
  exact ⟨_, _, rfl, own_new w _ 1 4 _ rfl (by unfold maxLen; omega), (Chg.refl w _).alloc _⟩

theorem w_any (n : Int) (w : World) : Calls Try.prog 66 #[.int .i64 n] w fun e w' => e = .returned (.int .i64 (n % 4294967296)) ∧ w = w' := by
  go_enter Try.func66, Try.ntmps66
  go_wp2_with fail
  go_ret
  rw [and32]
  exact ⟨rfl, rfl⟩
/-- The sum of bytes. -/
def sumI (xs : List Int) : Int := xs.foldl (· + ·) 0
theorem foldl_add (xs : List Int) : ∀ a : Int, xs.foldl (· + ·) a = a + xs.foldl (· + ·) 0 := by
  induction xs with
  | nil => intro a; simp
  | cons x xs ih => intro a; rw [List.foldl_cons, List.foldl_cons, ih, ih (0 + x)]; omega
theorem sumI_snoc (xs : List Int) (x : Int) : sumI (xs ++ [x]) = sumI xs + x := by
  unfold sumI; rw [List.foldl_append]; rfl
theorem sumI_bound (xs : List Int) (h : ∀ x ∈ xs, 0 ≤ x ∧ x < 256) : 0 ≤ sumI xs ∧ sumI xs ≤ 255 * xs.length := by
  induction xs with
  | nil => simp [sumI]
  | cons x xs ih =>
    have h1 := h x (by simp)
    have h2 := ih (fun y hy => h y (by simp [hy]))
    have : sumI (x :: xs) = x + sumI xs := by
      show (x :: xs).foldl (· + ·) 0 = x + xs.foldl (· + ·) 0
      rw [List.foldl_cons, foldl_add]; omega
    rw [this, List.length_cons]
    omega

set_option maxHeartbeats 400000 in
theorem rsum_any {ao : Option Addr} {m c : Nat} {xs : List Int} (w : World) (hL : Lst w ao m c (u8s xs) 1) (hx : ∀ x ∈ xs, 0 ≤ x ∧ x < 256) (hm : m ≤ 2000000) :
    Calls Try.prog 56 #[.slice ao m c] w fun e w' => e = .returned (.int .i64 (sumI xs % 4294967296)) ∧ w = w' := by
  have hl : xs.length = m := by have := hL.src.len; simpa [u8s] using this
  have HB := Lib.hid (fun j => sumI_bound (xs.take j) (fun x hx' => hx x (List.mem_of_mem_take hx')))
  go_enter Try.func56, Try.ntmps56
  go_wp2_with fail
  go_loopw [3, 4] (fun s i wx => ∃ j : Nat, j ≤ m ∧ i = .int .i64 j ∧ s = .int .i64 (sumI (xs.take j)) ∧ wx = w) (fun _ i _ => m - (intOf i).toNat)
  case atStart => exact ⟨0, by omega, rfl, rfl, rfl⟩
  case round =>
    obtain ⟨j, hj, rfl, rfl, hw⟩ := hrel
    subst hw
    have hb := HB.out j
    rw [List.length_take] at hb
    by_cases hlt : j < m
    · obtain ⟨b, o, rfl⟩ := hL.pos (by omega)
      have hjl : j < xs.length := by omega
      have hcell : wr.cell? ⟨b, o + j, none⟩ = some (.int .u8 xs[j]) := by
        have := hL.src.get _ rfl j (.int .u8 xs[j]) (by simp [u8s, hjl])
        rwa [Addr.add_lit] at this
      have hxj := hx _ (List.getElem_mem hjl)
      have HT := Lib.hid (show sumI (xs.take (j + 1)) = sumI (xs.take j) + xs[j] by rw [List.take_succ_eq_append_getElem hjl, sumI_snoc])
      obtain ⟨x, hxe⟩ : ∃ x, xs[j] = x := ⟨_, rfl⟩
      rw [hxe] at hcell hxj HT
      obtain ⟨s, hs⟩ : ∃ s, sumI (xs.take j) = s := ⟨_, rfl⟩
      rw [hs] at hb HT ⊢
      have hj0 : (0 : Int) ≤ (j : Int) := by omega
      have hj1 : (j : Int) < (m : Int) := by omega
      clear hxe hs
      go_wp2_with fail
      go_roundw
      case rel => exact ⟨j + 1, by omega, by go_num, by rw [HT.out], trivial⟩
      case measure => simp [intOf]; omega
    · have hjm : j = m := by omega
      subst hjm
      have ht : xs.take j = xs := by rw [← hl, List.take_length]
      rw [ht]
      clear hb ht
      go_wp2_with fail
      refine (w_any _ _).mono ?_
      rintro e w6 ⟨rfl, rfl⟩
      go_wp2_with fail
      go_ret
      exact ⟨rfl, rfl⟩

/-- The Summed of bytes that the call owns. -/
def summed (xs : List Int) : List Int := xs ++ fourB (sumI xs % 4294967296)

theorem info_u8i : (Try.prog.info? 5).map (fun i => (i.zero, i.size, i.bytes)) = some (some (.int .u8 0), 1, 1) := by kernel_rfl

set_option maxHeartbeats 800000 in
theorem summed_any {base : Nat} {ao : Option Addr} {m c : Nat} {xs : List Int} (w : World) (hO : w.ownsRow base 5 1 (.slice ao m c) m (u8s xs)) (hbase : base ≤ w.heap.size) (hx : ∀ x ∈ xs, 0 ≤ x ∧ x < 256) (hm : m ≤ 2000000) :
    Calls Try.prog 53 #[.slice ao m c] w fun e w' => ∃ ao2 c2, e = .returned (.slice ao2 (m + 4) c2) ∧ w'.ownsRow base 5 1 (.slice ao2 (m + 4) c2) (m + 4) (u8s (summed xs)) ∧ Chg w w' (fun k => (Value.slice ao m c).ownBlock = some k) := by
  have hl : xs.length = m := by have := hO.1; simpa [u8s] using this
  have HB := Lib.hid (fun j => sumI_bound (xs.take j) (fun x hx' => hx x (List.mem_of_mem_take hx')))
  obtain ⟨i0, hi0, hz0, hz1, hz2⟩ := info_parts info_u8i
  have hsrc := own_src hO
  obtain ⟨ao', c', hv, hmc, hcm, _, hbl⟩ := own_form hO
  injection hv with e1 e2 e3
  subst e1 e3
  have HS := Lib.hid hsrc
  have HO := Lib.hid hO
  go_enter Try.func53, Try.ntmps53
  go_wp2_with fail
  go_loopw [3, 5, 8] (fun s x i wx => ∃ j : Nat, j ≤ m ∧ i = .int .i64 j ∧ s = .int .i64 (sumI (xs.take j) % 4294967296) ∧ wx = w) (fun _ _ i _ => m - (intOf i).toNat)
  case atStart => exact ⟨0, by omega, rfl, rfl, rfl⟩
  case round =>
    obtain ⟨j, hj, rfl, rfl, hw⟩ := hrel
    subst hw
    have hb := HB.out j
    rw [List.length_take] at hb
    by_cases hlt : j < m
    · obtain ⟨b, rfl⟩ : ∃ b, ao = some ⟨b, 0, none⟩ := by
        cases ao with
        | none => have := HS.out.nil rfl; omega
        | some ad => obtain ⟨g, rfl, _⟩ := hbl ad rfl; exact ⟨g, rfl⟩
      have hjl : j < xs.length := by omega
      have hcell : wr.cell? ⟨b, j, none⟩ = some (.int .u8 xs[j]) := by
        have := HS.out.get _ rfl j (.int .u8 xs[j]) (by simp [u8s, hjl])
        rwa [Addr.add_lit, Nat.zero_add] at this
      have hxj := hx _ (List.getElem_mem hjl)
      have HT := Lib.hid (show sumI (xs.take (j + 1)) = sumI (xs.take j) + xs[j] by rw [List.take_succ_eq_append_getElem hjl, sumI_snoc])
      obtain ⟨x, hxe⟩ : ∃ x, xs[j] = x := ⟨_, rfl⟩
      rw [hxe] at hcell hxj HT
      obtain ⟨s, hs⟩ : ∃ s, sumI (xs.take j) = s := ⟨_, rfl⟩
      rw [hs] at hb HT ⊢
      have hj0 : (0 : Int) ≤ (j : Int) := by omega
      have hj1 : (j : Int) < (m : Int) := by omega
      clear hxe hs
      go_wp2_with fail
      refine (add_any _ _ _).mono ?_
      rintro e w6 ⟨rfl, rfl⟩
      go_wp2_with fail
      go_roundw
      case rel => exact ⟨j + 1, by omega, by go_num, by rw [HT.out], trivial⟩
      case measure => simp [intOf]; omega
    · have hjm : j = m := by omega
      subst hjm
      have ht : xs.take j = xs := by rw [← hl, List.take_length]
      rw [ht]
      clear hb ht
      go_wp2_with fail
      refine (four_any _ _).mono ?_
      rintro e w6 ⟨a6, c6, rfl, O6, C6⟩
      have O1 := own_chg HO.out C6 (fun _ _ h => h)
      have S6 := own_src O6
      have hsz := C6.size
      go_wp2_with (at_builtin; go_loud (refine wpList_append_src _ rfl (.tmp 17) (.tmp 19) _ rfl base 5 i0 _ 1 1 Try.underlying59 hi0 hz0 hz1 hz2 rfl (by omega) _ j _ rfl O1 _ 4 c6 _ rfl S6 (u8s_one _) (by unfold maxLen; omega) (by omega) (by omega) ?_; intro v7 w7 O7 hgr7; obtain ⟨a7, c7, rfl, _⟩ := own_form O7))
      go_ret
      refine ⟨_, _, rfl, ?_, ?_⟩
      · unfold summed
        rw [u8s_append]
        exact O7
      · exact (C6.mono (fun _ _ h => h.elim)).grown hgr7 (fun _ h _ => h)
end Go.Proofs.Ytdhkbephofnfdaa

/- shadow: span, Fits. -/
import Derived.Test.YtadcmelbcahecaaShA
namespace Go.Proofs.Ytadcmelbcahecaa
open Go.RowKit Go.Shelf

/-- The first page that there is, and how many are asked. -/
def shLo (fr : Int) : Int := if fr < 0 then 0 else min fr 1048576
def shN (fr n : Int) : Int := if fr < 0 then max 0 (min (max 0 n) 4096 + max fr (-4096)) else min (max 0 n) 4096
def shHi (fr n : Int) : Int := min (shLo fr + shN fr n) 1048576

theorem ret2_ii {a b c d : Int} (h : a = c) (k : b = d) : Ending.returned (.tuple #[.int .i64 a, .int .i64 b]) = .returned (.tuple #[.int .i64 c, .int .i64 d]) := by rw [h, k]

set_option maxHeartbeats 1000000 in
theorem span_any (fr n : Int) (w : World) :
    Calls Try.prog 28 #[.int .i64 fr, .int .i64 n] w fun e w' => e = .returned (.tuple #[.int .i64 (shLo fr), .int .i64 (shHi fr n)]) ∧ w = w' := by
  obtain ⟨lo, hlo⟩ : ∃ lo, shLo fr = lo := ⟨_, rfl⟩
  obtain ⟨hi, hhi⟩ : ∃ hi, shHi fr n = hi := ⟨_, rfl⟩
  have H : Hid (lo = (if fr < 0 then 0 else min fr 1048576) ∧ hi = min (lo + if fr < 0 then max 0 (min (max 0 n) 4096 + max fr (-4096)) else min (max 0 n) 4096) 1048576) := by
    rw [← hhi, ← hlo]
    exact ⟨rfl, rfl⟩
  rw [hlo, hhi]
  clear hlo hhi
  by_cases h : fr < 0
  · go_enter Try.func28, Try.ntmps28
    go_wp2
    all_goals (go_ret2; have H := H.out; rw [if_pos (by omega), if_pos (by omega)] at H; exact ⟨ret2_ii (by omega) (by omega), rfl⟩)
  · go_enter Try.func28, Try.ntmps28
    go_wp2
    all_goals (go_ret2; have H := H.out; rw [if_neg (by omega), if_neg (by omega)] at H; exact ⟨ret2_ii (by omega) (by omega), rfl⟩)
structure EntD where
  v : Int
  fr : Int
  bi : Int
def entCells (x : EntD) : List Value := [.int .i64 x.v, .int .i64 x.fr, .int .i64 x.bi]
def fitsB (first pages : Int) (l : List EntD) : Bool := l.all (fun x => decide (first ≤ x.fr ∧ x.fr < first + pages))

theorem fits_take {first pages : Int} {l : List EntD} {k : Nat} (h : k < l.length) : fitsB first pages (l.take (k + 1)) = (fitsB first pages (l.take k) && decide (first ≤ l[k].fr ∧ l[k].fr < first + pages)) := by
  unfold fitsB
  rw [List.take_succ_eq_append_getElem h, List.all_append]
  simp
theorem fits_no {first pages : Int} {l : List EntD} {k : Nat} (h : k < l.length) (hn : ¬ (first ≤ l[k].fr ∧ l[k].fr < first + pages)) : fitsB first pages l = false := by
  unfold fitsB
  rw [List.all_eq_false]
  exact ⟨l[k], List.getElem_mem h, by simpa using hn⟩

set_option maxRecDepth 100000 in
set_option maxHeartbeats 1000000 in
theorem fits_any (first pages : Int) (hf0 : -1000 ≤ first) (hf1 : first ≤ 1000) (hp0 : -1000 ≤ pages) (hp1 : pages ≤ 1000) {ao : Option Addr} {cap : Nat} (l : List EntD) (w : World) (hr : ∀ x ∈ l, -9223372036854775808 ≤ x.fr ∧ x.fr < 9223372036854775808) (hl : Lst w ao l.length cap (l.flatMap entCells) 3) (hcap : ∀ ad, ao = some ad → 0 < l.length → ad.block < w.heap.size) :
    Calls Try.prog 22 #[.slice ao l.length cap, .int .i64 first, .int .i64 pages] w fun e w' => e = .returned (.bool (fitsB first pages l)) ∧ Chg w w' (fun _ => False) := by
  have hm1 := hl.mx
  have hm2 := hl.le
  unfold maxLen at hm1
  go_enter Try.func22, Try.ntmps22
  go_wp2_with fail
  go_loopg [11] l.length (fun g i wr => ∃ k : Nat, g + k = l.length ∧ i = .int .i64 k ∧ fitsB first pages (l.take k) = true ∧ Chg w wr (fun _ => False))
  case atStart => exact ⟨0, rfl, rfl, rfl, Chg.refl _ _⟩
  case round =>
    obtain ⟨k, hk, rfl, hF, Ck⟩ := hrel
    have HK := Lib.hid hk
    have HF := Lib.hid hF
    clear hF
    by_cases hlt : k < l.length
    · obtain ⟨g, o, rfl⟩ := hl.pos (by omega)
      have hgl := hcap _ rfl (by omega)
      have hkk := hl.chg Ck (fun _ _ h => h)
      have c0 := Lst.cell0 (n := 3) (fun _ => rfl) hkk k (by decide) hlt rfl
      have c1 := Lst.cell (n := 3) (fun _ => rfl) hkk k 1 (by decide) hlt rfl
      have c2 := Lst.cell (n := 3) (fun _ => rfl) hkk k 2 (by decide) hlt rfl
      have HS := Lib.hid (fits_take (first := first) (pages := pages) hlt)
      have HN := Lib.hid (fun h => fits_no (first := first) (pages := pages) hlt h)
      obtain ⟨hx0, hx1⟩ := hr _ (List.getElem_mem hlt)
      obtain ⟨x, hx⟩ : ∃ x, l[k] = x := ⟨_, rfl⟩
      rw [hx] at c0 c1 c2 HS HN hx0 hx1
      have hk0 : (0 : Int) ≤ (k : Int) := by omega
      have hk1 : (k : Int) < l.length := by omega
      clear hx hkk hk
      by_cases x1 : x.fr < first
      · have HN2 := Lib.hid (HN.out (fun h => by omega))
        go_wp2_with fail
        go_ret
        rw [HN2.out]
        exact ⟨rfl, Ck.alloc _⟩
      by_cases x2 : pages ≤ 0
      · have HN2 := Lib.hid (HN.out (fun h => by omega))
        go_wp2_with fail
        go_ret
        rw [HN2.out]
        exact ⟨rfl, Ck.alloc _⟩
      have u1 : IntKind.u64.wrap (IntKind.u64.wrap x.fr - IntKind.u64.wrap first) = x.fr - first := by
        simp only [IntKind.wrap_u64]
        omega
      have u2 : IntKind.u64.wrap pages = pages := by
        simp only [IntKind.wrap_u64]
        omega
      by_cases x3 : pages ≤ x.fr - first
      · have HN2 := Lib.hid (HN.out (fun h => by omega))
        go_wp2_with fail
        go_ret
        rw [HN2.out]
        exact ⟨rfl, Ck.alloc _⟩
      · have HS2 : Hid (fitsB first pages (l.take (k + 1)) = true) := by show _ = _; rw [HS.out, HF.out, decide_eq_true (by omega)]; rfl
        go_wp2_with fail
        go_roundg (gk - 1)
        case measure => have := HK.out; omega
        case rel => exact ⟨k + 1, by have := HK.out; omega, by go_num, HS2.out, Ck.alloc _⟩
    · obtain rfl : k = l.length := by omega
      have hF := HF.out
      rw [List.take_length] at hF
      have HF2 := Lib.hid hF
      clear hF
      go_wp2_with fail
      go_ret
      rw [HF2.out]
      exact ⟨rfl, Ck⟩
end Go.Proofs.Ytadcmelbcahecaa

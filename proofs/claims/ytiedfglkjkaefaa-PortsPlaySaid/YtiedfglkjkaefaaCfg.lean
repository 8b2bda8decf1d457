/- A configuration as data; what Check says of it; within, fine, named. -/
import Derived.Test.YtiedfglkjkaefaaProg
import Derived.Test.YtiedfglkjkaefaaBase
import Derived.Test.YtiedfglkjkaefaaBytes
namespace Go.Proofs.Ytiedfglkjkaefaa
open Go.RowKit

structure PartD where
  name : ByteArray
  pages : Int
  action : Int
structure ChanD where
  kind : Int
  src : Int
  dst : Int
  size : Int
  depth : Int
structure WinD where
  start : Int
  len : Int
  part : Int
structure Cfg where
  pages : Int
  major : Int
  switch : Int
  parts : List PartD
  chans : List ChanD
  wins : List WinD

def wi (n lo hi : Int) : Bool := decide (lo ≤ n ∧ n ≤ hi)
def fineV (b : Bool) (e : Int) : Int := if b = true then 0 else e

set_option maxHeartbeats 400000 in
theorem within_any (n lo hi : Int) (w : World) : Calls Try.prog 54 #[.int .i64 n, .int .i64 lo, .int .i64 hi] w fun e w' => e = .returned (.bool (wi n lo hi)) ∧ w = w' := by
  by_cases h1 : lo ≤ n
  · by_cases h2 : n ≤ hi
    · have HH : Hid (wi n lo hi = true) := decide_eq_true ⟨h1, h2⟩
      go_enter Try.func54, Try.ntmps54
      go_wp2
      go_ret
      exact ⟨by rw [HH.out]; simp [h1, h2], rfl⟩
    · have HH : Hid (wi n lo hi = false) := decide_eq_false (fun h => h2 h.2)
      go_enter Try.func54, Try.ntmps54
      go_wp2
      go_ret
      exact ⟨by rw [HH.out]; simp [h1, h2], rfl⟩
  · have HH : Hid (wi n lo hi = false) := decide_eq_false (fun h => h1 h.1)
    have hd : decide (lo ≤ n) = false := decide_eq_false h1
    go_enter Try.func54, Try.ntmps54
    go_wp2
    go_ret
    exact ⟨by rw [HH.out]; simp [h1], rfl⟩

set_option maxHeartbeats 400000 in
theorem fine_any (b : Bool) (n : Int) (w : World) : Calls Try.prog 53 #[.bool b, .int .i64 n] w fun e w' => e = .returned (.int .i64 (fineV b n)) ∧ w = w' := by
  cases b
  · go_enter Try.func53, Try.ntmps53
    go_wp2
    go_ret
    exact ⟨rfl, rfl⟩
  · go_enter Try.func53, Try.ntmps53
    go_wp2
    go_ret
    exact ⟨rfl, rfl⟩

/-- May a byte stand in a name? -/
def chB (c : UInt8) : Bool := decide ((97 ≤ (c.toNat : Int) ∧ (c.toNat : Int) ≤ 122) ∨ (48 ≤ (c.toNat : Int) ∧ (c.toNat : Int) ≤ 57))
def nameOk (s : ByteArray) : Bool := (decide (0 < s.size) && decide (s.size ≤ 20)) && s.data.toList.all chB

theorem all_take_succ (s : ByteArray) (k : Nat) (h : k < s.size) : (s.data.toList.take (k + 1)).all chB = ((s.data.toList.take k).all chB && chB s[k]) := by
  have hk : k < s.data.toList.length := by simpa using h
  rw [List.take_succ_eq_append_getElem hk, List.all_append]
  simp
  rfl

theorem named_empty (s : ByteArray) (w : World) (hs : s.size = 0) : Calls Try.prog 55 #[.string s] w fun e w' => e = .returned (.bool (nameOk s)) ∧ w = w' := by
  have HH : Hid (nameOk s = false) := by show nameOk s = false; unfold nameOk; rw [hs]; rfl
  have he : s.toList = [] := by rw [ByteArray.toList_eq]; exact List.eq_nil_of_length_eq_zero (by simpa using hs)
  have he2 : s.toList.isEmpty = true := by rw [he]; rfl
  have hz : (s.size : Int) = 0 := by omega
  clear he
  go_enter Try.func55, Try.ntmps55
  go_wp2
  refine wp_loop_rounds 1 ?_
  rw [rounds_succ]
  go_wp2
  go_ret
  exact ⟨ret_bool (by rw [HH.out]), rfl⟩

set_option maxHeartbeats 400000 in
theorem named_full (s : ByteArray) (w : World) (h0 : 0 < s.size) (hs : s.size ≤ 9223372036854775807) : Calls Try.prog 55 #[.string s] w fun e w' => e = .returned (.bool (nameOk s)) ∧ w = w' := by
  have HN : Hid (nameOk s = (decide (s.size ≤ 20) && s.data.toList.all chB)) := by show nameOk s = _; unfold nameOk; rw [decide_eq_true h0]; simp
  have he2 : s.toList.isEmpty = false := by rw [ByteArray.toList_eq]; cases h : s.data.toList with
    | nil => have : s.data.toList.length = 0 := by rw [h]; rfl
             have h2 : s.size = s.data.toList.length := by simp
             omega
    | cons => rfl
  obtain ⟨b0, hb0⟩ : ∃ b0, decide (s.size ≤ 20) = b0 := ⟨_, rfl⟩
  have hb1 : decide ((s.size : Int) ≤ 20) = b0 := by rw [← hb0]; simp; omega
  have HB := Lib.hid hb0
  clear hb0
  cases b0
  all_goals
    go_enter Try.func55, Try.ntmps55
    go_wp2
    clear hb1 he2
    go_loop [3, 14] (fun v i => ∃ (k : Nat) (ok : Bool), k ≤ s.size ∧ i = .int .i64 k ∧ v = .bool ok ∧ ok = (decide (s.size ≤ 20) && (s.data.toList.take k).all chB)) (fun _ i => s.size - (intOf i).toNat)
    case atStart => exact ⟨0, _, by omega, rfl, rfl, by rw [HB.out]; rfl⟩
    case round =>
      obtain ⟨k, ok, hk, rfl, rfl, hok⟩ := hrel
      have HO := Lib.hid hok
      clear hok
      by_cases hlt : k < s.size
      · have HT := Lib.hid (all_take_succ s k hlt)
        cases ok
        · go_wp2
          go_round
          case rel => exact ⟨k + 1, _, by omega, by go_num, rfl, by rw [HT.out, ← Bool.and_assoc, ← HO.out]; rfl⟩
          case measure => simp [intOf]; omega
        · go_wp2
          all_goals
            go_round
            case rel => exact ⟨k + 1, _, by omega, by go_num, rfl, by rw [HT.out, ← Bool.and_assoc, ← HO.out]; first | (simp [chB, *]; done) | (simp [chB, *]; omega)⟩
            case measure => simp [intOf]; omega
      · have h1 : k = s.size := by omega
        subst h1
        go_wp2
        go_ret
        exact ⟨ret_bool (by rw [HN.out, HO.out, List.take_of_length_le (by simp)]), rfl⟩

theorem named_any (s : ByteArray) (w : World) (hs : s.size ≤ 9223372036854775807) : Calls Try.prog 55 #[.string s] w fun e w' => e = .returned (.bool (nameOk s)) ∧ w = w' := by
  rcases Nat.eq_zero_or_pos s.size with h | h
  · exact named_empty s w h
  · exact named_full s w h hs

end Go.Proofs.Ytiedfglkjkaefaa

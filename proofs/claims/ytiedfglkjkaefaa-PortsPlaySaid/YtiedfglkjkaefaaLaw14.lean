/- trunnionlaw14: num, One, alive. -/
import Derived.Test.YtiedfglkjkaefaaCfgCheck
namespace Go.Proofs.Ytiedfglkjkaefaa
open Go.RowKit


def sA : ByteArray := { data := #[97] }
def oneC : Cfg := ⟨5, 10, 0, [⟨sA, 1, 0⟩], [], [⟨0, 10, 0⟩]⟩

structure OneAt (w w' : World) (p q : Nat) : Prop where
  pb : Box w' p 70 #[.string sA, .int .i64 1, .int .i64 0]
  qb : Box w' q 99 #[.int .i64 0, .int .i64 10, .int .i64 0]
  pq : p ≠ q
  hp : w.heap.size ≤ p
  hq : w.heap.size ≤ q
  chg : Chg w w' (fun _ => False)

set_option maxHeartbeats 400000 in
theorem one_any (w : World) : Calls Try.prog 33 #[] w fun e w' => ∃ p q, e = .returned (.agg #[.int .i64 5, .int .i64 10, .int .i64 0, .slice (some ⟨p, 0, none⟩) 1 1, .slice none 0 0, .slice (some ⟨q, 0, none⟩) 1 1]) ∧ OneAt w w' p q := by
  go_enter Try.func33, Try.ntmps33
  go_wp2
  refine bodyPost_ret (v := .agg #[.int .i64 5, .int .i64 10, .int .i64 0, .slice (some ⟨w.heap.size + 1, 0, none⟩) 1 1, .slice none 0 0, .slice (some ⟨w.heap.size + 2, 0, none⟩) 1 1]) (by simp [results, Try.results33, go_sem]) rfl ?_
  refine ⟨_, _, rfl, ?_⟩
  have e1 : Box (((w.alloc (.cells #[.int .i64 5, .int .i64 10, .int .i64 0, .slice (some ⟨w.heap.size + 1, 0, none⟩) 1 1, .slice none 0 0, .slice (some ⟨w.heap.size + 1 + 1, 0, none⟩) 1 1] 32)).alloc (.cells #[.string sA, .int .i64 1, .int .i64 0] 70))) (w.heap.size + 1) 70 #[.string sA, .int .i64 1, .int .i64 0] := by
    have := Box.new (w.alloc (.cells #[.int .i64 5, .int .i64 10, .int .i64 0, .slice (some ⟨w.heap.size + 1, 0, none⟩) 1 1, .slice none 0 0, .slice (some ⟨w.heap.size + 1 + 1, 0, none⟩) 1 1] 32)) 70 #[.string sA, .int .i64 1, .int .i64 0]
    rwa [show (w.alloc (.cells #[.int .i64 5, .int .i64 10, .int .i64 0, .slice (some ⟨w.heap.size + 1, 0, none⟩) 1 1, .slice none 0 0, .slice (some ⟨w.heap.size + 1 + 1, 0, none⟩) 1 1] 32)).heap.size = w.heap.size + 1 from by simp] at this
  exact ⟨e1.alloc _, box_third w _ _ _ _, by omega, by omega, by omega, (((Chg.refl _ _).alloc _).alloc _).alloc _⟩

theorem one_at {w w' : World} {p q : Nat} (h : OneAt w w' p q) : CfgAt w' oneC (some ⟨p, 0, none⟩) none (some ⟨q, 0, none⟩) 1 0 1 :=
  ⟨h.pb.lst 1 1 3 _ rfl rfl (by decide) (by unfold maxLen; omega), Lst.none _ _, h.qb.lst 1 1 3 _ rfl rfl (by decide) (by unfold maxLen; omega), fun p hp => by
    have : p = ⟨sA, 1, 0⟩ := by simpa [oneC] using hp
    subst this
    decide⟩

theorem one_chk : chk oneC = 0 := by
  have h1 : partsOk oneC = true := by decide +kernel
  unfold chk
  rw [h1]
  decide +kernel


end Go.Proofs.Ytiedfglkjkaefaa

/- The laws of health: what they share. -/
import Derived.Test.YtdhkbephofnfdaaHList
import Derived.Test.YtdhkbephofnfdaaHNew
import Derived.Test.YtdhkbephofnfdaaLaw14
namespace Go.Proofs.Ytdhkbephofnfdaa
open Go.RowKit

theorem hnew_at {C : Cfg} {ap ac aw : Option Addr} {cp cc cw : Nat} {w : World} (h : CfgAt w C ap ac aw cp cc cw) {S : HS} {pg mj sw : Int} {a b c : Nat} (hS : newS C = S) (h1 : C.pages = pg) (h2 : C.major = mj) (h3 : C.switch = sw) (ha : C.parts.length = a) (hb : C.chans.length = b) (hc : C.wins.length = c) :
    Calls Try.prog 29 #[.agg #[.int .i64 pg, .int .i64 mj, .int .i64 sw, .slice ap a cp, .slice ac b cc, .slice aw c cw]] w fun r w' => ∃ g, r = .returned (.pointer (some ⟨g, 0, none⟩)) ∧ MonAt w' (fun k => w.heap.size ≤ k) g S ∧ Chg w w' (fun _ => False) := by
  subst h1 h2 h3 ha hb hc hS
  exact hnew_any w h

/-- The configuration of the laws: one partition, which is begun anew. -/
def c1A : Cfg := { oneC with parts := [⟨sA, 1, 1⟩] }
theorem c1A_new : newS c1A = ⟨[⟨1, false, 0⟩], []⟩ := by
  have h1 : partsOk c1A = true := by decide +kernel
  have h2 : chk c1A = 0 := by
    unfold chk
    rw [h1]
    decide +kernel
  unfold newS
  rw [if_pos h2]
  rfl

theorem OneAt.act {w w' : World} {p q : Nat} (h : OneAt w w' p q) : CfgAt (w'.setCell ⟨p, 2, none⟩ (.int .i64 1)) c1A (some ⟨p, 0, none⟩) none (some ⟨q, 0, none⟩) 1 0 1 :=
  ⟨(h.pb.set 2 (.int .i64 1)).lst 1 1 3 _ rfl rfl (by decide) (by unfold maxLen; omega), Lst.none _ _, (h.qb.far (fun e => h.pq e.symm) _).lst 1 1 3 _ rfl rfl (by decide) (by unfold maxLen; omega), fun p hp => by
    have : p = ⟨sA, 1, 1⟩ := by simpa [c1A] using hp
    subst this
    decide⟩

theorem see1 (S : HS) (t : Int) (st : Bool) (c : Int) (e : List EvH) (h : S = ⟨[⟨1, st, c⟩], e⟩) : seeS S t 0 false true = (⟨[⟨1, false, c + 1⟩], pushE e ⟨t, 0, 2⟩⟩, 2) := by
  subst h
  unfold seeS
  rw [if_neg (by simp), if_pos (by simp)]
  rfl

set_option maxRecDepth 100000 in
set_option maxHeartbeats 1600000 in
theorem alive21 (w : World) : Calls Try.prog 28 #[] w fun r w' => r = .returned (.bool true) ∧ Chg w w' (fun _ => False) := by
  have HN := Lib.hid c1A_new
  go_enter Try.func28, Try.ntmps28
  go_wp2_with fail
  refine (one_any _).mono ?_
  rintro e w1 ⟨p, q, rfl, H1⟩
  have hp := H1.hp
  have hq := H1.hq
  have hpl := H1.pb.lt
  have y2 := H1.pb.cell 2
  have f2 := H1.pb.frozen 2
  have hph : p ≠ w1.heap.size := by omega
  have CA := H1.act
  have CP : Chg w (w1.setCell ⟨p, 2, none⟩ (.int .i64 1)) (fun _ => False) := H1.chg.setCell (p := ⟨p, 2, none⟩) (fun h => by have : p < w.heap.size := h; omega) _
  have hsz := H1.chg.size
  have HCA := Lib.hid CA
  have HCP := Lib.hid CP
  clear CA CP H1
  go_wp2_with fail
  have CQ : Chg w ((w1.setCell ⟨p, 2, none⟩ (.int .i64 1)).alloc (.cells #[.int .i64 5, .int .i64 10, .int .i64 0, .slice (some ⟨p, 0, none⟩) 1 1, .slice none 0 0, .slice (some ⟨q, 0, none⟩) 1 1] 27)) (fun _ => False) := HCP.out.alloc _
  have CA := HCA.out.keep ((Chg.refl _ (fun _ => False)).alloc (.cells #[.int .i64 5, .int .i64 10, .int .i64 0, .slice (some ⟨p, 0, none⟩) 1 1, .slice none 0 0, .slice (some ⟨q, 0, none⟩) 1 1] 27))
  refine (hnew_at CA HN.out rfl rfl rfl rfl rfl rfl).mono ?_
  rintro r w2 ⟨g, rfl, M2, C2⟩
  have C12 := CQ.trans C2
  clear CA CQ
  have O2 : HOk (⟨[⟨1, false, 0⟩], []⟩ : HS) 0 := by rw [← HN.out]; exact newS_ok _
  have hs2 : w.heap.size ≤ ((w1.setCell ⟨p, 2, none⟩ (.int .i64 1)).alloc (.cells #[.int .i64 5, .int .i64 10, .int .i64 0, .slice (some ⟨p, 0, none⟩) 1 1, .slice none 0 0, .slice (some ⟨q, 0, none⟩) 1 1] 27)).heap.size := (HCP.out.alloc _).size
  have M2 := M2.mono (B' := fun k => w.heap.size ≤ k) (fun k hk => Nat.le_trans hs2 hk)
  have e1 := see1 ⟨[⟨1, false, 0⟩], []⟩ 3 false 0 [] rfl
  have T1 := see_any w2 _ g _ 3 0 false true 0 M2 O2 (by omega)
  rw [e1] at T1
  have O3 := seeS_ok O2 3 0 false true
  rw [e1] at O3
  have e2 := see1 ⟨[⟨1, false, 0 + 1⟩], pushE [] ⟨3, 0, 2⟩⟩ 4 false (0 + 1) _ rfl
  have HT1 := Lib.hid T1
  clear T1 e1
  unfold stV at HT1
  go_wp2_with fail
  refine HT1.out.mono ?_
  rintro r w3 ⟨rfl, M3, C3⟩
  have M3 := M3.mono (B' := fun k => w.heap.size ≤ k) (fun k hk => by rcases hk with h | h; exact h; exact Nat.le_trans C12.size h)
  have C13 : Chg w w3 (fun _ => False) := C12.trans' C3 (fun k hk h => by have h' : w.heap.size ≤ k := h; omega)
  have T2 := see_any w3 _ g _ 4 0 false true 1 M3 O3 (by omega)
  rw [e2] at T2
  have HT2 := Lib.hid T2
  clear T2 e2 HT1 M2
  unfold stV at HT2
  go_wp2_with fail
  refine HT2.out.mono ?_
  rintro r w4 ⟨rfl, M4, C4⟩
  have C14 : Chg w w4 (fun _ => False) := C13.trans' C4 (fun k hk h => by have h' : w.heap.size ≤ k := h; omega)
  go_wp2_with fail
  refine (count_any w4 _ g _ 0 M4).mono ?_
  rintro r w5 ⟨rfl, rfl⟩
  go_wp2_with fail
  go_ret
  exact ⟨rfl, C14⟩
end Go.Proofs.Ytdhkbephofnfdaa

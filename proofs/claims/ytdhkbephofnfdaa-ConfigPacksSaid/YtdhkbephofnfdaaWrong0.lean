/- ConfigWrong: what its walk stands on. -/
import Derived.Test.YtdhkbephofnfdaaLaw14
namespace Go.Proofs.Ytdhkbephofnfdaa
open Go.RowKit

theorem info_part : (Try.prog.info? 30).map (fun i => (i.zero, i.size, i.bytes)) = some (some (.agg #[.string ⟨#[]⟩, .int .i64 0, .int .i64 0]), 3, 32) := by kernel_rfl
def sB : ByteArray := { data := #[98] }
/-- The configuration of ConfigWrong, behind the switch. -/
def wrC (pg mj sw pp pa : Int) (ch : ChanD) (x y : WinD) : Cfg := ⟨pg, mj, sw, [⟨sA, 1, 0⟩, ⟨sB, pp, pa⟩], [ch], [x, y]⟩

theorem wr_parts (pg mj sw pp pa : Int) (ch : ChanD) (x y : WinD) : partsOk (wrC pg mj sw pp pa ch x y) = wi pa 0 1 := by
  have h0 : partOk (wrC pg mj sw pp pa ch x y).parts 0 = true := by
    show ((nameOk sA && wi 0 0 1) && nameNew [] sA) = true
    decide +kernel
  have h1 : partOk (wrC pg mj sw pp pa ch x y).parts 1 = wi pa 0 1 := by
    show ((nameOk sB && wi pa 0 1) && nameNew [⟨sA, 1, 0⟩] sB) = wi pa 0 1
    rw [show nameOk sB = true from by decide +kernel, show nameNew [⟨sA, 1, 0⟩] sB = true from by decide +kernel]
    simp
  unfold partsOk
  show (wi 2 1 8 && ([0, 1] : List Nat).all (partOk (wrC pg mj sw pp pa ch x y).parts)) = _
  rw [List.all_cons, List.all_cons, h0, h1]
  simp [wi]
theorem wr_mem (pg mj sw pp pa : Int) (ch : ChanD) (x y : WinD) : memOk (wrC pg mj sw pp pa ch x y) = (wi pp 1 64 && decide (1 + pp ≤ pg - 4)) := by
  unfold memOk wrC
  simp [wi]
theorem wr_chans (pg mj sw pp pa : Int) (ch : ChanD) (x y : WinD) : chansOk (wrC pg mj sw pp pa ch x y) = chOk 2 ch := by
  unfold chansOk wrC
  simp
theorem wi_iff (n lo hi : Int) : wi n lo hi = true ↔ lo ≤ n ∧ n ≤ hi := by simp [wi]
theorem wr_wins (pg mj sw pp pa : Int) (ch : ChanD) (x y : WinD) : winsOk (wrC pg mj sw pp pa ch x y) = ((wi mj 1 100000 && wi sw 0 1000) && ((wi x.start 0 mj && decide (sw < x.len) && decide (x.len ≤ mj - x.start) && wi x.part 0 1) && (wi y.start (x.start + x.len) mj && decide (sw < y.len) && decide (y.len ≤ mj - y.start) && wi y.part 0 1))) := by
  rw [Bool.eq_iff_iff]
  simp [winsOk, winBase, winsGo, winOk, wrC, wi_iff]
  intros
  constructor <;> intro h <;> omega

theorem wr_lst {w : World} {b c : Nat} {cs : List Value} {pp pa : Int} (h : Lst w (some ⟨b, 0, none⟩) 2 c cs 3) (hc : cs = [.string sA, .int .i64 1, .int .i64 0, .string sB, .int .i64 pp, .int .i64 pa]) : Lst w (some ⟨b, 0, none⟩) 2 c (([⟨sA, 1, 0⟩, ⟨sB, pp, pa⟩] : List PartD).flatMap partCells) 3 := by
  subst hc
  exact h

theorem wr_at {ws : World} {b cap z : Nat} (pg mj sw pp pa : Int) (ch : ChanD) (x y : WinD) (hp : Lst ws (some ⟨b, 0, none⟩) 2 cap [.string sA, .int .i64 1, .int .i64 0, .string sB, .int .i64 pp, .int .i64 pa] 3) (hz : ws.heap.size = z) :
    CfgAt ((ws.alloc (.cells #[.int .i64 ch.kind, .int .i64 ch.src, .int .i64 ch.dst, .int .i64 ch.size, .int .i64 ch.depth] 32)).alloc (.cells #[.int .i64 x.start, .int .i64 x.len, .int .i64 x.part, .int .i64 y.start, .int .i64 y.len, .int .i64 y.part] 34)) (wrC pg mj sw pp pa ch x y) (some ⟨b, 0, none⟩) (some ⟨z, 0, none⟩) (some ⟨z + 1, 0, none⟩) cap 1 2 := by
  subst hz
  refine ⟨(hp.alloc _).alloc _, ((Box.new ws 32 _).alloc _).lst 1 1 5 _ rfl rfl (by decide) (by unfold maxLen; omega), ?_, ?_⟩
  · have := (Box.new (ws.alloc (.cells #[.int .i64 ch.kind, .int .i64 ch.src, .int .i64 ch.dst, .int .i64 ch.size, .int .i64 ch.depth] 32)) 34 #[.int .i64 x.start, .int .i64 x.len, .int .i64 x.part, .int .i64 y.start, .int .i64 y.len, .int .i64 y.part]).lst 2 2 3 _ rfl rfl (by decide) (by unfold maxLen; omega)
    rwa [show (ws.alloc (.cells #[.int .i64 ch.kind, .int .i64 ch.src, .int .i64 ch.dst, .int .i64 ch.size, .int .i64 ch.depth] 32)).heap.size = ws.heap.size + 1 from by simp] at this
  · intro p hp
    simp only [wrC, List.mem_cons, List.not_mem_nil, or_false] at hp
    rcases hp with rfl | rfl
    · exact show sA.size ≤ maxLen by decide
    · exact show sB.size ≤ maxLen by decide

theorem own_lst {w : World} {base : Nat} {e : TypeId} {size : Nat} {ao : Option Addr} {cap n : Nat} {xs : List Value} (h : w.ownsRow base e size (.slice ao n cap) n xs) : Lst w ao n cap xs size := by
  obtain ⟨ao', cap', hv, h1, h2, h3, h4⟩ := own_form h
  injection hv with e1 e2 e3
  subst e1; subst e3
  refine ⟨own_src h, fun hp => ?_, h1, h2⟩
  cases ao with
  | none => have := (h3 rfl).1; omega
  | some ad => obtain ⟨g, rfl, _⟩ := h4 ad rfl; exact ⟨g, 0, rfl⟩

theorem Box.own {w : World} {g : Nat} {t : TypeId} {cs : Array Value} (h : Box w g t cs) (base n size : Nat) (xs : List Value) (hb : base ≤ g) (hc : cs.toList = xs) (hl : xs.length = n * size) (hm : n ≤ maxLen) : w.ownsRow base t size (.slice (some ⟨g, 0, none⟩) n n) n xs := by
  subst hc
  exact ⟨hl, .inr ⟨g, n, cs, rfl, hb, h, Nat.le_refl _, hm, by simpa using hl, by rw [List.take_of_length_le (by omega)]⟩⟩

theorem ne_some {b g k i : Nat} (h : b ≠ g) : ∀ ad : Addr, some (⟨b, k, none⟩ : Addr) = some ad → ad.block ≠ (⟨g, i, none⟩ : Addr).block := fun ad e => by
  injection e with e
  subst e
  exact h
theorem wr_src (w2 : World) (p q : Nat) : Src ((w2.alloc (.cells #[.int .i64 20, .int .i64 10, .int .i64 0, .slice (some ⟨p, 0, none⟩) 1 1, .slice none 0 0, .slice (some ⟨q, 0, none⟩) 1 1] 27)).alloc (.cells #[.string sB, .int .i64 2, .int .i64 1] 30)) (some ⟨w2.heap.size + 1, 0, none⟩) 1 1 [.string sB, .int .i64 2, .int .i64 1] 3 := by
  have := (Box.new (w2.alloc (.cells #[.int .i64 20, .int .i64 10, .int .i64 0, .slice (some ⟨p, 0, none⟩) 1 1, .slice none 0 0, .slice (some ⟨q, 0, none⟩) 1 1] 27)) 30 #[.string sB, .int .i64 2, .int .i64 1]).src 1 1 3 _ rfl rfl
  rwa [show (w2.alloc (.cells #[.int .i64 20, .int .i64 10, .int .i64 0, .slice (some ⟨p, 0, none⟩) 1 1, .slice none 0 0, .slice (some ⟨q, 0, none⟩) 1 1] 27)).heap.size = w2.heap.size + 1 from by simp] at this
theorem wr_own {w1 w2 : World} {p q : Nat} (H2 : OneAt w1 w2 p q) : ((w2.alloc (.cells #[.int .i64 20, .int .i64 10, .int .i64 0, .slice (some ⟨p, 0, none⟩) 1 1, .slice none 0 0, .slice (some ⟨q, 0, none⟩) 1 1] 27)).alloc (.cells #[.string sB, .int .i64 2, .int .i64 1] 30)).ownsRow w1.heap.size 30 3 (.slice (some ⟨p, 0, none⟩) 1 1) 1 [.string sA, .int .i64 1, .int .i64 0] := by
  have BA : Box ((w2.alloc (.cells #[.int .i64 20, .int .i64 10, .int .i64 0, .slice (some ⟨p, 0, none⟩) 1 1, .slice none 0 0, .slice (some ⟨q, 0, none⟩) 1 1] 27)).alloc (.cells #[.string sB, .int .i64 2, .int .i64 1] 30)) p 30 #[.string sA, .int .i64 1, .int .i64 0] := (H2.pb.alloc _).alloc _
  exact BA.own w1.heap.size 1 3 _ H2.hp rfl rfl (by unfold maxLen; omega)

theorem wr_mid {w1 w2 w3 : World} {p q : Nat} {v1 : Value} (H2 : OneAt w1 w2 p q)
    (hown3 : w3.ownsRow w1.heap.size 30 3 v1 (1 + 1) ([.string sA, .int .i64 1, .int .i64 0] ++ [.string sB, .int .i64 2, .int .i64 1]))
    (hgr3 : World.grownBy ((w2.alloc (.cells #[.int .i64 20, .int .i64 10, .int .i64 0, .slice (some ⟨p, 0, none⟩) 1 1, .slice none 0 0, .slice (some ⟨q, 0, none⟩) 1 1] 27)).alloc (.cells #[.string sB, .int .i64 2, .int .i64 1] 30)) w3 (Value.slice (some ⟨p, 0, none⟩) 1 1).ownBlock) :
    ∃ b cap, v1 = .slice (some ⟨b, 0, none⟩) 2 cap ∧ b ≠ w2.heap.size ∧
      w3.cell? ⟨w2.heap.size, 0, none⟩ = some (.int .i64 20) ∧ w3.cell? ⟨w2.heap.size, 1, none⟩ = some (.int .i64 10) ∧ w3.cell? ⟨w2.heap.size, 2, none⟩ = some (.int .i64 0) ∧ w3.cell? ⟨w2.heap.size, 3, none⟩ = some (.slice (some ⟨p, 0, none⟩) 1 1) ∧ w3.cell? ⟨w2.heap.size, 4, none⟩ = some (.slice none 0 0) ∧ w3.cell? ⟨w2.heap.size, 5, none⟩ = some (.slice (some ⟨q, 0, none⟩) 1 1) ∧
      w3.cell? ⟨b, 0, none⟩ = some (.string sA) ∧ w3.cell? ⟨b, 1, none⟩ = some (.int .i64 1) ∧ w3.cell? ⟨b, 2, none⟩ = some (.int .i64 0) ∧ w3.cell? ⟨b, 3, none⟩ = some (.string sB) ∧ w3.cell? ⟨b, 4, none⟩ = some (.int .i64 2) ∧ w3.cell? ⟨b, 5, none⟩ = some (.int .i64 1) ∧
      Lst w3 (some ⟨b, 0, none⟩) 2 cap [.string sA, .int .i64 1, .int .i64 0, .string sB, .int .i64 2, .int .i64 1] 3 ∧
      Box w3 w2.heap.size 27 #[.int .i64 20, .int .i64 10, .int .i64 0, .slice (some ⟨p, 0, none⟩) 1 1, .slice none 0 0, .slice (some ⟨q, 0, none⟩) 1 1] ∧ Chg w1 w3 (fun _ => False) ∧ w1.heap.size ≤ b ∧ b < w3.heap.size ∧ (∀ k, w3.frozen? ⟨w2.heap.size, k, none⟩ = false) ∧ (∀ k, w3.frozen? ⟨b, k, none⟩ = false) := by
  have hpl := H2.pb.lt
  have CA : Chg w2 ((w2.alloc (.cells #[.int .i64 20, .int .i64 10, .int .i64 0, .slice (some ⟨p, 0, none⟩) 1 1, .slice none 0 0, .slice (some ⟨q, 0, none⟩) 1 1] 27)).alloc (.cells #[.string sB, .int .i64 2, .int .i64 1] 30)) (fun _ => False) := ((Chg.refl _ _).alloc _).alloc _
  have BG : Box ((w2.alloc (.cells #[.int .i64 20, .int .i64 10, .int .i64 0, .slice (some ⟨p, 0, none⟩) 1 1, .slice none 0 0, .slice (some ⟨q, 0, none⟩) 1 1] 27)).alloc (.cells #[.string sB, .int .i64 2, .int .i64 1] 30)) w2.heap.size 27 #[.int .i64 20, .int .i64 10, .int .i64 0, .slice (some ⟨p, 0, none⟩) 1 1, .slice none 0 0, .slice (some ⟨q, 0, none⟩) 1 1] := (Box.new _ _ _).alloc _
  have M3 := BG.chg (Chg.of_grown (P := fun k => k = p) hgr3 (fun k hk _ => by have : some p = some k := hk; injection this with this; exact this.symm)) (by omega)
  have hf := hown3
  rcases hf.2 with ⟨_, h0⟩ | ⟨b, cap, cur, rfl, hb, hh, _⟩
  · omega
  have hbg : b ≠ w2.heap.size := by
    intro e
    subst e
    unfold Box at M3
    rw [hh] at M3
    injection M3 with M3
    injection M3 with _ M3
    exact absurd M3 (by decide)
  have L3 := own_lst hown3
  refine ⟨b, cap, rfl, hbg, M3.cell 0, M3.cell 1, M3.cell 2, M3.cell 3, M3.cell 4, M3.cell 5, ?_, ?_, ?_, ?_, ?_, ?_, L3, M3, ?_, hb, (Array.getElem?_eq_some_iff.1 hh).1, M3.frozen, fun k => by simp [World.frozen?, hh]⟩
  · exact L3.src.get _ rfl 0 _ rfl
  · exact L3.src.get _ rfl 1 _ rfl
  · exact L3.src.get _ rfl 2 _ rfl
  · exact L3.src.get _ rfl 3 _ rfl
  · exact L3.src.get _ rfl 4 _ rfl
  · exact L3.src.get _ rfl 5 _ rfl
  · exact (H2.chg.trans CA).grown hgr3 (fun k hk hlt => by have : some p = some k := hk; injection this with this; subst this; have := H2.hp; omega)


end Go.Proofs.Ytdhkbephofnfdaa

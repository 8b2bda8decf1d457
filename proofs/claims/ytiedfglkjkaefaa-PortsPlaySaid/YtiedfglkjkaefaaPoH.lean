/- ports: Call. -/
import Derived.Test.YtiedfglkjkaefaaPoG
namespace Go.Proofs.Ytiedfglkjkaefaa
open Go.RowKit

theorem of_any (n : Int) (w : World) : Calls Try.prog 38 #[.int .i64 n] w fun e w' => e = .returned (.int .i64 (n % 4294967296)) ∧ w = w' := by
  go_enter Try.func38, Try.ntmps38
  go_wp2
  go_ret
  exact ⟨ret_int (by first | rfl | omega), rfl⟩
theorem of_at (n r : Int) (h : n % 4294967296 = r) (w : World) : Calls Try.prog 38 #[.int .i64 n] w fun e w' => e = .returned (.int .i64 r) ∧ w = w' := by
  subst h; exact of_any n w

def caC (l : List ChanD) (Q : Que) (N : Nat) (part op a0 a1 a2 : Int) : Int := if op = 1 then cwC l Q N part a0 a1 a2 else if op = 2 then crC l Q N part a0 a1 a2 else if op = 3 then stC l Q part a0 else if op = 4 then part % 4294967296 else 4294967292
def caQ (l : List ChanD) (Q : Que) (N : Nat) (f : Nat → Int) (part op a0 a1 a2 : Int) : Que := if op = 1 then cwQ l Q N f part a0 a1 a2 else if op = 2 then crQ l Q N part a0 a1 a2 else Q
def caF (l : List ChanD) (Q : Que) (N : Nat) (f : Nat → Int) (part op a0 a1 a2 : Int) : Nat → Int := if op = 2 then crF l Q N f part a0 a1 a2 else f

theorem NMTo.pre {w w0 w' : World} {P : Nat → Prop} {n : Nat} {l : List ChanD} {Q' : Que} {a b N : Nat} {f' : Nat → Int} {r : Int} {e : Ending} (h : NMTo w w' P n l Q' a b N f' r e) (c : Chg w0 w (fun _ => False)) : NMTo w0 w' P n l Q' a b N f' r e := ⟨h.1, h.2.1, (c.mono (fun _ _ h => h.elim)).trans h.2.2⟩
theorem NMTo.cong {w w' : World} {P : Nat → Prop} {n : Nat} {l : List ChanD} {Q1 Q2 : Que} {a b N : Nat} {f1 f2 : Nat → Int} {r1 r2 : Int} {e : Ending} (h : NMTo w w' P n l Q1 a b N f1 r1 e) (hq : Q1 = Q2) (hf : f1 = f2) (hr : r1 = r2) : NMTo w w' P n l Q2 a b N f2 r2 e := by
  subst hq hf hr; exact h

set_option maxRecDepth 100000 in
set_option maxHeartbeats 4000000 in
theorem call_c {w : World} {P : Nat → Prop} {n : Nat} {l : List ChanD} {Q : Que} {a b N : Nat} {f : Nat → Int} (h : NM w P n l Q a b N f) (part op a0 a1 a2 : Int) (h0 : 0 ≤ a0 ∧ a0 ≤ 4294967295) (h1 : 0 ≤ a1 ∧ a1 ≤ 4294967295) (h2 : 0 ≤ a2 ∧ a2 ≤ 4294967295) :
    Calls Try.prog 18 #[.pointer (some ⟨n, 0, none⟩), .int .i64 part, .int .i64 op, .agg #[.int .i64 a0, .int .i64 a1, .int .i64 a2], .iface 47 (.pointer (some ⟨a, 0, none⟩))] w
      fun e w' => NMTo w w' P n l (caQ l Q N f part op a0 a1 a2) a b N (caF l Q N f part op a0 a1 a2) (caC l Q N part op a0 a1 a2) e := by
  have HH := Lib.hid h
  clear h
  go_enter Try.func18, Try.ntmps18
  go_wp2_with fail
  go_loopg [12] 3 (fun g s12 wr => ∃ k : Nat, g + k = 3 ∧ s12 = .int .i64 k ∧ Hid (Chg w wr (fun _ => False)) ∧ Hid (Box wr w.heap.size 50 #[.int .i64 a0, .int .i64 a1, .int .i64 a2]))
  case atStart => exact ⟨0, rfl, rfl, (Chg.refl w _).alloc _, Box.new _ _ _⟩
  case round =>
    obtain ⟨k, hk, rfl, HC, HB⟩ := hrel
    have HK := Lib.hid hk
    have hlt := HB.out.lt
    by_cases hl : k < 3
    · have hcase : k = 0 ∨ k = 1 ∨ k = 2 := by omega
      have CS : ∀ (i : Nat) (u : Value), Chg w (wr.setCell ⟨w.heap.size, i, none⟩ u) (fun _ => False) := fun i u => HC.out.trans' ((Chg.refl wr (fun j => j = w.heap.size)).setCell (p := ⟨w.heap.size, i, none⟩) (fun _ => rfl) u) (fun j hj h => by omega)
      have HCS := Lib.hid CS
      clear hk CS
      rcases hcase with rfl | rfl | rfl
      · have x0 := HB.out.cell 0
        have f0 := HB.out.frozen 0
        go_wp2_with fail
        refine (of_at a0 a0 (by omega) _).mono ?_
        rintro e w' ⟨rfl, rfl⟩
        go_wp2_with fail
        go_roundg (gk - 1)
        case measure => have := HK.out; omega
        case rel => exact ⟨1, by have := HK.out; omega, by go_num, HCS.out _ _, HB.out.set 0 (.int .i64 a0)⟩
      · have x0 := HB.out.cell 1
        have f0 := HB.out.frozen 1
        go_wp2_with fail
        refine (of_at a1 a1 (by omega) _).mono ?_
        rintro e w' ⟨rfl, rfl⟩
        go_wp2_with fail
        go_roundg (gk - 1)
        case measure => have := HK.out; omega
        case rel => exact ⟨2, by have := HK.out; omega, by go_num, HCS.out _ _, HB.out.set 1 (.int .i64 a1)⟩
      · have x0 := HB.out.cell 2
        have f0 := HB.out.frozen 2
        go_wp2_with fail
        refine (of_at a2 a2 (by omega) _).mono ?_
        rintro e w' ⟨rfl, rfl⟩
        go_wp2_with fail
        go_roundg (gk - 1)
        case measure => have := HK.out; omega
        case rel => exact ⟨3, by have := HK.out; omega, by go_num, HCS.out _ _, HB.out.set 2 (.int .i64 a2)⟩
    · obtain rfl : k = 3 := by omega
      have x0 := HB.out.cell 0
      have x1 := HB.out.cell 1
      have x2 := HB.out.cell 2
      have HN := Lib.hid (HH.out.keep HC.out)
      clear hk hl
      by_cases o1 : op = 1
      · subst o1
        go_wp2_with fail
        refine (write_c HN.out part a0 a1 a2 h0 h1 h2).mono ?_
        rintro e w' ⟨rfl, N1, C1⟩
        have HR : Hid (NMTo wr w' P n l (cwQ l Q N f part a0 a1 a2) a b N f (cwC l Q N part a0 a1 a2) _) := ⟨rfl, N1, C1⟩
        clear N1 C1
        go_wp2_with fail
        go_ret
        exact HR.out.pre HC.out
      have b1 : (op == 1) = false := beq_eq_false_iff_ne.2 o1
      by_cases o2 : op = 2
      · subst o2
        clear o1
        go_wp2_with fail
        refine (read_c HN.out part a0 a1 a2 h0 h1 h2).mono ?_
        rintro e w' ⟨rfl, N1, C1⟩
        have HR : Hid (NMTo wr w' P n l (crQ l Q N part a0 a1 a2) a b N (crF l Q N f part a0 a1 a2) (crC l Q N part a0 a1 a2) _) := ⟨rfl, N1, C1⟩
        clear N1 C1
        go_wp2_with fail
        go_ret
        exact HR.out.pre HC.out
      have b2 : (op == 2) = false := beq_eq_false_iff_ne.2 o2
      have HO := Lib.hid (And.intro o1 o2)
      have hQ : Hid (Q = caQ l Q N f part op a0 a1 a2 ∧ f = caF l Q N f part op a0 a1 a2) := by
        show _ ∧ _
        unfold caQ caF
        rw [if_neg o1, if_neg o2, if_neg o2]
        exact ⟨rfl, rfl⟩
      have hC : Hid (caC l Q N part op a0 a1 a2 = if op = 3 then stC l Q part a0 else if op = 4 then part % 4294967296 else 4294967292) := by
        show _ = _
        unfold caC
        rw [if_neg o1, if_neg o2]
      by_cases o3 : op = 3
      · subst o3
        clear o1 o2
        go_wp2_with fail
        refine (status_p HN.out.net part a0 (by omega) (by omega) rfl).mono ?_
        rintro e w' ⟨rfl, -, C1⟩
        go_wp2_with fail
        go_ret
        exact ((NMTo.none (r := stC l Q part a0) HN.out C1).pre HC.out).cong hQ.out.1 hQ.out.2 (by rw [hC.out]; simp)
      have b3 : (op == 3) = false := beq_eq_false_iff_ne.2 o3
      by_cases o4 : op = 4
      · subst o4
        clear o1 o2 o3
        go_wp2_with fail
        refine (of_any part _).mono ?_
        rintro e w' ⟨rfl, rfl⟩
        go_wp2_with fail
        go_ret
        exact (NMTo.none (r := part % 4294967296) HH.out HC.out).cong hQ.out.1 hQ.out.2 (by rw [hC.out]; simp)
      have b4 : (op == 4) = false := beq_eq_false_iff_ne.2 o4
      have hC2 := Lib.hid (hC.out.trans ((if_neg o3).trans (if_neg o4)))
      clear o1 o2 o3 o4
      go_wp2_with fail
      go_ret
      exact (NMTo.none (r := 4294967292) HH.out HC.out).cong hQ.out.1 hQ.out.2 hC2.out.symm
end Go.Proofs.Ytiedfglkjkaefaa

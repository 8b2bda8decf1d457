/- PortsCodes: the walk (printed by gen_portscodes.py). -/
import Derived.Test.YtiedfglkjkaefaaPoH
import Derived.Test.YtiedfglkjkaefaaPhysAlive
namespace Go.Proofs.Ytiedfglkjkaefaa
open Go.RowKit

theorem conv_constN (xs : List Int) (m : Nat) (w : World) : (convert 22 22 (.slice (some ⟨w.heap.size, 0, none⟩) m m)).run Try.prog (w.alloc (.cells (u8s xs).toArray 5)) = .ok (.slice (some ⟨w.heap.size, 0, none⟩) m m) (w.alloc (.cells (u8s xs).toArray 5 ((u8s xs).toArray.size, (u8s xs).toArray.size + 1))) :=
  Lib.run_convert_bytes_const w 22 5 (u8s xs).toArray m m Try.underlying22 Try.underlying5
theorem src_nil (w : World) : Src w none 0 0 (u8s []) 1 := ⟨rfl, fun _ => ⟨rfl, rfl⟩, fun ad h => (by cases h)⟩
theorem byte_small {xs : List Int} (h : xs.all (fun x => decide (0 ≤ x) && decide (x < 256)) = true) : byteL xs := fun x hx => by
  have := List.all_eq_true.1 h x hx
  simpa using this
theorem call_p {w : World} {P : Nat → Prop} {n : Nat} {l : List ChanD} {Q Q' : Que} {a b N : Nat} {f f' : Nat → Int} {r : Int} (h : NM w P n l Q a b N f) (part op a0 a1 a2 : Int) (h0 : (decide (0 ≤ a0) && decide (a0 ≤ 4294967295) && decide (0 ≤ a1) && decide (a1 ≤ 4294967295) && decide (0 ≤ a2) && decide (a2 ≤ 4294967295)) = true)
    (hc : caC l Q N part op a0 a1 a2 = r) (hq : caQ l Q N f part op a0 a1 a2 = Q') (hf : caF l Q N f part op a0 a1 a2 = f') :
    Calls Try.prog 18 #[.pointer (some ⟨n, 0, none⟩), .int .i64 part, .int .i64 op, .agg #[.int .i64 a0, .int .i64 a1, .int .i64 a2], .iface 47 (.pointer (some ⟨a, 0, none⟩))] w
      fun e w' => NMTo w w' P n l Q' a b N f' r e := by
  simp only [Bool.and_eq_true, decide_eq_true_eq] at h0
  exact (call_c h part op a0 a1 a2 ⟨h0.1.1.1.1.1, h0.1.1.1.1.2⟩ ⟨h0.1.1.1.2, h0.1.1.2⟩ ⟨h0.1.2, h0.2⟩).mono fun e w' h => h.cong hq hf hc
def zz : List Int := [122, 122]
def fz : Nat → Int := ptN (fun _ => 0) 100 zz
def zero4 : List Int := [0, 0, 0, 0]
def codes : List Int := [4294967295, 4294967295, 4294967295, 4294967294, 4294967294, 4294967295, 4294967295, 1, 1, 0, 4294967294, 4294967294, 2, 4294967293, 4294967295, 4294967294, 4294967294, 4294967294, 0, 4294967293, 1, 1, 4294967292]
/-- What stands between two calls. -/
structure CodAt (W : World) (n a b : Nat) (x y z : List (List Int)) (f : Nat → Int) (wr : World) : Prop where
  nm : NM wr (fun k => k < W.heap.size ∨ k = a ∨ k = b) n (twoL 4 1) (aq x y z) a b 4096 f
  chg : Chg W wr (fun k => ¬ k < W.heap.size)
  lb : W.heap.size ≤ b
section
variable {W wr w' : World} {n a b : Nat} {x y z : List (List Int)} {f : Nat → Int}
theorem CodAt.keep (S : CodAt W n a b x y z f wr) (C : Chg wr w' (fun _ => False)) : CodAt W n a b x y z f w' := ⟨S.nm.keep C, S.chg.trans (C.mono (fun _ _ h => h.elim)), S.lb⟩
theorem cod_write (S : CodAt W n a b x y z f wr) (part port : Int) (h1 : -9223372036854775808 ≤ port) (h2 : port ≤ 9223372036854775807) {ao : Option Addr} {m c : Nat} (xs : List Int) (hl : xs.length = m) (hS : Src wr ao m c (u8s xs) 1) (hb : byteL xs) (hm : m ≤ 1000) {r : Int} {z' : List (List Int)} (hr : wrC (twoL 4 1) (aq x y z) part port xs.length = r) (hq : wrQ (twoL 4 1) (aq x y z) part port xs = aq x y z') :
    Calls Try.prog 13 #[.pointer (some ⟨n, 0, none⟩), .int .i64 part, .int .i64 port, .slice ao m c] wr fun e w' => e = .returned (.int .i64 r) ∧ CodAt W n a b x y z' f w' := by
  refine (write_p S.nm.net part port h1 h2 m hl hS hb (by omega) hr hq).mono ?_
  rintro e w' ⟨rfl, N, C⟩
  exact ⟨rfl, ⟨S.nm.net_to C N, S.chg.trans (C.mono (fun k _ h h2 => h (.inl h2))), S.lb⟩⟩
theorem cod_status (S : CodAt W n a b x y z f wr) (part port : Int) (h1 : -9223372036854775808 ≤ port) (h2 : port ≤ 9223372036854775807) {r : Int} (hr : stC (twoL 4 1) (aq x y z) part port = r) :
    Calls Try.prog 16 #[.pointer (some ⟨n, 0, none⟩), .int .i64 part, .int .i64 port] wr fun e w' => e = .returned (.int .i64 r) ∧ CodAt W n a b x y z f w' := by
  refine (status_p S.nm.net part port h1 h2 hr).mono ?_
  rintro e w' ⟨rfl, -, C⟩
  exact ⟨rfl, S.keep C⟩
theorem cod_messages (S : CodAt W n a b x y z f wr) (part : Int) {r : Int} (hr : msK (twoL 4 1) (aq x y z) part (twoL 4 1).length = r) :
    Calls Try.prog 14 #[.pointer (some ⟨n, 0, none⟩), .int .i64 part] wr fun e w' => e = .returned (.int .i64 r) ∧ CodAt W n a b x y z f w' := by
  refine (messages_p S.nm.net part hr).mono ?_
  rintro e w' ⟨rfl, -, C⟩
  exact ⟨rfl, S.keep C⟩
theorem cod_call (S : CodAt W n a b x y z f wr) (part op a0 a1 a2 : Int) (h0 : (decide (0 ≤ a0) && decide (a0 ≤ 4294967295) && decide (0 ≤ a1) && decide (a1 ≤ 4294967295) && decide (0 ≤ a2) && decide (a2 ≤ 4294967295)) = true) {r : Int} {x' y' z' : List (List Int)} {f' : Nat → Int}
    (hc : caC (twoL 4 1) (aq x y z) 4096 part op a0 a1 a2 = r) (hq : caQ (twoL 4 1) (aq x y z) 4096 f part op a0 a1 a2 = aq x' y' z') (hf : caF (twoL 4 1) (aq x y z) 4096 f part op a0 a1 a2 = f') :
    Calls Try.prog 18 #[.pointer (some ⟨n, 0, none⟩), .int .i64 part, .int .i64 op, .agg #[.int .i64 a0, .int .i64 a1, .int .i64 a2], .iface 47 (.pointer (some ⟨a, 0, none⟩))] wr
      fun e w' => e = .returned (.int .i64 r) ∧ CodAt W n a b x' y' z' f' w' := by
  refine (call_p S.nm part op a0 a1 a2 h0 hc hq hf).mono ?_
  rintro e w' ⟨rfl, N, C⟩
  refine ⟨rfl, ⟨N, S.chg.trans (C.mono (fun k _ h h2 => ?_)), S.lb⟩⟩
  rcases h with h | h
  · have := S.lb; omega
  · exact h (.inl h2)
end

theorem cv0 : wrC (twoL 4 1) (aq [] [] []) 1 2 ([122, 122] : List Int).length = 0 := by kernel_rfl
theorem cq0 : wrQ (twoL 4 1) (aq [] [] []) 1 2 [122, 122] = (aq [] [] [zz]) := (awr2 (s := 4) (d := 1) (xs := [122, 122]) (x := []) (y := []) (z := []) (by decide) (by decide) (by decide)).2
theorem cv1 : wrC (twoL 4 1) (aq [] [] [zz]) 0 9 ([97] : List Int).length = 4294967295 := by kernel_rfl
theorem cq1 : wrQ (twoL 4 1) (aq [] [] [zz]) 0 9 [97] = (aq [] [] [zz]) := by kernel_rfl
theorem cv2 : wrC (twoL 4 1) (aq [] [] [zz]) 0 (-1) ([97] : List Int).length = 4294967295 := by kernel_rfl
theorem cq2 : wrQ (twoL 4 1) (aq [] [] [zz]) 0 (-1) [97] = (aq [] [] [zz]) := by kernel_rfl
theorem cv3 : wrC (twoL 4 1) (aq [] [] [zz]) 1 0 ([97] : List Int).length = 4294967295 := by kernel_rfl
theorem cq3 : wrQ (twoL 4 1) (aq [] [] [zz]) 1 0 [97] = (aq [] [] [zz]) := by kernel_rfl
theorem cv4 : wrC (twoL 4 1) (aq [] [] [zz]) 0 0 ([] : List Int).length = 4294967294 := by kernel_rfl
theorem cq4 : wrQ (twoL 4 1) (aq [] [] [zz]) 0 0 [] = (aq [] [] [zz]) := by kernel_rfl
theorem cv5 : wrC (twoL 4 1) (aq [] [] [zz]) 0 0 ([97, 98, 99, 100, 101] : List Int).length = 4294967294 := by kernel_rfl
theorem cq5 : wrQ (twoL 4 1) (aq [] [] [zz]) 0 0 [97, 98, 99, 100, 101] = (aq [] [] [zz]) := by kernel_rfl
theorem cv6 : wrC (twoL 4 1) (aq [] [] [zz]) 7 0 ([97] : List Int).length = 4294967295 := by kernel_rfl
theorem cq6 : wrQ (twoL 4 1) (aq [] [] [zz]) 7 0 [97] = (aq [] [] [zz]) := by kernel_rfl
theorem cv7 : stC (twoL 4 1) (aq [] [] [zz]) 0 3 = 4294967295 := by kernel_rfl
theorem cv8 : stC (twoL 4 1) (aq [] [] [zz]) 0 2 = 1 := by kernel_rfl
theorem cv9 : msK (twoL 4 1) (aq [] [] [zz]) 0 (twoL 4 1).length = 1 := by kernel_rfl
theorem cv10 : msK (twoL 4 1) (aq [] [] [zz]) 9 (twoL 4 1).length = 0 := by kernel_rfl
theorem cv11 : caC (twoL 4 1) (aq [] [] [zz]) 4096 0 2 2 100 1 = 4294967294 := by kernel_rfl
theorem cq11 : caQ (twoL 4 1) (aq [] [] [zz]) 4096 (fun _ => 0) 0 2 2 100 1 = (aq [] [] [zz]) := by kernel_rfl
theorem cf11 : caF (twoL 4 1) (aq [] [] [zz]) 4096 (fun _ => 0) 0 2 2 100 1 = (fun _ => 0) := by kernel_rfl
theorem cv12 : caC (twoL 4 1) (aq [] [] [zz]) 4096 0 2 2 4095 4 = 4294967294 := by kernel_rfl
theorem cq12 : caQ (twoL 4 1) (aq [] [] [zz]) 4096 (fun _ => 0) 0 2 2 4095 4 = (aq [] [] [zz]) := by kernel_rfl
theorem cf12 : caF (twoL 4 1) (aq [] [] [zz]) 4096 (fun _ => 0) 0 2 2 4095 4 = (fun _ => 0) := by kernel_rfl
theorem cv13 : caC (twoL 4 1) (aq [] [] [zz]) 4096 0 2 2 100 4 = 2 := by kernel_rfl
theorem cq13 : caQ (twoL 4 1) (aq [] [] [zz]) 4096 (fun _ => 0) 0 2 2 100 4 = (aq [] [] []) := (show caQ (twoL 4 1) (aq [] [] [zz]) 4096 (fun _ => 0) 0 2 2 100 4 = rdQ (twoL 4 1) (aq [] [] [zz]) 0 2 4 from by kernel_rfl).trans (ard2 (s := 4) (d := 1) (x := []) (y := []) (m := zz) (r := []) (most := 4) (by decide)).2.1
theorem cf13 : caF (twoL 4 1) (aq [] [] [zz]) 4096 (fun _ => 0) 0 2 2 100 4 = fz := by kernel_rfl
theorem cv14 : caC (twoL 4 1) (aq [] [] []) 4096 0 2 2 100 4 = 4294967293 := by kernel_rfl
theorem cq14 : caQ (twoL 4 1) (aq [] [] []) 4096 fz 0 2 2 100 4 = (aq [] [] []) := by kernel_rfl
theorem cf14 : caF (twoL 4 1) (aq [] [] []) 4096 fz 0 2 2 100 4 = fz := by kernel_rfl
theorem cv15 : caC (twoL 4 1) (aq [] [] []) 4096 0 2 0 100 4 = 4294967295 := by kernel_rfl
theorem cq15 : caQ (twoL 4 1) (aq [] [] []) 4096 fz 0 2 0 100 4 = (aq [] [] []) := by kernel_rfl
theorem cf15 : caF (twoL 4 1) (aq [] [] []) 4096 fz 0 2 0 100 4 = fz := by kernel_rfl
theorem cv16 : caC (twoL 4 1) (aq [] [] []) 4096 0 1 0 4095 2 = 4294967294 := by kernel_rfl
theorem cq16 : caQ (twoL 4 1) (aq [] [] []) 4096 fz 0 1 0 4095 2 = (aq [] [] []) := by kernel_rfl
theorem cf16 : caF (twoL 4 1) (aq [] [] []) 4096 fz 0 1 0 4095 2 = fz := by kernel_rfl
theorem cv17 : caC (twoL 4 1) (aq [] [] []) 4096 0 1 0 0 65 = 4294967294 := by kernel_rfl
theorem cq17 : caQ (twoL 4 1) (aq [] [] []) 4096 fz 0 1 0 0 65 = (aq [] [] []) := by kernel_rfl
theorem cf17 : caF (twoL 4 1) (aq [] [] []) 4096 fz 0 1 0 0 65 = fz := by kernel_rfl
theorem cv18 : caC (twoL 4 1) (aq [] [] []) 4096 0 1 0 0 0 = 4294967294 := by kernel_rfl
theorem cq18 : caQ (twoL 4 1) (aq [] [] []) 4096 fz 0 1 0 0 0 = (aq [] [] []) := by kernel_rfl
theorem cf18 : caF (twoL 4 1) (aq [] [] []) 4096 fz 0 1 0 0 0 = fz := by kernel_rfl
theorem cv19 : caC (twoL 4 1) (aq [] [] []) 4096 0 1 0 0 4 = 0 := by kernel_rfl
theorem cq19 : caQ (twoL 4 1) (aq [] [] []) 4096 fz 0 1 0 0 4 = (aq [zero4] [] []) := (show caQ (twoL 4 1) (aq [] [] []) 4096 fz 0 1 0 0 4 = wrQ (twoL 4 1) (aq [] [] []) 0 0 zero4 from by kernel_rfl).trans (awr0 (s := 4) (d := 1) (xs := zero4) (x := []) (y := []) (z := []) (by decide) (by decide) (by decide)).2
theorem cf19 : caF (twoL 4 1) (aq [] [] []) 4096 fz 0 1 0 0 4 = fz := by kernel_rfl
theorem cv20 : caC (twoL 4 1) (aq [zero4] [] []) 4096 0 1 0 0 4 = 4294967293 := by kernel_rfl
theorem cq20 : caQ (twoL 4 1) (aq [zero4] [] []) 4096 fz 0 1 0 0 4 = (aq [zero4] [] []) := by kernel_rfl
theorem cf20 : caF (twoL 4 1) (aq [zero4] [] []) 4096 fz 0 1 0 0 4 = fz := by kernel_rfl
theorem cv21 : caC (twoL 4 1) (aq [zero4] [] []) 4096 0 3 0 0 0 = 1 := by kernel_rfl
theorem cq21 : caQ (twoL 4 1) (aq [zero4] [] []) 4096 fz 0 3 0 0 0 = (aq [zero4] [] []) := by kernel_rfl
theorem cf21 : caF (twoL 4 1) (aq [zero4] [] []) 4096 fz 0 3 0 0 0 = fz := by kernel_rfl
theorem cv22 : caC (twoL 4 1) (aq [zero4] [] []) 4096 1 4 0 0 0 = 1 := by kernel_rfl
theorem cq22 : caQ (twoL 4 1) (aq [zero4] [] []) 4096 fz 1 4 0 0 0 = (aq [zero4] [] []) := by kernel_rfl
theorem cf22 : caF (twoL 4 1) (aq [zero4] [] []) 4096 fz 1 4 0 0 0 = fz := by kernel_rfl
theorem cv23 : caC (twoL 4 1) (aq [zero4] [] []) 4096 0 0 0 0 0 = 4294967292 := by kernel_rfl
theorem cq23 : caQ (twoL 4 1) (aq [zero4] [] []) 4096 fz 0 0 0 0 0 = (aq [zero4] [] []) := by kernel_rfl
theorem cf23 : caF (twoL 4 1) (aq [zero4] [] []) 4096 fz 0 0 0 0 0 = fz := by kernel_rfl
end Go.Proofs.Ytiedfglkjkaefaa

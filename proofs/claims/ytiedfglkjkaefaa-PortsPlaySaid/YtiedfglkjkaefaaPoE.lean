/- ports: what the calls answer on the channels of Two, plainly; arguments of bytes. -/
import Derived.Test.YtiedfglkjkaefaaPoD
import Derived.Test.YtiedfglkjkaefaaRead
import Derived.Test.YtiedfglkjkaefaaRow
namespace Go.Proofs.Ytiedfglkjkaefaa
open Go.RowKit Go.ChangeShapes Go.WideShapes Go.ChangeAt Go.Deep

/-- The messages of the three channels. -/
def aq (x y z : List (List Int)) : Que := fun i => if i = 0 then x else if i = 1 then y else if i = 2 then z else []
section
variable {x y z q : List (List Int)}
theorem aq0 : aq x y z 0 = x := rfl
theorem aq1 : aq x y z 1 = y := rfl
theorem aq2 : aq x y z 2 = z := rfl
theorem aq_set0 : qSet (aq x y z) 0 q = aq q y z := by
  funext i
  unfold qSet aq
  split <;> rfl
theorem aq_set1 : qSet (aq x y z) 1 q = aq x q z := by
  funext i
  unfold qSet aq
  split
  · rename_i h; subst h; rfl
  · rfl
theorem aq_set2 : qSet (aq x y z) 2 q = aq x y q := by
  funext i
  unfold qSet aq
  split
  · rename_i h; subst h; rfl
  · rename_i h
    split
    · rfl
    · split
      · rfl
      · first | rfl | (rw [if_neg h])
theorem aq_none : (fun _ => [] : Que) = aq [] [] [] := by
  funext i
  unfold aq
  split
  · rfl
  · split
    · rfl
    · split <;> rfl

variable {s d : Int} {xs m : List Int} {r : List (List Int)}
theorem awr0 (h0 : 0 < xs.length) (h1 : (xs.length : Int) ≤ s) (h2 : (x.length : Int) < d) : wrC (twoL s d) (aq x y z) 0 0 xs.length = 0 ∧ wrQ (twoL s d) (aq x y z) 0 0 xs = aq (x ++ [xs]) y z := by
  have := two_wr0 (Q := aq x y z) h0 h1 h2
  rwa [aq_set0] at this
theorem awr0f (h0 : 0 < xs.length) (h1 : (xs.length : Int) ≤ s) (h2 : d ≤ (x.length : Int)) : wrC (twoL s d) (aq x y z) 0 0 xs.length = 4294967293 ∧ wrQ (twoL s d) (aq x y z) 0 0 xs = aq x y z := two_wr0f (Q := aq x y z) h0 h1 h2
theorem awr1 (h0 : 0 < xs.length) (h1 : (xs.length : Int) ≤ s) : wrC (twoL s d) (aq x y z) 0 1 xs.length = 0 ∧ wrQ (twoL s d) (aq x y z) 0 1 xs = aq x [xs] z := by
  have := two_wr1 (d := d) (Q := aq x y z) h0 h1
  rwa [aq_set1] at this
theorem awr1b (h : xs.length = 0 ∨ s < (xs.length : Int)) : wrC (twoL s d) (aq x y z) 0 1 xs.length = 4294967294 ∧ wrQ (twoL s d) (aq x y z) 0 1 xs = aq x y z :=
  two_bad (i := 1) (part := 0) (port := 1) rfl (show 1 < 3 by decide) rfl rfl h
theorem awr2 (h0 : 0 < xs.length) (h1 : (xs.length : Int) ≤ s) (h2 : (z.length : Int) < d) : wrC (twoL s d) (aq x y z) 1 2 xs.length = 0 ∧ wrQ (twoL s d) (aq x y z) 1 2 xs = aq x y (z ++ [xs]) := by
  have := two_wr2 (Q := aq x y z) h0 h1 h2
  rwa [aq_set2] at this

theorem rdQ_no {l : List ChanD} {Q : Que} {part port most : Int} (h : rdOk l Q part port most = false) : rdQ l Q part port most = Q ∧ rdB l Q part port most = [] := by
  refine ⟨?_, ?_⟩
  · unfold rdQ; rw [h]; exact if_neg (fun h => absurd h.1 (by decide))
  · unfold rdB; rw [if_neg (by rw [h]; decide)]
theorem rd_e {l : List ChanD} {Q : Que} {part port most : Int} {i : Nat} (hp : portV l part port = i) (hi : i < l.length) (hd : l[i].dst = part) (hq : Q i = []) : rdC l Q part port most = 4294967293 ∧ rdQ l Q part port most = Q ∧ rdB l Q part port most = [] := by
  obtain ⟨a, b⟩ := rd_empty (most := most) hp hi hd hq
  exact ⟨b, rdQ_no a⟩
theorem rd_l {l : List ChanD} {Q : Que} {part port most : Int} {i : Nat} (hp : portV l part port = i) (hi : i < l.length) (hd : l[i].dst = part) (hq : Q i = m :: r) (hl : most < (m.length : Int)) : rdC l Q part port most = 4294967294 ∧ rdQ l Q part port most = Q ∧ rdB l Q part port most = [] := by
  obtain ⟨a, b⟩ := rd_long hp hi hd hq hl
  exact ⟨b, rdQ_no a⟩
theorem rd_g {l : List ChanD} {Q : Que} {part port most : Int} {i : Nat} (hp : portV l part port = i) (hi : i < l.length) (hd : l[i].dst = part) (hq : Q i = m :: r) (hl : (m.length : Int) ≤ most) : rdC l Q part port most = m.length ∧ rdB l Q part port most = m ∧ (l[i].kind = 0 → rdQ l Q part port most = Q) ∧ (l[i].kind = 1 → rdQ l Q part port most = qSet Q i r) := by
  obtain ⟨a, b⟩ := rd_good hp hi hd hq (show ¬ most < (m.length : Int) by omega)
  obtain ⟨c, e, f⟩ := rd_yes hp hi hq a
  exact ⟨b, c, e, f⟩

variable {most : Int}
theorem ard0e : rdC (twoL s d) (aq [] y z) 1 0 most = 4294967293 ∧ rdQ (twoL s d) (aq [] y z) 1 0 most = aq [] y z ∧ rdB (twoL s d) (aq [] y z) 1 0 most = [] :=
  rd_e (i := 0) (l := twoL s d) (Q := aq [] y z) (part := 1) (port := 0) rfl (show 0 < 3 by decide) rfl rfl
theorem ard0l (h : most < (m.length : Int)) : rdC (twoL s d) (aq (m :: r) y z) 1 0 most = 4294967294 ∧ rdQ (twoL s d) (aq (m :: r) y z) 1 0 most = aq (m :: r) y z ∧ rdB (twoL s d) (aq (m :: r) y z) 1 0 most = [] :=
  rd_l (i := 0) (l := twoL s d) (Q := aq (m :: r) y z) (part := 1) (port := 0) rfl (show 0 < 3 by decide) rfl rfl h
theorem ard0 (h : (m.length : Int) ≤ most) : rdC (twoL s d) (aq (m :: r) y z) 1 0 most = m.length ∧ rdQ (twoL s d) (aq (m :: r) y z) 1 0 most = aq r y z ∧ rdB (twoL s d) (aq (m :: r) y z) 1 0 most = m := by
  obtain ⟨a, b, -, c⟩ := rd_g (i := 0) (l := twoL s d) (Q := aq (m :: r) y z) (part := 1) (port := 0) rfl (show 0 < 3 by decide) rfl rfl h
  have c := c rfl
  rw [aq_set0] at c
  exact ⟨a, c, b⟩
theorem ard1e : rdC (twoL s d) (aq x [] z) 1 1 most = 4294967293 ∧ rdQ (twoL s d) (aq x [] z) 1 1 most = aq x [] z ∧ rdB (twoL s d) (aq x [] z) 1 1 most = [] :=
  rd_e (i := 1) (l := twoL s d) (Q := aq x [] z) (part := 1) (port := 1) rfl (show 1 < 3 by decide) rfl rfl
theorem ard1l (h : most < (m.length : Int)) : rdC (twoL s d) (aq x (m :: r) z) 1 1 most = 4294967294 ∧ rdQ (twoL s d) (aq x (m :: r) z) 1 1 most = aq x (m :: r) z ∧ rdB (twoL s d) (aq x (m :: r) z) 1 1 most = [] :=
  rd_l (i := 1) (l := twoL s d) (Q := aq x (m :: r) z) (part := 1) (port := 1) rfl (show 1 < 3 by decide) rfl rfl h
theorem ard1 (h : (m.length : Int) ≤ most) : rdC (twoL s d) (aq x (m :: r) z) 1 1 most = m.length ∧ rdQ (twoL s d) (aq x (m :: r) z) 1 1 most = aq x (m :: r) z ∧ rdB (twoL s d) (aq x (m :: r) z) 1 1 most = m := by
  obtain ⟨a, b, c, -⟩ := rd_g (i := 1) (l := twoL s d) (Q := aq x (m :: r) z) (part := 1) (port := 1) rfl (show 1 < 3 by decide) rfl rfl h
  exact ⟨a, c rfl, b⟩
theorem ard2e : rdC (twoL s d) (aq x y []) 0 2 most = 4294967293 ∧ rdQ (twoL s d) (aq x y []) 0 2 most = aq x y [] ∧ rdB (twoL s d) (aq x y []) 0 2 most = [] :=
  rd_e (i := 2) (l := twoL s d) (Q := aq x y []) (part := 0) (port := 2) rfl (show 2 < 3 by decide) rfl rfl
theorem ard2l (h : most < (m.length : Int)) : rdC (twoL s d) (aq x y (m :: r)) 0 2 most = 4294967294 ∧ rdQ (twoL s d) (aq x y (m :: r)) 0 2 most = aq x y (m :: r) ∧ rdB (twoL s d) (aq x y (m :: r)) 0 2 most = [] :=
  rd_l (i := 2) (l := twoL s d) (Q := aq x y (m :: r)) (part := 0) (port := 2) rfl (show 2 < 3 by decide) rfl rfl h
theorem ard2 (h : (m.length : Int) ≤ most) : rdC (twoL s d) (aq x y (m :: r)) 0 2 most = m.length ∧ rdQ (twoL s d) (aq x y (m :: r)) 0 2 most = aq x y r ∧ rdB (twoL s d) (aq x y (m :: r)) 0 2 most = m := by
  obtain ⟨a, b, -, c⟩ := rd_g (i := 2) (l := twoL s d) (Q := aq x y (m :: r)) (part := 0) (port := 2) rfl (show 2 < 3 by decide) rfl rfl h
  have c := c rfl
  rw [aq_set2] at c
  exact ⟨a, c, b⟩
theorem ast0 : stC (twoL s d) (aq x y z) 0 0 = (x.length : Int) := by
  show (if (0 : Int) < 0 then (4294967295 : Int) else ((x.length : Int))) = _
  rw [if_neg (by decide)]
theorem ast1 : stC (twoL s d) (aq x y z) 0 1 = (y.length : Int) := by
  show (if (1 : Int) < 0 then (4294967295 : Int) else ((y.length : Int))) = _
  rw [if_neg (by decide)]
theorem ams0 : msK (twoL s d) (aq x y z) 0 (twoL s d).length = (z.length : Int) := two_ms0 s d _
theorem ams1 : msK (twoL s d) (aq x y z) 1 (twoL s d).length = (x.length : Int) := two_ms1 s d _
end

/-- A Net of Two. -/
def N2 (w : World) (P : Nat → Prop) (n : Nat) (s d : Int) (x y z : List (List Int)) : Prop := NetP w P n (twoL s d) (aq x y z)

theorem flat_u8 (l : List Int) : l.flatMap (fun x => [Value.int .u8 x]) = u8s l := by
  induction l with
  | nil => rfl
  | cons a l ih => rw [List.flatMap_cons, ih]; rfl
set_option maxRecDepth 100000 in
theorem read_u8 {H : Type} {enc : TypeId × Value → H} {W : World} {base : Nat} {sp : Nat → Bool} {hd : Bool} {fuel : Nat} {cs : List Value} {x : DataW H × List MemPlace} (hc : cs.length = 1) (h : DataW.trod enc Try.prog W base sp hd fuel 5 cs = some x) : ∃ p : Int, [Value.int .u8 p] = cs ∧ (0 ≤ p ∧ p < 256) := by
  match cs, hc with
  | [c], _ =>
    obtain ⟨n, rfl, hw⟩ := read_int Try.underlying5 h
    exact ⟨n, rfl, by simp [Lit.wf, IntKind.min, IntKind.max, IntKind.signed, IntKind.bits] at hw; omega⟩
set_option maxRecDepth 100000 in
theorem open_bytes {H : Type} {enc : TypeId × Value → H} {W : World} {base : Nat} {v : Value} {d : DataW H} {p : List MemPlace} (hv : Value.okWide Try.prog W .any base 22 v) (h : DataW.Trod enc Try.prog W 0 (fun _ => true) true 22 v d p) :
    ∃ (ao : Option Addr) (cap : Nat) (xs : List Int), v = .slice ao xs.length cap ∧ Lst W ao xs.length cap (u8s xs) 1 ∧ byteL xs ∧ (∀ ad, ao = some ad → 0 < xs.length → ad.block < W.heap.size) := by
  obtain ⟨fuel, hf⟩ := Trod_slice Try.underlying22 hv h
  obtain ⟨ao, cap, xs, h1, h2, h3, h4⟩ := read_slice (fun x : Int => [Value.int .u8 x]) (fun x => 0 ≤ x ∧ x < 256) 1 (fun _ => rfl) (by decide) Try.underlying22 (by kernel_rfl) (fun _ _ _ hc ht => read_u8 hc ht) hf
  rw [flat_u8] at h2
  exact ⟨ao, cap, xs, h1, h2, h4, h3⟩
theorem src_chg0 {w w' : World} {ao : Option Addr} {m c : Nat} {xs : List Int} {P : Nat → Prop} (h : Src w ao m c (u8s xs) 1) (hc : Chg w w' P) (hn : ∀ ad, ao = some ad → 0 < m → ¬ P ad.block) : Src w' ao m c (u8s xs) 1 :=
  ⟨h.len, h.nil, fun ad e j u hu => hc.cell (h.get ad e j u hu) (by
    have hb : (ad.add j).block = ad.block := by unfold Addr.add; split <;> rfl
    have hj := (List.getElem?_eq_some_iff.1 hu).1
    have hl := h.len
    rw [hb]; exact hn ad e (by omega))⟩
/-- A source of the law's argument behind calls. -/
theorem src_old {W w w' : World} {ao : Option Addr} {m c : Nat} {xs : List Int} (h : Src w ao m c (u8s xs) 1) (ho : ∀ ad, ao = some ad → 0 < m → ad.block < W.heap.size) {P : Nat → Prop} (hP : ∀ k, k < W.heap.size → P k) (hc : Chg w w' (fun k => ¬ P k)) : Src w' ao m c (u8s xs) 1 :=
  src_chg0 h hc (fun ad e h0 hn => hn (hP _ (ho ad e h0)))
end Go.Proofs.Ytiedfglkjkaefaa

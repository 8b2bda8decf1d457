/- ports: the reference's Write (printed by gen_por3.py). -/
import Derived.Test.YtiedfglkjkaefaaPoR1
import Derived.Test.YtiedfglkjkaefaaApp
import Derived.Deep.QuietTactic
import Derived.BigQuiet
namespace Go.Proofs.Ytiedfglkjkaefaa
open Go.RowKit

/-- What a call leaves of the reference's Net. -/
structure RTo (w w' : World) (F : Nat → Prop) (D : RD) (Q' : Que) : Prop where
  net : ∃ F' vs', RAt w' F' D Q' vs' ∧ (∀ k, F k → F' k) ∧ ∀ k, F' k → F k ∨ (w.heap.size ≤ k ∧ k < w'.heap.size)
  chg : Chg w w' (fun k => k = D.gq)
theorem RTo.same {w w' : World} {F : Nat → Prop} {D : RD} {Q : Que} {vs : Nat → Value} (N : RAt w F D Q vs) (c : Chg w w' (fun _ => False)) : RTo w w' F D Q :=
  ⟨⟨F, vs, N.keep c, fun _ h => h, fun _ h => .inl h⟩, c.mono (fun _ _ h => h.elim)⟩
theorem QRow.src {w : World} {ao : Option Addr} {n cap : Nat} {ms : List Value} (h : QRow w (.slice ao n cap) ms) : Src w ao n cap ms 1 := by
  obtain ⟨ao', cap', hv, h1, h2, h3, h4⟩ := h.form
  injection hv with e1 e2 e3
  subst e1 e2 e3
  refine ⟨by simp, fun e => ?_, fun ad e j u hu => ?_⟩
  · obtain ⟨h5, h6⟩ := h3 e; rw [h5]; exact ⟨rfl, h6⟩
  · obtain ⟨g, o, rfl, _⟩ := h4 ad e
    subst e
    obtain ⟨cur, -, -, -, -, -, -, hcl⟩ := h.cells
    rw [Addr.add_lit]
    exact hcl j u hu
theorem MsgsAt.one_ {w : World} {F : Nat → Prop} : ∀ {ms : List Value} {q : List (List Int)}, MsgsAt w F ms q → ∀ u ∈ ms, u.oneCell' = true
  | [], _, _ => fun u hu => by cases hu
  | v :: ms, [], h => h.elim
  | v :: ms, xs :: q, h => fun u hu => by
    rcases List.mem_cons.1 hu with rfl | hu
    · obtain ⟨ao, cap, rfl, _⟩ := own_form h.1.own; rfl
    · exact MsgsAt.one_ h.2 u hu
/-- A message is put. -/
theorem RAt.put {w w1 w2 w' : World} {F : Nat → Prop} {D : RD} {Q : Que} {vs : Nat → Value} (N : RAt w F D Q vs) {i : Nat} (hi : i < D.l.length) {ao : Option Addr} {cap : Nat} {xs : List Int} {v' : Value} {ms : List Value} {q : List (List Int)} {n : Nat}
    (C : Chg w w2 (fun _ => False)) (C1 : Chg w1 w2 (fun _ => False)) (hs1 : w.heap.size ≤ w1.heap.size) (O : w1.ownsRow w.heap.size 5 1 (.slice ao xs.length cap) xs.length (u8s xs)) (O2 : w2.ownsRow w.heap.size 22 1 v' n (ms ++ [.slice ao xs.length cap])) (hms : MsgsAt w F ms q) (hq : QuOk D.l[i] (q ++ [xs])) (h' : w' = w2.setCell ⟨D.gq, i, none⟩ v') :
    RTo w w' F D (qSet Q i (q ++ [xs])) := by
  have hF' : ∀ k, F k ∨ (w.heap.size ≤ k ∧ k < w2.heap.size) → F k ∨ (w.heap.size ≤ k ∧ k < w2.heap.size) := fun _ h => h
  obtain ⟨N', C'⟩ := N.turn (F' := fun k => F k ∨ (w.heap.size ≤ k ∧ k < w2.heap.size)) i hi v' (q ++ [xs]) C h' (fun _ h => .inl h) hF'
    ⟨(N.ch i hi).ok, hq, ⟨_, QRow.of_own O2, MsgsAt.snoc ⟨own_base (own_chg O C1 (fun _ _ h => h)) (Nat.zero_le _), fun g hg => .inr ⟨(O.lt g hg).1, Nat.lt_of_lt_of_le (O.lt g hg).2 C1.size⟩⟩ (MsgsAt.chg (P := fun _ => False) C (fun _ _ _ h => h) (fun _ h => .inl h) hms)⟩, fun g hg => .inr (O2.lt g hg)⟩
  have hs : w2.heap.size ≤ w'.heap.size := by rw [h']; simp
  exact ⟨⟨_, _, N', fun _ h => .inl h, fun k hk => hk.imp_right (fun h => ⟨h.1, Nat.lt_of_lt_of_le h.2 hs⟩)⟩, C'⟩

set_option maxRecDepth 100000 in
set_option maxHeartbeats 8000000 in
theorem rwrite_any {w : World} {F : Nat → Prop} {D : RD} {Q : Que} {vs : Nat → Value} (N : RAt w F D Q vs) (part port : Int) {ao : Option Addr} {c : Nat} {xs : List Int} (m : Nat) (hl : xs.length = m) (hS : Src w ao m c (u8s xs) 1) (hb : byteL xs) (hm : m ≤ 9223372036854775807) :
    Calls Try.prog 24 #[.pointer (some ⟨D.n, 0, none⟩), .int .i64 part, .int .i64 port, .slice ao m c] w fun e w' => e = .returned (.int .i64 (wrC D.l Q part port xs.length)) ∧ RTo w w' F D (wrQ D.l Q part port xs) := by
  have HF := rport_any N part port
  rcases portV_rng D.l part port with hp | ⟨i, hp, hi⟩
  · obtain ⟨e1, e2⟩ := wr_none (Q := Q) (xs := xs) (show fromV D.l part port = -1 by unfold fromV; rw [hp]; rfl)
    have HR := Lib.hid (And.intro e1 e2)
    rw [hp] at HF
    have HN := Lib.hid N
    clear hp e1 e2 N hS hb
    go_enter Try.func24, Try.ntmps24
    go_wp2_with fail
    refine HF.mono ?_
    rintro e w1 ⟨rfl, C1⟩
    clear HF
    go_wp2_with fail
    go_ret
    rw [HR.out.1, HR.out.2]
    exact ⟨rfl, RTo.same HN.out C1⟩
  have hmax := N.max
  have hsz := (N.ch i hi).ok.size
  have hdp := (N.ch i hi).ok.depth
  have hknd := (N.ch i hi).ok.kind
  have HN := Lib.hid N
  have HS := Lib.hid hS
  have HB := Lib.hid hb
  have HLX := Lib.hid hl
  have HP := Lib.hid hp
  have HI := hi
  rw [hp] at HF
  obtain ⟨i0, hi0, hz0, hz1, hz2⟩ := info_parts info_u8
  obtain ⟨i2, hj0, hy0, hy1, hy2⟩ := info_parts info_by
  clear N hS hb hl hp
  have hi0n : decide ((i : Int) < 0) = false := decide_eq_false (by omega)
  go_enter Try.func24, Try.ntmps24
  go_wp2_with fail
  refine HF.mono ?_
  rintro e w1 ⟨rfl, C1⟩
  clear HF
  have N1 := HN.out.keep C1
  have HN1 := Lib.hid N1
  have HC1 := Lib.hid C1
  obtain ⟨gc, oc, -, q4, q6, d0, d1, d2, d3, d4, dq⟩ := N1.chan i hi
  obtain ⟨qo, qc, hv, hqc1, hqc2, hq16⟩ := (N1.ch i hi).form
  obtain ⟨ms, hqr0, hms0⟩ := (HN.out.ch i hi).row
  have hqr := hqr0.chg C1 (fun _ _ h => h)
  have hms : MsgsAt w1 F ms (Q i) := MsgsAt.chg (P := fun _ => False) C1 (fun _ _ _ h => h) (fun _ h => h) hms0
  have HMSW := Lib.hid hms0
  have HQK := Lib.hid (N1.ch i hi).qk
  rw [hv] at hqr
  have hln := N1.box.lt
  have hlq := N1.row.lt
  obtain ⟨L, hL⟩ : ∃ L, D.l.length = L := ⟨_, rfl⟩
  obtain ⟨z, hz⟩ : ∃ z, (Q i).length = z := ⟨_, rfl⟩
  have HZ := Lib.hid hz
  rw [hL] at q4 q6 hi hmax
  rw [hv, hz] at dq
  rw [hz] at hqr hqc1 hq16
  have HQR := Lib.hid hqr
  have HMS := Lib.hid hms
  have HFZ := Lib.hid (fun k => N1.row.frozen k)
  clear hL hz hv N1 C1 hqr hms hqr0 hms0
  by_cases hs : D.l[i].src = part
  rotate_left
  · have HR : Hid (wrC D.l Q part port xs.length = 4294967295 ∧ wrQ D.l Q part port xs = Q) := wr_none (show fromV D.l part port = -1 by unfold fromV; rw [HP.out, Int.toNat_natCast, chD_at HI, if_pos ⟨by omega, hs⟩])
    have b1 : (D.l[i].src != part) = true := bne_iff_ne.2 hs
    clear hs
    go_wp2_with fail
    go_ret
    rw [HR.out.1, HR.out.2]
    exact ⟨rfl, RTo.same HN.out HC1.out⟩
  obtain ⟨WB, WG⟩ := wr_at (Q := Q) (xs := xs) HP.out HI hs
  have HWB := Lib.hid WB
  have HWG := Lib.hid WG
  have b1 : (D.l[i].src != part) = false := by simp [hs]
  have HBX : Hid (D.l[i] = D.l[i]) := rfl
  obtain ⟨x, hx⟩ : ∃ x, D.l[i] = x := ⟨_, rfl⟩
  have HX := Lib.hid hx
  rw [hx] at d0 d1 d2 d3 d4 hsz hdp hknd b1
  obtain ⟨x0, x1, x2, x3, x4⟩ := x
  dsimp only at d0 d1 d2 d3 d4 hsz hdp hknd b1
  clear WB WG hs hx HBX
  have BX := Box.new w1 73 #[.int .i64 x0, .int .i64 x1, .int .i64 x2, .int .i64 x3, .int .i64 x4]
  have CX : Chg w1 (w1.alloc (.cells #[.int .i64 x0, .int .i64 x1, .int .i64 x2, .int .i64 x3, .int .i64 x4] 73)) (fun _ => False) := (Chg.refl w1 _).alloc _
  have HBX := Lib.hid BX
  have HCX := Lib.hid CX
  clear BX CX
  by_cases hbad : m = 0 ∨ x3 < (m : Int)
  · have HE : Hid (wrC D.l Q part port xs.length = 4294967294 ∧ wrQ D.l Q part port xs = Q) := HWB.out (by rw [HX.out, HLX.out]; exact hbad)
    by_cases h : m = 0
    · subst h
      go_wp2_with fail
      go_ret
      rw [HE.out.1, HE.out.2]
      exact ⟨rfl, RTo.same HN.out (HC1.out.trans HCX.out)⟩
    · have hmb : ((m : Int) == 0) = false := by simp [h]
      have hsb : decide (x3 < (m : Int)) = true := decide_eq_true (hbad.resolve_left h)
      clear hbad
      go_wp2_with fail
      go_ret
      rw [HE.out.1, HE.out.2]
      exact ⟨rfl, RTo.same HN.out (HC1.out.trans HCX.out)⟩
  have hm0 : ¬ m = 0 := fun h => hbad (.inl h)
  have hm1 : ¬ x3 < (m : Int) := fun h => hbad (.inr h)
  have hmb : ((m : Int) == 0) = false := by simp [hm0]
  have hsb : decide (x3 < (m : Int)) = false := decide_eq_false hm1
  have HG : Hid ((x0 = 0 → wrC D.l Q part port xs.length = 0 ∧ wrQ D.l Q part port xs = qSet Q i [xs]) ∧ (x0 = 1 → (x4 ≤ (z : Int) → wrC D.l Q part port xs.length = 4294967293 ∧ wrQ D.l Q part port xs = Q) ∧ ((z : Int) < x4 → wrC D.l Q part port xs.length = 0 ∧ wrQ D.l Q part port xs = qSet Q i (Q i ++ [xs])))) := by
    have := HWG.out (by rw [HX.out, HLX.out]; exact hbad)
    rw [HX.out, HZ.out] at this
    exact this
  have hm64 : m ≤ 64 := by omega
  have HM0 := Lib.hid (And.intro hm0 hm1)
  have HSX := Lib.hid (HS.out.chg (HC1.out.trans HCX.out) (fun _ _ h => h))
  clear hbad hm1 hm0
  go_wp2_with (at_builtin; go_loud (refine wpList_append_src _ rfl (.const (.slice none 0 0)) (.tmp 49) _ rfl w.heap.size 5 i0 _ 1 1 Try.underlying22 hi0 hz0 hz1 hz2 rfl (by omega) _ 0 [] rfl (World.ownsRow_nil _ _ _ _) ao m c _ rfl HSX.out (u8s_one _) (by unfold maxLen; omega) (by omega) (Nat.le_trans HC1.out.size HCX.out.size) ?_); go_loud (intro v3 w3 O3 g3); go_loud (refine ?roundEnd))
  case roundEnd =>
    rw [Nat.zero_add, List.nil_append] at O3
    have C3 : Chg w1 w3 (fun _ => False) := HCX.out.grown g3 (fun k hk _ => by cases hk)
    obtain ⟨a3, c3, rfl, -⟩ := own_form O3
    have hlx := HLX.out
    have HO3 := Lib.hid O3
    have HC3 := Lib.hid C3
    have HC03 := Lib.hid (HC1.out.trans C3)
    have X3 := HBX.out.chg (Chg.of_grown (P := fun _ => False) g3 (fun k hk _ => by cases hk)) (fun h => h)
    have y0 := X3.cell 0
    have y4 := X3.cell 4
    have q63 := C3.cell q6 (fun h => h)
    have dq3 := C3.cell dq (fun h => h)
    have fz3 : w3.frozen? ⟨D.gq, i, none⟩ = false := (C3.frozen dq (fun h => h)).trans (HFZ.out i)
    have hs3 := C3.size
    have hxl := X3.lt
    have hlq3 : D.gq < w3.heap.size := Nat.lt_of_lt_of_le hlq hs3
    clear O3 C3 X3 g3 hlx
    rcases hknd with rfl | rfl
    · -- a sample
      have C4 : Chg w3 (w3.alloc (.cells #[.slice a3 m c3] 22)) (fun _ => False) := (Chg.refl w3 _).alloc _
      have B4 := Box.new w3 22 #[.slice a3 m c3]
      have HC4 := Lib.hid C4
      have HB4 := Lib.hid B4
      have HE := Lib.hid (HG.out.1 rfl)
      clear C4 B4 q4 q6 d0 d1 d2 d3 d4 dq
      go_wp2_with fail
      go_ret
      have hlx := HLX.out
      subst hlx
      have O4 : (w3.alloc (.cells #[.slice a3 xs.length c3] 22)).ownsRow w.heap.size 22 1 (.slice (some ⟨w3.heap.size, 0, none⟩) 1 1) 1 ([] ++ [.slice a3 xs.length c3]) := HB4.out.own w.heap.size 1 1 _ (by have := HC1.out.size; omega) rfl rfl (by unfold maxLen; omega)
      have hmm := HM0.out
      have R := HN.out.put (q := []) HI (HC03.out.trans HC4.out) HC4.out (by have := HC1.out.size; omega) HO3.out O4 trivial ⟨by simp; have := HX.out; rw [this]; dsimp only; omega, fun _ => by simp, fun ys hy => by
        rw [List.nil_append, List.mem_singleton] at hy
        subst hy
        exact ⟨HB.out, by omega, hm64⟩⟩ rfl
      rw [World.setCell_alloc_past _ _ _ _ hlq3] at R
      rw [HE.out.1, HE.out.2]
      exact ⟨rfl, R⟩
    · -- a queue
      have HG2 := Lib.hid (HG.out.2 rfl)
      by_cases hfull : x4 ≤ (z : Int)
      · have HE := Lib.hid (HG2.out.1 hfull)
        have d5 : decide (x4 ≤ (z : Int)) = true := decide_eq_true hfull
        clear q4 q6 d0 d1 d2 d3 d4 dq hfull
        go_wp2_with fail
        go_quiet (fail)
        go_wp2_with fail
        go_ret
        rw [HE.out.1, HE.out.2]
        exact ⟨rfl, RTo.same HN.out (HC03.out.drewN _)⟩
      · have HE := Lib.hid (HG2.out.2 (by omega))
        have d5 : decide (x4 ≤ (z : Int)) = false := decide_eq_false hfull
        have hzx : (z : Int) < x4 := by omega
        clear q4 q6 d0 d1 d2 d3 d4 dq hfull
        go_wp2_with fail
        go_quiet (fail)
        go_upto_region 13 with fail
        have HC5 := Lib.hid ((Chg.refl w3 (fun _ => False)).drewN nq)
        have q65 : (w3.drewN nq).cell? ⟨D.n, 6, none⟩ = some (.slice (some ⟨D.gq, 0, none⟩) L L) := q63
        have dq5 : (w3.drewN nq).cell? ⟨D.gq, i, none⟩ = some (.slice qo z qc) := dq3
        have fz5 : (w3.drewN nq).frozen? ⟨D.gq, i, none⟩ = false := fz3
        have hs5 : w1.heap.size + 1 ≤ (w3.drewN nq).heap.size := hxl
        generalize w3.drewN nq = w5 at *
        clear q63 dq3 fz3 y0 y4 HBX
        refine wp_region_noPanic ?_
        refine wp_region_L 16 (fun w' => w'.cell? ⟨D.n, 6, none⟩ = some (.slice (some ⟨D.gq, 0, none⟩) L L) ∧ w'.cell? ⟨D.gq, i, none⟩ = some (.slice qo z qc)) (by kernel_rfl) (⟨q65, dq5⟩) (fun hHeld => ?_)
        refine wpAnyL_take (i := 0) (oi := ?oia0) (v := ?va0) ?hia0 (by kernel_rfl) (by kernel_rfl) (by kernel_rfl) (by kernel_rfl) (fun _ _ _ h => h) (Or.inl ⟨?hwa0, ?hya0⟩) (by assumption) ?hra0
        case hia0 => simp only [List.getElem?_toArray, List.getElem?_cons_succ, List.getElem?_cons_zero]; rfl
        case hwa0 => rfl
        case hya0 => intro wq hSq; (try dsimp only at hSq); go_simp; (try with_reducible rfl)
        try simp only [Act.put, List.setIfInBounds_toArray, List.set_cons_zero, List.set_cons_succ]
        refine wpAnyL_take (i := 1) (oi := ?oia1) (v := ?va1) ?hia1 (by kernel_rfl) (by kernel_rfl) (by kernel_rfl) (by kernel_rfl) (fun _ _ _ h => h) (Or.inl ⟨?hwa1, ?hya1⟩) (by assumption) ?hra1
        case hia1 => simp only [List.getElem?_toArray, List.getElem?_cons_succ, List.getElem?_cons_zero]; rfl
        case hwa1 => rfl
        case hya1 => intro wq hSq; (try dsimp only at hSq); go_simp; (try with_reducible rfl)
        try simp only [Act.put, List.setIfInBounds_toArray, List.set_cons_zero, List.set_cons_succ]
        refine wpAnyL_take (i := 2) (oi := ?oia2) (v := ?va2) ?hia2 (by kernel_rfl) (by kernel_rfl) (by kernel_rfl) (by kernel_rfl) (fun _ _ _ h => h) (Or.inl ⟨?hwa2, ?hya2⟩) (by assumption) ?hra2
        case hia2 => simp only [List.getElem?_toArray, List.getElem?_cons_succ, List.getElem?_cons_zero]; rfl
        case hwa2 => rfl
        case hya2 => intro wq hSq; (try dsimp only at hSq); go_simp; (try with_reducible rfl)
        try simp only [Act.put, List.setIfInBounds_toArray, List.set_cons_zero, List.set_cons_succ]
        refine wpAnyL_take (i := 3) (oi := ?oia3) (v := ?va3) ?hia3 (by kernel_rfl) (by kernel_rfl) (by kernel_rfl) (by kernel_rfl) (fun _ _ _ h => h) (Or.inl ⟨?hwa3, ?hya3⟩) (by assumption) ?hra3
        case hia3 => simp only [List.getElem?_toArray, List.getElem?_cons_succ, List.getElem?_cons_zero]; rfl
        case hwa3 => rfl
        case hya3 => intro wq hSq; (try dsimp only at hSq); go_simp; (try with_reducible rfl)
        try simp only [Act.put, List.setIfInBounds_toArray, List.set_cons_zero, List.set_cons_succ]
        refine wpAnyL_take (i := 4) (oi := ?oia4) (v := ?va4) ?hia4 (by kernel_rfl) (by kernel_rfl) (by kernel_rfl) (by kernel_rfl) (fun _ _ _ h => h) (Or.inl ⟨?hwa4, ?hya4⟩) (by assumption) ?hra4
        case hia4 => simp only [List.getElem?_toArray, List.getElem?_cons_succ, List.getElem?_cons_zero]; rfl
        case hwa4 => rfl
        case hya4 => intro wq hSq; (try dsimp only at hSq); go_simp; (try with_reducible rfl)
        try simp only [Act.put, List.setIfInBounds_toArray, List.set_cons_zero, List.set_cons_succ]
        refine wpAnyL_take (i := 5) (oi := ?oia5) (v := ?va5) ?hia5 (by kernel_rfl) (by kernel_rfl) (by kernel_rfl) (by kernel_rfl) (fun _ _ _ h => h) (Or.inl ⟨?hwa5, ?hya5⟩) (by assumption) ?hra5
        case hia5 => simp only [List.getElem?_toArray, List.getElem?_cons_succ, List.getElem?_cons_zero]; rfl
        case hwa5 => rfl
        case hya5 => intro wq hSq; (try dsimp only at hSq); go_simp; (try with_reducible rfl)
        try simp only [Act.put, List.setIfInBounds_toArray, List.set_cons_zero, List.set_cons_succ]
        refine wpAnyL_take (i := 6) (oi := ?oia6) (v := ?va6) ?hia6 (by kernel_rfl) (by kernel_rfl) (by kernel_rfl) (by kernel_rfl) (fun _ _ _ h => h) (Or.inl ⟨?hwa6, ?hya6⟩) (by assumption) ?hra6
        case hia6 => simp only [List.getElem?_toArray, List.getElem?_cons_succ, List.getElem?_cons_zero]; rfl
        case hwa6 => rfl
        case hya6 => intro wq hSq; (try dsimp only at hSq); go_simp; (try with_reducible rfl)
        try simp only [Act.put, List.setIfInBounds_toArray, List.set_cons_zero, List.set_cons_succ]
        refine wpAnyL_take (i := 7) (oi := ?oia7) (v := ?va7) ?hia7 (by kernel_rfl) (by kernel_rfl) (by kernel_rfl) (by kernel_rfl) (fun _ _ _ h => h) (Or.inl ⟨?hwa7, ?hya7⟩) (by assumption) ?hra7
        case hia7 => simp only [List.getElem?_toArray, List.getElem?_cons_succ, List.getElem?_cons_zero]; rfl
        case hwa7 => rfl
        case hya7 => intro wq hSq; (try dsimp only at hSq); go_simp; (try with_reducible rfl)
        try simp only [Act.put, List.setIfInBounds_toArray, List.set_cons_zero, List.set_cons_succ]
        refine wpAnyL_take (i := 8) (oi := ?oia8) (v := ?va8) ?hia8 (by kernel_rfl) (by kernel_rfl) (by kernel_rfl) (by kernel_rfl) (fun _ _ _ h => h) (Or.inl ⟨?hwa8, ?hya8⟩) (by assumption) ?hra8
        case hia8 => simp only [List.getElem?_toArray, List.getElem?_cons_succ, List.getElem?_cons_zero]; rfl
        case hwa8 => rfl
        case hya8 => intro wq hSq; (try dsimp only at hSq); go_simp; (try with_reducible rfl)
        try simp only [Act.put, List.setIfInBounds_toArray, List.set_cons_zero, List.set_cons_succ]
        refine wpAnyL_take (i := 9) (oi := ?oia9) (v := ?va9) ?hia9 (by kernel_rfl) (by kernel_rfl) (by kernel_rfl) (by kernel_rfl) (fun _ _ _ h => h) (Or.inl ⟨?hwa9, ?hya9⟩) (by assumption) ?hra9
        case hia9 => simp only [List.getElem?_toArray, List.getElem?_cons_succ, List.getElem?_cons_zero]; rfl
        case hwa9 => rfl
        case hya9 => intro wq hSq; (try dsimp only at hSq); go_simp; (try with_reducible rfl)
        try simp only [Act.put, List.setIfInBounds_toArray, List.set_cons_zero, List.set_cons_succ]
        refine wpAnyL_take (i := 10) (oi := ?oia10) (v := ?va10) ?hia10 (by kernel_rfl) (by kernel_rfl) (by kernel_rfl) (by kernel_rfl) (fun _ _ _ h => h) (Or.inl ⟨?hwa10, ?hya10⟩) (by assumption) ?hra10
        case hia10 => simp only [List.getElem?_toArray, List.getElem?_cons_succ, List.getElem?_cons_zero]; rfl
        case hwa10 => rfl
        case hya10 => intro wq hSq; (try dsimp only at hSq); go_simp; (try with_reducible rfl)
        try simp only [Act.put, List.setIfInBounds_toArray, List.set_cons_zero, List.set_cons_succ]
        refine wpAnyL_take (i := 11) (oi := ?oia11) (v := ?va11) ?hia11 (by kernel_rfl) (by kernel_rfl) (by kernel_rfl) (by kernel_rfl) (fun _ _ _ h => h) (Or.inl ⟨?hwa11, ?hya11⟩) (by assumption) ?hra11
        case hia11 => simp only [List.getElem?_toArray, List.getElem?_cons_succ, List.getElem?_cons_zero]; rfl
        case hwa11 => rfl
        case hya11 => intro wq hSq; (try dsimp only at hSq); go_simp; (try with_reducible rfl)
        try simp only [Act.put, List.setIfInBounds_toArray, List.set_cons_zero, List.set_cons_succ]
        refine wpAnyL_take (i := 13) (oi := ?oia13) (v := ?va13) ?hia13 (by kernel_rfl) (by kernel_rfl) (by kernel_rfl) (by kernel_rfl) (fun _ _ _ h => h) (Or.inl ⟨?hwa13, ?hya13⟩) (by assumption) ?hra13
        case hia13 => simp only [List.getElem?_toArray, List.getElem?_cons_succ, List.getElem?_cons_zero]; rfl
        case hwa13 => rfl
        case hya13 => intro wq hSq; (try dsimp only at hSq); go_simp; (try with_reducible rfl)
        try simp only [Act.put, List.setIfInBounds_toArray, List.set_cons_zero, List.set_cons_succ]
        refine wpAnyL_ready (rs := [12, 14]) (by kernel_rfl) (by simp) ?_
        refine AllReadyL.cons rfl (fun K hK => ?_) (AllReadyL.cons rfl (fun K hK => ?_) AllReadyL.nil)
        · refine op_append_src (.const (.slice none 0 0)) (.tmp 84) _ rfl w5.heap.size 22 i2 _ 1 24 Try.underlying40 hj0 hy0 hy1 hy2 rfl (by omega) (.slice none 0 0) 0 [] rfl (World.ownsRow_nil _ _ _ _) qo z qc ms rfl (HQR.out.src.chg ((HC3.out.trans HC5.out).drew) (fun _ _ h => h)) (MsgsAt.one_ HMS.out) (by unfold maxLen; omega) (by omega) (Nat.le_refl _) ?_
          intro v1 w6 O1x g1x
          rw [Nat.zero_add, List.nil_append] at O1x
          have C1x : Chg w5 w6 (fun _ => False) := ((Chg.refl w5 _).drew).grown g1x (fun j hj _ => by cases hj)
          obtain ⟨a1, c1, rfl, -⟩ := own_form O1x
          change K (Act.put _ (some 85) _) _
          simp only [Act.put, List.setIfInBounds_toArray, List.set_cons_zero, List.set_cons_succ]
          refine hK.out _ _ (.inl ⟨C1x.cell q65 (fun h => h), C1x.cell dq5 (fun h => h)⟩) (fun hHeld => ?_)
          replace hHeld := SOr.stands hHeld (by kernel_rfl)
          clear hK K
          try simp only [Act.put, List.setIfInBounds_toArray, List.set_cons_zero, List.set_cons_succ]
          refine wpAnyL_ready (rs := [14]) (by kernel_rfl) (by simp) ?_
          refine AllReadyL.cons rfl (fun K hK => ?_) AllReadyL.nil
          go_simp
          have C2x : Chg w6 (w6.alloc (.cells #[.slice a3 m c3] 22)) (fun _ => False) := (Chg.refl w6 _).alloc _
          have SB := (Box.new w6 22 #[.slice a3 m c3]).src 1 1 1 [.slice a3 m c3] rfl rfl
          have OX := own_alloc O1x (.cells #[.slice a3 m c3] 22)
          refine hK.out _ _ (.inl (⟨(C1x.trans C2x).cell q65 (fun h => h), (C1x.trans C2x).cell dq5 (fun h => h)⟩)) (fun hHeld => ?_)
          replace hHeld := SOr.stands hHeld (by kernel_rfl)
          clear hK K
          try simp only [Act.put, List.setIfInBounds_toArray, List.set_cons_zero, List.set_cons_succ]
          refine wpAnyL_ready (rs := [15]) (by kernel_rfl) (by simp) ?_
          refine AllReadyL.cons rfl (fun K hK => ?_) AllReadyL.nil
          refine op_append_src (.tmp 85) (.tmp 87) _ rfl w5.heap.size 22 i2 _ 1 24 Try.underlying40 hj0 hy0 hy1 hy2 rfl (by omega) _ z ms rfl OX (some ⟨w6.heap.size, 0, none⟩) 1 1 [.slice a3 m c3] rfl SB (by intro u hu; rw [List.mem_singleton] at hu; subst hu; rfl) (by unfold maxLen; omega) (by omega) (by have := C1x.size; have := C2x.size; omega) ?_
          intro v2 wz O2 g2x
          have CX : Chg w5 wz (fun _ => False) := (C1x.trans C2x).grown g2x (fun j hj h => by have := (OX.lt j hj).1; omega)
          obtain ⟨a2, c2, rfl, -⟩ := own_form O2
          change K (Act.put _ (some 88) _) _
          simp only [Act.put, List.setIfInBounds_toArray, List.set_cons_zero, List.set_cons_succ]
          refine hK.out _ _ (.inl (⟨CX.cell q65 (fun h => h), CX.cell dq5 (fun h => h)⟩)) (fun hHeld => ?_)
          replace hHeld := SOr.stands hHeld (by kernel_rfl)
          clear hK K
          try simp only [Act.put, List.setIfInBounds_toArray, List.set_cons_zero, List.set_cons_succ]
          refine wpAnyL_tail (l := [17]) (by kernel_rfl) (by kernel_rfl) ?_
          simp only [tailOps, List.filterMap_cons, List.filterMap_nil, List.getElem?_toArray, List.getElem?_cons_succ, List.getElem?_cons_zero]
          clear hHeld
          have HCZ := Lib.hid CX
          have HO2 := Lib.hid O2
          have qz := CX.cell q65 (fun h => h)
          have dz := CX.cell dq5 (fun h => h)
          have fz : wz.frozen? ⟨D.gq, i, none⟩ = false := (CX.frozen dq5 (fun h => h)).trans fz5
          have hlz : D.gq < wz.heap.size := World.block_lt_of_cell? wz _ dz
          clear CX O2 q65 dq5 fz5 O1x C1x
          go_wp2_with fail
          refine NoPanic.normal ?_
          go_wp2_with fail
          go_ret
          have hlx := HLX.out
          subst hlx
          have HC35 := HC5.out.trans HCZ.out
          have RR := HN.out.put (ms := ms) HI (HC03.out.trans HC35) HC35 (by have := HC1.out.size; have := HC3.out.size; omega) HO3.out (own_base HO2.out (by have := HC1.out.size; omega)) (by
                        exact HMSW.out) (by
            have hmm := HM0.out
            have hq := HQK.out
            refine ⟨by rw [List.length_append, List.length_singleton, HZ.out, HX.out]; dsimp only; omega, fun h => by rw [HX.out] at h; exact absurd h (show ¬ (1 : Int) = 0 by decide), fun ys hy => ?_⟩
            rcases List.mem_append.1 hy with hy | hy
            · exact hq.msg ys hy
            · rw [List.mem_singleton] at hy
              subst hy
              exact ⟨HB.out, by omega, hm64⟩) rfl
          rw [HE.out.1, HE.out.2]
          exact ⟨rfl, RR⟩
        · go_simp
          have C1x : Chg w5 (w5.alloc (.cells #[.slice a3 m c3] 22)).drew (fun _ => False) := ((Chg.refl w5 _).alloc _).drew
          have SB := ((Box.new w5 22 #[.slice a3 m c3]).src 1 1 1 [.slice a3 m c3] rfl rfl).drew
          refine hK.out _ _ (.inl ⟨C1x.cell q65 (fun h => h), C1x.cell dq5 (fun h => h)⟩) (fun hHeld => ?_)
          replace hHeld := SOr.stands hHeld (by kernel_rfl)
          clear hK K
          try simp only [Act.put, List.setIfInBounds_toArray, List.set_cons_zero, List.set_cons_succ]
          refine wpAnyL_ready (rs := [12]) (by kernel_rfl) (by simp) ?_
          refine AllReadyL.cons rfl (fun K hK => ?_) AllReadyL.nil
          refine op_append_src (.const (.slice none 0 0)) (.tmp 84) _ rfl w5.heap.size 22 i2 _ 1 24 Try.underlying40 hj0 hy0 hy1 hy2 rfl (by omega) (.slice none 0 0) 0 [] rfl (World.ownsRow_nil _ _ _ _) qo z qc ms rfl (HQR.out.src.chg ((HC3.out.trans HC5.out).trans C1x) (fun _ _ h => h)) (MsgsAt.one_ HMS.out) (by unfold maxLen; omega) (by omega) (C1x.size) ?_
          intro v1 w6 O1x g1x
          rw [Nat.zero_add, List.nil_append] at O1x
          have C2x : Chg (w5.alloc (.cells #[.slice a3 m c3] 22)).drew w6 (fun _ => False) := (Chg.refl _ _).grown g1x (fun j hj _ => by cases hj)
          obtain ⟨a1, c1, rfl, -⟩ := own_form O1x
          change K (Act.put _ (some 85) _) _
          simp only [Act.put, List.setIfInBounds_toArray, List.set_cons_zero, List.set_cons_succ]
          refine hK.out _ _ (.inl (⟨C2x.cell (C1x.cell q65 (fun h => h)) (fun h => h), C2x.cell (C1x.cell dq5 (fun h => h)) (fun h => h)⟩)) (fun hHeld => ?_)
          replace hHeld := SOr.stands hHeld (by kernel_rfl)
          clear hK K
          try simp only [Act.put, List.setIfInBounds_toArray, List.set_cons_zero, List.set_cons_succ]
          refine wpAnyL_ready (rs := [15]) (by kernel_rfl) (by simp) ?_
          refine AllReadyL.cons rfl (fun K hK => ?_) AllReadyL.nil
          refine op_append_src (.tmp 85) (.tmp 87) _ rfl w5.heap.size 22 i2 _ 1 24 Try.underlying40 hj0 hy0 hy1 hy2 rfl (by omega) _ z ms rfl O1x (some ⟨w5.heap.size, 0, none⟩) 1 1 [.slice a3 m c3] rfl (SB.chg C2x (fun _ _ h => h)) (by intro u hu; rw [List.mem_singleton] at hu; subst hu; rfl) (by unfold maxLen; omega) (by omega) (by have := C1x.size; have := C2x.size; omega) ?_
          intro v2 wz O2 g2x
          have CX : Chg w5 wz (fun _ => False) := (C1x.trans C2x).grown g2x (fun j hj h => by have := (O1x.lt j hj).1; omega)
          obtain ⟨a2, c2, rfl, -⟩ := own_form O2
          change K (Act.put _ (some 88) _) _
          simp only [Act.put, List.setIfInBounds_toArray, List.set_cons_zero, List.set_cons_succ]
          refine hK.out _ _ (.inl (⟨CX.cell q65 (fun h => h), CX.cell dq5 (fun h => h)⟩)) (fun hHeld => ?_)
          replace hHeld := SOr.stands hHeld (by kernel_rfl)
          clear hK K
          try simp only [Act.put, List.setIfInBounds_toArray, List.set_cons_zero, List.set_cons_succ]
          refine wpAnyL_tail (l := [17]) (by kernel_rfl) (by kernel_rfl) ?_
          simp only [tailOps, List.filterMap_cons, List.filterMap_nil, List.getElem?_toArray, List.getElem?_cons_succ, List.getElem?_cons_zero]
          clear hHeld
          have HCZ := Lib.hid CX
          have HO2 := Lib.hid O2
          have qz := CX.cell q65 (fun h => h)
          have dz := CX.cell dq5 (fun h => h)
          have fz : wz.frozen? ⟨D.gq, i, none⟩ = false := (CX.frozen dq5 (fun h => h)).trans fz5
          have hlz : D.gq < wz.heap.size := World.block_lt_of_cell? wz _ dz
          clear CX O2 q65 dq5 fz5 O1x C1x
          go_wp2_with fail
          refine NoPanic.normal ?_
          go_wp2_with fail
          go_ret
          have hlx := HLX.out
          subst hlx
          have HC35 := HC5.out.trans HCZ.out
          have RR := HN.out.put (ms := ms) HI (HC03.out.trans HC35) HC35 (by have := HC1.out.size; have := HC3.out.size; omega) HO3.out (own_base HO2.out (by have := HC1.out.size; omega)) (by
                        exact HMSW.out) (by
            have hmm := HM0.out
            have hq := HQK.out
            refine ⟨by rw [List.length_append, List.length_singleton, HZ.out, HX.out]; dsimp only; omega, fun h => by rw [HX.out] at h; exact absurd h (show ¬ (1 : Int) = 0 by decide), fun ys hy => ?_⟩
            rcases List.mem_append.1 hy with hy | hy
            · exact hq.msg ys hy
            · rw [List.mem_singleton] at hy
              subst hy
              exact ⟨HB.out, by omega, hm64⟩) rfl
          rw [HE.out.1, HE.out.2]
          exact ⟨rfl, RR⟩
end Go.Proofs.Ytiedfglkjkaefaa

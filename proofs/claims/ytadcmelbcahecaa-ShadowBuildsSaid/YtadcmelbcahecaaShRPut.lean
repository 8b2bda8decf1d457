/- trunnionref14.put. -/
import Derived.Test.YtadcmelbcahecaaShRIn
namespace Go.Proofs.Ytadcmelbcahecaa
open Go.RowKit

/-- A list of ints that the call has made; the empty one is nil. -/
structure IntsAt (w : World) (base : Nat) (ao : Option Addr) (cap : Nat) (T : List Int) : Prop where
  own : w.ownsRow base 3 1 (.slice ao T.length cap) T.length (T.flatMap icell)
  nil : T = [] → ao = none ∧ cap = 0

theorem Chg.mono' {w w' : World} {P Q : Nat → Prop} (h : Chg w w' P) (hq : ∀ k, P k → Q k) : Chg w w' Q := ⟨h.os, h.tape, h.output, h.size, fun k hk hn => h.block k hk (fun hp => hn (hq k hp))⟩
theorem icells_one (xs : List Int) : ∀ u ∈ xs.flatMap icell, u.oneCell' = true := fun u hu => by
  obtain ⟨x, -, hu⟩ := List.mem_flatMap.1 hu
  rw [List.mem_singleton.1 hu]
  rfl
theorem icells_len (xs : List Int) : (xs.flatMap icell).length = xs.length := by rw [flat_icell]; simp
theorem icells_drop (xs : List Int) (k : Nat) : (xs.drop k).flatMap icell = (xs.flatMap icell).drop k := by rw [flat_icell, flat_icell, List.map_drop]
theorem icells_take (xs : List Int) (k : Nat) : (xs.take k).flatMap icell = (xs.flatMap icell).take k := by rw [flat_icell, flat_icell, List.map_take]
/-- The end of an own row, as a source. -/
theorem src_tail {w : World} {base g cap : Nat} {xs : List Int} (h : w.ownsRow base 3 1 (.slice (some ⟨g, 0, none⟩) xs.length cap) xs.length (xs.flatMap icell)) (k : Nat) (hk : k < xs.length) (c : Nat) : Src w (some ⟨g, k, none⟩) (xs.length - k) c ((xs.drop k).flatMap icell) 1 := by
  refine ⟨by rw [icells_len, List.length_drop]; omega, fun h => (by cases h), fun ad he j u hu => ?_⟩
  injection he with he
  subst he
  rw [icells_drop, List.getElem?_drop] at hu
  rw [Addr.add_lit]
  exact own_cells h (k + j) u hu
theorem src_end {w : World} {ad : Addr} (c : Nat) (xs : List Int) : Src w (some ad) 0 c ((xs.drop xs.length).flatMap icell) 1 := by
  rw [List.drop_length]
  exact ⟨rfl, fun h => (by cases h), fun ad he j u hu => (by simp at hu)⟩
theorem src_head {w : World} {base g cap : Nat} {xs : List Int} (h : w.ownsRow base 3 1 (.slice (some ⟨g, 0, none⟩) xs.length cap) xs.length (xs.flatMap icell)) (k : Nat) (hk : k ≤ xs.length) : Src w (some ⟨g, 0, none⟩) k cap ((xs.take k).flatMap icell) 1 := by
  refine ⟨by rw [icells_len, List.length_take]; omega, fun h => (by cases h), fun ad he j u hu => ?_⟩
  injection he with he
  subst he
  rw [icells_take, List.getElem?_take] at hu
  split at hu
  · rw [Addr.add_lit, Nat.zero_add]
    exact own_cells h j u hu
  · cases hu

set_option maxRecDepth 100000 in
set_option maxHeartbeats 8000000 in
theorem rput_any {ao : Option Addr} {cap base : Nat} (xs : List Int) (x pages : Int) (w : World) (h0 : IntsAt w base ao cap xs) (hl : xs.length ≤ 1030) (hb : base ≤ w.heap.size) :
    Calls Try.prog 37 #[.slice ao xs.length cap, .int .i64 x, .int .i64 pages] w fun e w' => ∃ ao' cap', e = .returned (.slice ao' (putP pages xs x).length cap') ∧ IntsAt w' base ao' cap' (putP pages xs x) ∧ Chg w w' (fun _ => False) := by
  obtain ⟨i0, hi, hz0, hz1, hz2⟩ := info_parts info_ints
  have l0 := own_lst h0.own
  have hm1 := l0.mx
  have hm2 := l0.le
  unfold maxLen at hm1
  have HONE := Lib.hid icells_one
  by_cases hp : pages ≤ x
  · have e1 : putP pages xs x = xs := if_pos hp
    rw [e1]
    have e2 : decide (x ≥ pages) = true := decide_eq_true hp
    go_enter Try.func37, Try.ntmps37
    go_wp2_with fail
    go_ret
    exact ⟨ao, cap, rfl, h0, Chg.refl _ _⟩
  · have HI := Lib.hid (ins_at x xs)
    have e1 : putP pages xs x = ins xs x := if_neg hp
    rw [e1]
    obtain ⟨R, hR⟩ : ∃ R, ins xs x = R := ⟨_, rfl⟩
    rw [hR] at HI
    rw [hR]
    clear e1 hR
    go_enter Try.func37, Try.ntmps37
    go_wp2_with fail
    go_loopg [7] xs.length (fun g s7 wr => ∃ k : Nat, g + k = xs.length ∧ s7 = .int .i64 k ∧ w = wr ∧ Hid (∀ j (h : j < xs.length), j < k → xs[j] < x))
    case atStart => exact ⟨0, rfl, rfl, rfl, fun j _ h => absurd h (Nat.not_lt_zero _)⟩
    case round =>
      obtain ⟨k, hk, rfl, rfl, HJ⟩ := hrel
      have HK := Lib.hid hk
      by_cases hlt : k < xs.length
      · obtain ⟨g0, cap0, hv0, hg0, hg1, hcap, hmx⟩ := own_block h0.own (by omega)
        injection hv0 with hv1 hv2 hv3
        subst hv1 hv3
        have c0 := Lst.cell0 (n := 1) (l := xs) (f := icell) (fun _ => rfl) l0 k (by decide) hlt rfl
        rw [Nat.mul_one, Nat.zero_add] at c0
        have HJ2 : Hid (∀ y, y = xs[k] → y < x → ∀ j (h : j < xs.length), j < k + 1 → xs[j] < x) := fun y hy hne j h hj => by
          rcases Nat.lt_or_eq_of_le (Nat.le_of_lt_succ hj) with h2 | rfl
          · exact HJ.out j h h2
          · rw [← hy]; exact hne
        have HQ : Hid (¬ xs[k] < x → R = if xs[k] = x then xs else xs.take k ++ x :: xs.drop k) := fun h => by
          have := HI.out k HJ.out (by omega) (fun _ => by omega)
          rw [this, List.getElem?_eq_getElem hlt]
          simp
        have hk0 : (0 : Int) ≤ (k : Int) := by omega
        have hk1 : (k : Int) < xs.length := by omega
        obtain ⟨y, hy⟩ : ∃ y, xs[k] = y := ⟨_, rfl⟩
        have HJ3 := Lib.hid (HJ2.out y hy.symm)
        rw [hy] at c0 HQ
        by_cases hxy : y < x
        · have HJ4 := Lib.hid (HJ3.out hxy)
          clear hy hk HJ HJ2 HQ HI
          go_wp2_with fail
          go_roundg (gk - 1)
          case measure => have := HK.out; omega
          case rel => exact ⟨k + 1, by have := HK.out; omega, by go_num, rfl, HJ4⟩
        · have hq := HQ.out hxy
          by_cases he : y = x
          · rw [if_pos he] at hq
            subst hq
            have heb : (y == x) = true := beq_iff_eq.2 he
            clear hy hk HJ HJ2 HQ HI he
            go_wp2_with fail
            go_ret
            exact ⟨_, _, rfl, h0, Chg.refl _ _⟩
          · rw [if_neg he] at hq
            have HRQ : Hid (R = xs.take k ++ x :: xs.drop k) := hq
            have heb : (y == x) = false := beq_eq_false_iff_ne.2 he
            have SD := src_tail h0.own k hlt (cap - k)
            have SH := src_head h0.own k (by omega)
            have hck : ¬ cap = k := by omega
            clear hy hk HJ HJ2 HJ3 HQ HI he l0 hq
            go_wp2_with (at_builtin; go_loud (refine wpList_append_src _ rfl (.const (.slice none 0 0)) (.tmp 42) _ rfl w.heap.size 3 i0 _ 1 8 Try.underlying36 hi hz0 hz1 hz2 rfl (by omega) _ 0 [] rfl (World.ownsRow_nil _ _ _ _) _ (xs.length - k) _ ((xs.drop k).flatMap icell) rfl SD (HONE.out _) (by unfold maxLen; omega) (by omega) (by omega) ?_); go_loud (intro v1 w1 O1 hgr1); go_loud (refine ?roundEnd))
            case roundEnd =>
              rw [Nat.zero_add, List.nil_append] at O1
              have C1 : Chg w w1 (fun _ => False) := Chg.of_grown hgr1 (fun k hk _ => by cases hk)
              obtain ⟨a1, c1, rfl, -, -, -, ha1⟩ := own_form O1
              have hs1 := C1.size
              have SH1 := SH.chg C1 (fun _ _ h => h)
              go_wp2_with (at_builtin; go_loud (refine wpList_append_src _ rfl (.const (.slice none 0 0)) (.tmp 46) _ rfl w1.heap.size 3 i0 _ 1 8 Try.underlying36 hi hz0 hz1 hz2 rfl (by omega) _ 0 [] rfl (World.ownsRow_nil _ _ _ _) _ k _ ((xs.take k).flatMap icell) rfl SH1 (HONE.out _) (by unfold maxLen; omega) (by omega) (by omega) ?_); go_loud (intro v2 w2 O2 hgr2); go_loud (refine ?roundEnd))
              case roundEnd =>
                rw [Nat.zero_add, List.nil_append] at O2
                have C2 : Chg w1 w2 (fun _ => False) := Chg.of_grown hgr2 (fun k hk _ => by cases hk)
                obtain ⟨a2, c2, rfl, -, -, -, ha2⟩ := own_form O2
                have hs2 := C2.size
                have C3 : Chg w2 (w2.alloc (.cells #[.int .i64 x] 3)) (fun _ => False) := (Chg.refl w2 _).alloc _
                have hs3 := C3.size
                have SN := (Box.new w2 3 #[.int .i64 x]).src 1 1 1 [.int .i64 x] rfl rfl
                have O2b := own_chg O2 C3 (fun _ _ h => h)
                go_wp2_with (at_builtin; go_loud (refine wpList_append_src _ rfl (.tmp 47) (.tmp 49) _ rfl w1.heap.size 3 i0 _ 1 8 Try.underlying36 hi hz0 hz1 hz2 rfl (by omega) _ k _ rfl O2b _ 1 1 [.int .i64 x] rfl SN (by intro u hu; rw [List.mem_singleton] at hu; rw [hu]; rfl) (by unfold maxLen; omega) (by omega) (by omega) ?_); go_loud (intro v4 w4 O4 hgr4); go_loud (refine ?roundEnd))
                case roundEnd =>
                  have CX : Chg w1 w4 (fun j => w1.heap.size ≤ j) := ((C2.trans C3).mono' (fun _ h => h.elim)).grown hgr4 (fun j hj _ => (O2b.lt j hj).1)
                  obtain ⟨a4, c4, rfl, -, -, -, ha4⟩ := own_form O4
                  have O1b := own_chg O1 CX (fun j hj h => by have := (O1.lt j hj).2; have h2 : w1.heap.size ≤ j := h; omega)
                  have S1 := own_src O1b
                  have hs4 := CX.size
                  go_wp2_with (at_builtin; go_loud (refine wpList_append_src _ rfl (.tmp 50) (.tmp 51) _ rfl w1.heap.size 3 i0 _ 1 8 Try.underlying36 hi hz0 hz1 hz2 rfl (by omega) _ (k + 1) _ rfl O4 _ (xs.length - k) _ ((xs.drop k).flatMap icell) rfl S1 (HONE.out _) (by unfold maxLen; omega) (by omega) (by omega) ?_); go_loud (intro v5 w5 O5 hgr5); go_loud (refine ?roundEnd))
                  case roundEnd =>
                    have hlen : k + 1 + (xs.length - k) = R.length := by rw [HRQ.out, List.length_append, List.length_cons, List.length_take, List.length_drop]; omega
                    have hcel : (xs.take k).flatMap icell ++ [Value.int .i64 x] ++ (xs.drop k).flatMap icell = R.flatMap icell := by rw [HRQ.out, List.flatMap_append, List.flatMap_cons, List.append_assoc]; rfl
                    rw [hlen, hcel] at O5
                    obtain ⟨a5, c5, rfl, -, -, -, ha5⟩ := own_form O5
                    have CY : Chg w w5 (fun _ => False) := (C1.trans' CX (fun j hj h => by have h2 : w1.heap.size ≤ j := h; omega)).grown hgr5 (fun j hj hlt => by have := (O4.lt j hj).1; omega)
                    clear HONE ha1 ha2 ha4 ha5 hlen hcel
                    go_wp2_with fail
                    go_ret
                    exact ⟨a5, c5, rfl, ⟨own_base O5 (by omega), fun h => absurd (HRQ.out.symm.trans h) (by simp)⟩, CY⟩
      · obtain rfl : k = xs.length := by omega
        have hq := HI.out xs.length (fun j h _ => HJ.out j h h) (Nat.le_refl _) (fun h => absurd h (Nat.lt_irrefl _))
        rw [if_neg (by simp)] at hq
        have HRQ : Hid (R = xs.take xs.length ++ x :: xs.drop xs.length) := hq
        clear hk HI HJ hq
        rcases Nat.eq_zero_or_pos xs.length with hx0 | hx0
        · have hx : xs = [] := List.eq_nil_of_length_eq_zero hx0
          subst hx
          obtain ⟨rfl, rfl⟩ := h0.nil rfl
          have hR1 : R = [x] := HRQ.out
          subst hR1
          have SZ : ∀ wx : World, Src wx none 0 0 [] 1 := fun _ => ⟨rfl, fun _ => ⟨rfl, rfl⟩, fun ad h => (by cases h)⟩
          have hs3 := ((Chg.refl w (fun _ => False)).alloc (.cells #[.int .i64 x] 3)).size
          have SN := (Box.new w 3 #[.int .i64 x]).src 1 1 1 [.int .i64 x] rfl rfl
          go_wp2_with (at_builtin; go_loud (refine wpList_append_src _ rfl (.tmp 47) (.tmp 49) _ rfl w.heap.size 3 i0 _ 1 8 Try.underlying36 hi hz0 hz1 hz2 rfl (by omega) _ 0 [] rfl (World.ownsRow_nil _ _ _ _) _ 1 1 [.int .i64 x] rfl SN (by intro u hu; rw [List.mem_singleton] at hu; rw [hu]; rfl) (by unfold maxLen; omega) (by omega) (by omega) ?_); go_loud (intro v4 w4 O4 hgr4); go_loud (refine ?roundEnd))
          case roundEnd =>
            rw [Nat.zero_add, List.nil_append] at O4
            have CX : Chg w w4 (fun _ => False) := ((Chg.refl w (fun _ => False)).alloc _).grown hgr4 (fun j hj _ => by cases hj)
            obtain ⟨a4, c4, rfl, -, -, -, ha4⟩ := own_form O4
            have hs4 := CX.size
            go_wp2_with (at_builtin; go_loud (refine wpList_append_src _ rfl (.tmp 50) (.tmp 51) _ rfl w.heap.size 3 i0 _ 1 8 Try.underlying36 hi hz0 hz1 hz2 rfl (by omega) _ 1 _ rfl O4 _ 0 0 [] rfl (SZ _) (fun u hu => by cases hu) (by unfold maxLen; omega) (by omega) (by omega) ?_); go_loud (intro v5 w5 O5 hgr5); go_loud (refine ?roundEnd))
            case roundEnd =>
              obtain ⟨a5, c5, rfl, -, -, -, ha5⟩ := own_form O5
              have CY : Chg w w5 (fun _ => False) := CX.grown hgr5 (fun j hj hlt => by have := (O4.lt j hj).1; omega)
              clear HONE ha4 ha5
              go_wp2_with fail
              go_ret
              exact ⟨a5, c5, rfl, ⟨own_base O5 hb, fun h => by cases h⟩, CY⟩
        · obtain ⟨g0, cap0, hv0, hg0, hg1, hcap, hmx⟩ := own_block h0.own hx0
          injection hv0 with hv1 hv2 hv3
          subst hv1 hv3
          have SH := src_head h0.own xs.length (Nat.le_refl _)
          by_cases hck : cap = xs.length
          · have SD := src_end (w := w) (ad := ⟨g0, 0, none⟩) 0 xs
            subst hck
            clear l0
            go_wp2_with (at_builtin; go_loud (refine wpList_append_src _ rfl (.const (.slice none 0 0)) (.tmp 42) _ rfl w.heap.size 3 i0 _ 1 8 Try.underlying36 hi hz0 hz1 hz2 rfl (by omega) _ 0 [] rfl (World.ownsRow_nil _ _ _ _) _ 0 _ ((xs.drop xs.length).flatMap icell) rfl SD (HONE.out _) (by unfold maxLen; omega) (by omega) (by omega) ?_); go_loud (intro v1 w1 O1 hgr1); go_loud (refine ?roundEnd))
            case roundEnd =>
              rw [Nat.zero_add, List.nil_append] at O1
              have C1 : Chg w w1 (fun _ => False) := Chg.of_grown hgr1 (fun k hk _ => by cases hk)
              obtain ⟨a1, c1, rfl, -, -, -, ha1⟩ := own_form O1
              have hs1 := C1.size
              have SH1 := SH.chg C1 (fun _ _ h => h)
              go_wp2_with (at_builtin; go_loud (refine wpList_append_src _ rfl (.const (.slice none 0 0)) (.tmp 46) _ rfl w1.heap.size 3 i0 _ 1 8 Try.underlying36 hi hz0 hz1 hz2 rfl (by omega) _ 0 [] rfl (World.ownsRow_nil _ _ _ _) _ xs.length _ ((xs.take xs.length).flatMap icell) rfl SH1 (HONE.out _) (by unfold maxLen; omega) (by omega) (by omega) ?_); go_loud (intro v2 w2 O2 hgr2); go_loud (refine ?roundEnd))
              case roundEnd =>
                rw [Nat.zero_add, List.nil_append] at O2
                have C2 : Chg w1 w2 (fun _ => False) := Chg.of_grown hgr2 (fun k hk _ => by cases hk)
                obtain ⟨a2, c2, rfl, -, -, -, ha2⟩ := own_form O2
                have hs2 := C2.size
                have C3 : Chg w2 (w2.alloc (.cells #[.int .i64 x] 3)) (fun _ => False) := (Chg.refl w2 _).alloc _
                have hs3 := C3.size
                have SN := (Box.new w2 3 #[.int .i64 x]).src 1 1 1 [.int .i64 x] rfl rfl
                have O2b := own_chg O2 C3 (fun _ _ h => h)
                go_wp2_with (at_builtin; go_loud (refine wpList_append_src _ rfl (.tmp 47) (.tmp 49) _ rfl w1.heap.size 3 i0 _ 1 8 Try.underlying36 hi hz0 hz1 hz2 rfl (by omega) _ xs.length _ rfl O2b _ 1 1 [.int .i64 x] rfl SN (by intro u hu; rw [List.mem_singleton] at hu; rw [hu]; rfl) (by unfold maxLen; omega) (by omega) (by omega) ?_); go_loud (intro v4 w4 O4 hgr4); go_loud (refine ?roundEnd))
                case roundEnd =>
                  have CX : Chg w1 w4 (fun j => w1.heap.size ≤ j) := ((C2.trans C3).mono' (fun _ h => h.elim)).grown hgr4 (fun j hj _ => (O2b.lt j hj).1)
                  obtain ⟨a4, c4, rfl, -, -, -, ha4⟩ := own_form O4
                  have O1b := own_chg O1 CX (fun j hj h => by have := (O1.lt j hj).2; have h2 : w1.heap.size ≤ j := h; omega)
                  have S1 := own_src O1b
                  have hs4 := CX.size
                  go_wp2_with (at_builtin; go_loud (refine wpList_append_src _ rfl (.tmp 50) (.tmp 51) _ rfl w1.heap.size 3 i0 _ 1 8 Try.underlying36 hi hz0 hz1 hz2 rfl (by omega) _ (xs.length + 1) _ rfl O4 _ 0 _ ((xs.drop xs.length).flatMap icell) rfl S1 (HONE.out _) (by unfold maxLen; omega) (by omega) (by omega) ?_); go_loud (intro v5 w5 O5 hgr5); go_loud (refine ?roundEnd))
                  case roundEnd =>
                    have hlen : xs.length + 1 + 0 = R.length := by rw [HRQ.out, List.length_append, List.length_cons, List.length_take, List.length_drop]; omega
                    have hcel : (xs.take xs.length).flatMap icell ++ [Value.int .i64 x] ++ (xs.drop xs.length).flatMap icell = R.flatMap icell := by rw [HRQ.out, List.flatMap_append, List.flatMap_cons, List.append_assoc]; rfl
                    rw [hlen, hcel] at O5
                    obtain ⟨a5, c5, rfl, -, -, -, ha5⟩ := own_form O5
                    have CY : Chg w w5 (fun _ => False) := (C1.trans' CX (fun j hj h => by have h2 : w1.heap.size ≤ j := h; omega)).grown hgr5 (fun j hj hlt => by have := (O4.lt j hj).1; omega)
                    clear HONE ha1 ha2 ha4 ha5 hlen hcel
                    go_wp2_with fail
                    go_ret
                    exact ⟨a5, c5, rfl, ⟨own_base O5 (by omega), fun h => absurd (HRQ.out.symm.trans h) (by simp)⟩, CY⟩
          · have SD := src_end (w := w) (ad := ⟨g0, xs.length, none⟩) (cap - xs.length) xs
            clear l0
            go_wp2_with (at_builtin; go_loud (refine wpList_append_src _ rfl (.const (.slice none 0 0)) (.tmp 42) _ rfl w.heap.size 3 i0 _ 1 8 Try.underlying36 hi hz0 hz1 hz2 rfl (by omega) _ 0 [] rfl (World.ownsRow_nil _ _ _ _) _ 0 _ ((xs.drop xs.length).flatMap icell) rfl SD (HONE.out _) (by unfold maxLen; omega) (by omega) (by omega) ?_); go_loud (intro v1 w1 O1 hgr1); go_loud (refine ?roundEnd))
            case roundEnd =>
              rw [Nat.zero_add, List.nil_append] at O1
              have C1 : Chg w w1 (fun _ => False) := Chg.of_grown hgr1 (fun k hk _ => by cases hk)
              obtain ⟨a1, c1, rfl, -, -, -, ha1⟩ := own_form O1
              have hs1 := C1.size
              have SH1 := SH.chg C1 (fun _ _ h => h)
              go_wp2_with (at_builtin; go_loud (refine wpList_append_src _ rfl (.const (.slice none 0 0)) (.tmp 46) _ rfl w1.heap.size 3 i0 _ 1 8 Try.underlying36 hi hz0 hz1 hz2 rfl (by omega) _ 0 [] rfl (World.ownsRow_nil _ _ _ _) _ xs.length _ ((xs.take xs.length).flatMap icell) rfl SH1 (HONE.out _) (by unfold maxLen; omega) (by omega) (by omega) ?_); go_loud (intro v2 w2 O2 hgr2); go_loud (refine ?roundEnd))
              case roundEnd =>
                rw [Nat.zero_add, List.nil_append] at O2
                have C2 : Chg w1 w2 (fun _ => False) := Chg.of_grown hgr2 (fun k hk _ => by cases hk)
                obtain ⟨a2, c2, rfl, -, -, -, ha2⟩ := own_form O2
                have hs2 := C2.size
                have C3 : Chg w2 (w2.alloc (.cells #[.int .i64 x] 3)) (fun _ => False) := (Chg.refl w2 _).alloc _
                have hs3 := C3.size
                have SN := (Box.new w2 3 #[.int .i64 x]).src 1 1 1 [.int .i64 x] rfl rfl
                have O2b := own_chg O2 C3 (fun _ _ h => h)
                go_wp2_with (at_builtin; go_loud (refine wpList_append_src _ rfl (.tmp 47) (.tmp 49) _ rfl w1.heap.size 3 i0 _ 1 8 Try.underlying36 hi hz0 hz1 hz2 rfl (by omega) _ xs.length _ rfl O2b _ 1 1 [.int .i64 x] rfl SN (by intro u hu; rw [List.mem_singleton] at hu; rw [hu]; rfl) (by unfold maxLen; omega) (by omega) (by omega) ?_); go_loud (intro v4 w4 O4 hgr4); go_loud (refine ?roundEnd))
                case roundEnd =>
                  have CX : Chg w1 w4 (fun j => w1.heap.size ≤ j) := ((C2.trans C3).mono' (fun _ h => h.elim)).grown hgr4 (fun j hj _ => (O2b.lt j hj).1)
                  obtain ⟨a4, c4, rfl, -, -, -, ha4⟩ := own_form O4
                  have O1b := own_chg O1 CX (fun j hj h => by have := (O1.lt j hj).2; have h2 : w1.heap.size ≤ j := h; omega)
                  have S1 := own_src O1b
                  have hs4 := CX.size
                  go_wp2_with (at_builtin; go_loud (refine wpList_append_src _ rfl (.tmp 50) (.tmp 51) _ rfl w1.heap.size 3 i0 _ 1 8 Try.underlying36 hi hz0 hz1 hz2 rfl (by omega) _ (xs.length + 1) _ rfl O4 _ 0 _ ((xs.drop xs.length).flatMap icell) rfl S1 (HONE.out _) (by unfold maxLen; omega) (by omega) (by omega) ?_); go_loud (intro v5 w5 O5 hgr5); go_loud (refine ?roundEnd))
                  case roundEnd =>
                    have hlen : xs.length + 1 + 0 = R.length := by rw [HRQ.out, List.length_append, List.length_cons, List.length_take, List.length_drop]; omega
                    have hcel : (xs.take xs.length).flatMap icell ++ [Value.int .i64 x] ++ (xs.drop xs.length).flatMap icell = R.flatMap icell := by rw [HRQ.out, List.flatMap_append, List.flatMap_cons, List.append_assoc]; rfl
                    rw [hlen, hcel] at O5
                    obtain ⟨a5, c5, rfl, -, -, -, ha5⟩ := own_form O5
                    have CY : Chg w w5 (fun _ => False) := (C1.trans' CX (fun j hj h => by have h2 : w1.heap.size ≤ j := h; omega)).grown hgr5 (fun j hj hlt => by have := (O4.lt j hj).1; omega)
                    clear HONE ha1 ha2 ha4 ha5 hlen hcel
                    go_wp2_with fail
                    go_ret
                    exact ⟨a5, c5, rfl, ⟨own_base O5 (by omega), fun h => absurd (HRQ.out.symm.trans h) (by simp)⟩, CY⟩
end Go.Proofs.Ytadcmelbcahecaa

/- PlanFull: that in a frame that is full of windows each tick but those of the switches is somebody's step. No condition. -/
import Derived.Test.YtmbdimcjpdofoaaPlanF
import Derived.Test.YtmbdimcjpdofoaaPlan4
import Derived.Test.YtmbdimcjpdofoaaAlive15
import Derived.Test.YtmbdimcjpdofoaaSeq
import Derived.Test.YtmbdimcjpdofoaaRow
import Derived.Deep.DeepCutAuto
namespace Go.Proofs.Ytmbdimcjpdofoaa
open Go.RowKit Go.ChangeShapes Go.WideShapes Go.ChangeAt

set_option maxRecDepth 100000 in
set_option maxHeartbeats 8000000 in
theorem full_in {l : List Int} {ao : Option Addr} {cap : Nat} (sw t : Int) (w : World) (hL : Lst w ao l.length cap (l.flatMap iCells) 1) (hl : 1 ≤ l.length ∧ l.length ≤ 32) (hs : 0 ≤ sw ∧ sw ≤ 100) (ht : 0 ≤ t ∧ t ≤ 1073741824) :
    Calls Try.prog 6 #[.slice ao l.length cap, .int .i64 sw, .int .i64 t] w fun e w' => e = .returned (.bool true) ∧ Below w.heap.size w w' := by
  obtain ⟨hl1, hl2⟩ := hl
  obtain ⟨hs1, hs2⟩ := hs
  obtain ⟨ht1, ht2⟩ := ht
  obtain ⟨ab, aof, rfl⟩ := hL.pos hl1
  have q0 : decide ((l.length : Int) < 1) = false := decide_eq_false (by omega)
  have q1 : decide ((32 : Int) < (l.length : Int)) = false := decide_eq_false (by omega)
  have q2 : decide (sw < 0) = false := decide_eq_false (by omega)
  have q3 : decide (100 < sw) = false := decide_eq_false (by omega)
  have q4 : decide (t < 0) = false := decide_eq_false (by omega)
  have q5 : decide (1073741824 < t) = false := decide_eq_false (by omega)
  obtain ⟨i0, hi, hz0, hz1, hz2⟩ := info_parts info_part
  go_enter Try.func6, Try.ntmps6
  go_wp2_with fail
  refine (alive15 _).mono ?_
  rintro e w1 ⟨rfl, C1⟩
  go_wp2_with fail
  refine (one_any _).mono ?_
  rintro e w2 ⟨p, q, rfl, H2⟩
  clear q0 q1 q2 q3 q4 q5
  have hL1 := hL.chg C1 (fun _ _ h => h)
  have HKL := Lib.hid (fun w' (c : Chg w1 w' (fun _ => False)) => hL1.chg c (fun _ _ h => h))
  have B2 := Box.new w2 26 #[.int .i64 5, .int .i64 10, .int .i64 0, .slice (some ⟨p, 0, none⟩) 1 1, .slice none 0 0, .slice (some ⟨q, 0, none⟩) 1 1]
  obtain ⟨g, hg⟩ : ∃ g, w2.heap.size = g := ⟨_, rfl⟩
  have hpl := H2.pb.lt
  have hcs := H2.chg.size
  rw [hg] at B2 hpl hcs
  have f0 := B2.frozen 0
  have f2 := B2.frozen 2
  have hz := B2.lt
  have y0 := B2.cell 0
  have y2 := B2.cell 2
  go_upto_region 7 with fail
  have C5 : Chg w1 (w2.alloc (.cells #[.int .i64 20, .int .i64 10, .int .i64 sw, .slice (some ⟨p, 0, none⟩) 1 1, .slice none 0 0, .slice (some ⟨q, 0, none⟩) 1 1] 26)) (fun _ => False) := H2.chg.alloc _
  have B5 := Box.new w2 26 #[.int .i64 20, .int .i64 10, .int .i64 sw, .slice (some ⟨p, 0, none⟩) 1 1, .slice none 0 0, .slice (some ⟨q, 0, none⟩) 1 1]
  rw [hg] at B5
  have P5 : Box (w2.alloc (.cells #[.int .i64 20, .int .i64 10, .int .i64 sw, .slice (some ⟨p, 0, none⟩) 1 1, .slice none 0 0, .slice (some ⟨q, 0, none⟩) 1 1] 26)) p 44 #[.string sA, .int .i64 1, .int .i64 0] := H2.pb.alloc _
  clear f0 f2 hz y0 y2 B2
  generalize (w2.alloc (.cells #[.int .i64 20, .int .i64 10, .int .i64 sw, .slice (some ⟨p, 0, none⟩) 1 1, .slice none 0 0, .slice (some ⟨q, 0, none⟩) 1 1] 26)) = w5 at *
  have O5 := P5.own w1.heap.size 1 3 _ H2.hp rfl rfl (by unfold maxLen; omega)
  have c3 : w5.cell? ⟨g, 3, none⟩ = some (.slice (some ⟨p, 0, none⟩) 1 1) := B5.cell 3
  have f3 : w5.frozen? ⟨g, 3, none⟩ = false := B5.frozen 3
  have hz := B5.lt
  have hgp : g ≠ p := by omega
  have hcs5 := C5.size
  go_wp2_with (at_builtin; go_loud (refine wpList_append_lies _ rfl (.tmp 49) (.tmp 51) _ (by rfl) w1.heap.size 44 i0 _ 3 32 Try.underlying22 hi hz0 hz1 hz2 rfl (by omega) (.slice (some ⟨p, 0, none⟩) 1 1) 1 _ (by rfl) (own_alloc O5 _) ⟨w5.heap.size, 0, none⟩ 1 1 [.string sB, .int .i64 1, .int .i64 0] (by rfl) (by rfl) (World.news_of_block (cs := #[.string sB, .int .i64 1, .int .i64 0]) (t := 44) (fr := (0, 0)) (heap_alloc_new w5 _)) (by simp [Value.oneCell']) (by omega) (by unfold maxLen; omega) (by omega) (by simp; omega) (w5.heap.size + 1) (by simp) ?_; intro gg cap3 w6 hown1 hgrow hat hlt2; have M2 := box_grow (B5.alloc _) hgrow (fun e => hgp (by injection e)); have m3 : w6.cell? ⟨g, 3, none⟩ = some (.slice (some ⟨p, 0, none⟩) 1 1) := M2.cell 3; have m5 : w6.cell? ⟨g, 5, none⟩ = some (.slice (some ⟨q, 0, none⟩) 1 1) := M2.cell 5; have fz3 := M2.frozen 3; have fz5 := M2.frozen 5; have hz2 := M2.lt; refine ?roundEnd))
  have hgg : gg ≠ g := fun e => own_ne hown1 M2 (by decide) gg rfl e
  have N2 := (M2.set 3 (.slice (some ⟨gg, 0, none⟩) 2 cap3)).set 5 (.slice none 0 0)
  have C6 : Chg w1 ((w6.setCell ⟨g, 3, none⟩ (.slice (some ⟨gg, 0, none⟩) 2 cap3)).setCell ⟨g, 5, none⟩ (.slice none 0 0)) (fun _ => False) := ((((C5.alloc _).grown hgrow (fun j hj hlj => (Nat.not_lt.2 (O5.lt j hj).1 hlj).elim)).setCell (fun h => absurd h (by show ¬ g < _; omega)) _).setCell (fun h => absurd h (by show ¬ g < _; omega)) _)
  have O6 := own_chg hown1 (((Chg.refl w6 (fun j => j = g)).setCell (p := ⟨g, 3, none⟩) (fun _ => rfl) (.slice (some ⟨gg, 0, none⟩) 2 cap3)).setCell (p := ⟨g, 5, none⟩) (fun _ => rfl) (.slice none 0 0)) (fun j hj e => hgg (by injection hj with hj; rw [← e]; exact hj))
  clear B5 c3 f3 O5 hown1 hgrow hat M2
  obtain ⟨i1, hi1, hx0, hx1, hx2⟩ := info_parts info_win
  refine ?rest
  go_wp2_with fail
  clear m3 m5 fz3 fz5 hz2
  go_loopw [9, 10] (fun a i wr => ∃ (k : Nat) (v : Value), k ≤ l.length ∧ i = .int .i64 k ∧ a = .int .i64 (l.take k).sum ∧ (∀ x ∈ l.take k, sw < x ∧ x ≤ 2000) ∧ Chg w1 wr (fun _ => False) ∧ Box wr g 26 #[.int .i64 20, .int .i64 10, .int .i64 sw, .slice (some ⟨gg, 0, none⟩) 2 cap3, .slice none 0 0, v] ∧ wr.ownsRow w1.heap.size 44 3 (.slice (some ⟨gg, 0, none⟩) 2 cap3) 2 [.string sA, .int .i64 1, .int .i64 0, .string sB, .int .i64 1, .int .i64 0] ∧ wr.ownsRow w1.heap.size 38 3 v k ((wfR (l.take k) 0 0).flatMap winCells)) (fun _ i _ => l.length - (intOf i).toNat)
  case atStart => exact ⟨0, .slice none 0 0, by omega, rfl, by simp, by simp, C6, N2, O6, ⟨rfl, .inl ⟨rfl, rfl⟩⟩⟩
  case round =>
    obtain ⟨k, v, hk, rfl, rfl, hall, Ck, Bk, Ok, Ow⟩ := hrel
    have hti := fu_sum hs1 hall k
    rw [List.take_take, Nat.min_self] at hti
    obtain ⟨hm1, hm2⟩ := hti
    by_cases hlt : k < l.length
    · have hLk := HKL.out _ Ck
      have cL : wr.cell? ⟨ab, aof + k, none⟩ = some (.int .i64 l[k]) := by
        have := Lst.cell0 (n := 1) (fun _ => rfl) hLk k (by decide) hlt rfl
        rwa [Nat.mul_one] at this
      have htk := List.take_succ_eq_append_getElem hlt
      have HSUM : Hid ((l.take (k + 1)).sum = (l.take k).sum + l[k]) := by show _ = _; rw [htk, List.sum_append]; simp
      have HALL : Hid ((sw < l[k] ∧ l[k] ≤ 2000) → ∀ x ∈ l.take (k + 1), sw < x ∧ x ≤ 2000) := by
        show _ → _
        intro h x hx
        rw [htk, List.mem_append] at hx
        rcases hx with hx | hx
        · exact hall x hx
        · have : x = l[k] := by simpa using hx
          rw [this]; exact h
      have HFL : Hid ((wfR (l.take (k + 1)) 0 0).flatMap winCells = (wfR (l.take k) 0 0).flatMap winCells ++ [.int .i64 (l.take k).sum, .int .i64 l[k], .int .i64 ((k % 2 : Nat) : Int)]) := by
        show _ = _
        rw [htk, wfR_snoc, List.flatMap_append, List.length_take, Nat.min_eq_left (by omega), Int.zero_add, Nat.zero_add]
        rfl
      have hand : bits .and .i64 (k : Int) 1 = ((k % 2 : Nat) : Int) := and_one k (by omega)
      obtain ⟨x, hx⟩ : ∃ x, l[k] = x := ⟨_, rfl⟩
      have HX := Lib.hid hx
      rw [hx] at cL HSUM HALL HFL
      obtain ⟨sm, hsm⟩ : ∃ sm, (l.take k).sum = sm := ⟨_, rfl⟩
      rw [hsm] at HSUM HFL hm1 hm2 ⊢
      have hk0 : (0 : Int) ≤ (k : Int) := by omega
      have hk1 : (k : Int) < (l.length : Int) := by omega
      have hm3 : sm ≤ 64000 := by omega
      clear hLk htk hx hsm hall hm2
      by_cases g1 : x ≤ sw
      · have d1 : decide (x ≤ sw) = true := decide_eq_true g1
        clear g1
        go_wp2_with fail
        go_ret
        exact ⟨rfl, (C1.trans Ck).below_of (Nat.le_refl _) (fun _ h => h.elim)⟩
      have d1 : decide (x ≤ sw) = false := decide_eq_false g1
      by_cases g2 : 2000 < x
      · have d2 : decide (2000 < x) = true := decide_eq_true g2
        clear g1 g2
        go_wp2_with fail
        go_ret
        exact ⟨rfl, (C1.trans Ck).below_of (Nat.le_refl _) (fun _ h => h.elim)⟩
      have d2 : decide (2000 < x) = false := decide_eq_false g2
      have hx1' : sw < x := by omega
      have hx2' : x ≤ 2000 := by omega
      clear g1 g2
      have e5 : wr.cell? ⟨g, 5, none⟩ = some v := Bk.cell 5
      have f5 : wr.frozen? ⟨g, 5, none⟩ = false := Bk.frozen 5
      have hz := Bk.lt
      have hne := own_ne Ow Bk (by decide)
      obtain ⟨ao, cap5, rfl, hf1, hf2, hf3, hf4⟩ := own_form Ow
      go_upto_region 15 with fail
      go_cut [] (fun wx => ∃ v', Chg w1 wx (fun _ => False) ∧ Box wx g 26 #[.int .i64 20, .int .i64 10, .int .i64 sw, .slice (some ⟨gg, 0, none⟩) 2 cap3, .slice none 0 0, v'] ∧ wx.ownsRow w1.heap.size 44 3 (.slice (some ⟨gg, 0, none⟩) 2 cap3) 2 [.string sA, .int .i64 1, .int .i64 0, .string sB, .int .i64 1, .int .i64 0] ∧ wx.ownsRow w1.heap.size 38 3 v' (k + 1) ((wfR (l.take (k + 1)) 0 0).flatMap winCells))
      case first =>
        go_region_law ((refine step_append_lies _ (by rfl) _ _ _ (by rfl) w1.heap.size 38 i1 _ 3 24 Try.underlying24 hi1 hx0 hx1 hx2 rfl (by omega) (.slice ao k cap5) k _ (by rfl) (own_drew (own_alloc Ow _)) ⟨wr.heap.size, 0, none⟩ 1 1 [.int .i64 sm, .int .i64 x, .int .i64 ((k % 2 : Nat) : Int)] (by rfl) (by rfl) (World.news_of_block (cs := #[.int .i64 sm, .int .i64 x, .int .i64 ((k % 2 : Nat) : Int)]) (t := 38) (fr := (0, 0)) (heap_alloc_new wr _)) (by simp [Value.oneCell']) (by omega) (by unfold maxLen; omega) (by omega) (by simp; omega) (wr.heap.size + 1) (by simp) ?_; intro gw cap6 w7 hown7 hgrow7 hat7 hlt7; have M7 := box_grown (Bk.alloc _) hgrow7 (fun e => hne _ e.symm rfl); have m5 := M7.cell 5; have fz5 := M7.frozen 5; have hz7 := M7.lt))
        all_goals
          have hkp : ∀ j, (Value.slice (some ⟨gg, 0, none⟩) 2 cap3).ownBlock = some j → (Value.slice ao k cap5).ownBlock ≠ some j := fun j hj e => own_own_ne Ok Ow (by decide) j hj e
          have OP7 := own_chg (own_drew (own_alloc Ok _)) (Chg.of_grown (P := fun b => (Value.slice ao k cap5).ownBlock = some b) hgrow7 (fun b hb _ => hb)) (fun b hb hc => hkp b hb hc)
          go_wp2_with fail
          go_meet
          refine ⟨_, ((Ck.alloc _).drew.grown hgrow7 (fun b hb hlb => (Nat.not_lt.2 (Ow.lt b hb).1 hlb).elim)).setCell (fun h => absurd h (by show ¬ g < _; omega)) _, M7.set 5 _, own_chg OP7 ((Chg.refl w7 (fun b => b = g)).setCell (p := ⟨g, 5, none⟩) (fun _ => rfl) _) (own_ne OP7 M7 (by decide)), ?_⟩
          rw [HFL.out]
          exact own_chg hown7 ((Chg.refl w7 (fun b => b = g)).setCell (p := ⟨g, 5, none⟩) (fun _ => rfl) _) (own_ne hown7 M7 (by decide))
      case rest =>
        obtain ⟨v', C9, B9, O9, W9⟩ := hcut
        have cL9 : wc.cell? ⟨ab, aof + k, none⟩ = some (.int .i64 x) := by
          have := Lst.cell0 (n := 1) (fun _ => rfl) (HKL.out _ C9) k (by decide) hlt rfl
          rw [Nat.mul_one] at this
          rw [this, ← HX.out]
        clear e5 f5 cL Ck Bk Ok Ow hne
        go_wp2_with fail
        go_roundw
        case rel => exact ⟨k + 1, v', by omega, by go_num, by rw [HSUM.out], HALL.out ⟨hx1', hx2'⟩, C9, B9, O9, W9⟩
        case measure => simp [intOf]; omega
    · have h5 : k = l.length := by omega
      subst h5
      rw [List.take_length] at hall hm1 hm2 Ow ⊢
      have HF := Lib.hid (fu_facts ⟨hl1, hl2⟩ ⟨hs1, hs2⟩ hall)
      obtain ⟨aw, cw, rfl, _⟩ := own_form Ow
      have f1 : wr.frozen? ⟨g, 1, none⟩ = false := Bk.frozen 1
      have y1 : wr.cell? ⟨g, 1, none⟩ = some (.int .i64 10) := Bk.cell 1
      have hz := Bk.lt
      obtain ⟨s0, s1, hs0, hs1', hsum, hst0, hst1, hsh0, hsh1, hat⟩ := HF.out
      obtain ⟨hat1, hat2⟩ := hat t ht1 ht2
      obtain ⟨wo, hwo⟩ : ∃ wo, wr.setCell ⟨g, 1, none⟩ (.int .i64 l.sum) = wo := ⟨_, rfl⟩
      have CS : Chg wr wo (fun j => j = g) := by rw [← hwo]; exact (Chg.refl wr (fun j => j = g)).setCell (p := ⟨g, 1, none⟩) (fun _ => rfl) _
      have CW : Chg w1 wo (fun _ => False) := by rw [← hwo]; exact Ck.setCell (fun h => absurd h (by show ¬ g < _; omega)) _
      have BO : Box wo g 26 #[.int .i64 20, .int .i64 l.sum, .int .i64 sw, .slice (some ⟨gg, 0, none⟩) 2 cap3, .slice none 0 0, .slice aw l.length cw] := by rw [← hwo]; exact Bk.set 1 _
      have HA := fu_at (l := l) (sw := sw) (own_chg Ok CS (own_ne Ok Bk (by decide))) (own_chg Ow CS (own_ne Ow Bk (by decide)))
      have hcells : cfgCells (fuC l sw) (some ⟨gg, 0, none⟩) none aw cap3 0 cw = #[.int .i64 20, .int .i64 l.sum, .int .i64 sw, .slice (some ⟨gg, 0, none⟩) 2 cap3, .slice none 0 0, .slice aw l.length cw] := by
        show (#[.int .i64 20, .int .i64 l.sum, .int .i64 sw, .slice (some ⟨gg, 0, none⟩) 2 cap3, .slice none 0 0, .slice aw (wfR l 0 0).length cw] : Array Value) = _
        rw [wfR_len]
      have HKA := Lib.hid (fun w' (c : Chg wo w' (fun _ => False)) => HA.keep c)
      have HKB := Lib.hid (fun w' (c : Chg wo w' (fun _ => False)) => BO.chg c (fun h => h))
      have HK1 := Lib.hid (fun w' (c : Chg wo w' (fun _ => False)) (p a b : Int) => (by have := steps_any w' (HKA.out w' c) p a b; rw [hcells] at this; exact this))
      have HK2 := Lib.hid (fun w' (c : Chg wo w' (fun _ => False)) (t : Int) => (by have := at_any w' (HKA.out w' c) t; rw [hcells] at this; exact this))
      have HK3 := Lib.hid (fun w' (c : Chg wo w' (fun _ => False)) (p : Int) => (by have := shareall_any w' (HKA.out w' c) p; rw [hcells] at this; exact this))
      obtain ⟨tot, htot⟩ : ∃ tot, l.sum = tot := ⟨_, rfl⟩
      rw [htot] at hst0 hst1 hsum hm1 hm2 hwo HKB HK1 HK2 HK3 ⊢
      obtain ⟨pr, hpr⟩ : ∃ pr, (l.length : Int) * sw = pr := ⟨_, rfl⟩
      have hpr0 : 0 ≤ pr := by rw [← hpr]; exact Int.mul_nonneg (by omega) hs1
      have hpr1 : pr ≤ 3200 := by
        have := Int.mul_le_mul (show (l.length : Int) ≤ 32 by omega) hs2 hs1 (by decide)
        omega
      rw [hpr] at hsum
      obtain ⟨av, hav⟩ : ∃ av, atV (fuC l sw) t = av := ⟨_, rfl⟩
      rw [hav] at hat1 hat2
      have HST0 := Lib.hid hst0
      have HST1 := Lib.hid hst1
      have HSH0 := Lib.hid hsh0
      have HSH1 := Lib.hid hsh1
      have HAV := Lib.hid hav
      obtain ⟨a1, a2⟩ := av
      have d8 : decide (0 ≤ a1) = true := decide_eq_true hat1
      have d9 : decide (0 ≤ a2) = true := decide_eq_true hat2
      have ht3 : tot ≤ 64000 := by omega
      have hb0 : s0 ≤ 64000 := by omega
      have hb1 : s1 ≤ 64000 := by omega
      have yw : IntKind.i64.wrap (tot * 3) = tot * 3 := IntWalk.i64_in _ (by omega)
      have ya : IntKind.i64.wrap (3 * s0 + 3 * s1) = 3 * s0 + 3 * s1 := IntWalk.i64_in _ (by omega)
      have yp : IntKind.i64.wrap pr = pr := IntWalk.i64_in _ (by omega)
      have yq : IntKind.i64.wrap (tot - pr) = tot - pr := IntWalk.i64_in _ (by omega)
      have yr : IntKind.i64.wrap (3 * (tot - pr)) = 3 * (tot - pr) := IntWalk.i64_in _ (by omega)
      have ys : IntKind.i64.wrap (s0 + s1) = s0 + s1 := IntWalk.i64_in _ (by omega)
      have e8 : (3 * s0 + 3 * s1 == 3 * (tot - pr)) = true := beq_iff_eq.2 (by omega)
      have e9 : (s0 + s1 == tot - pr) = true := beq_iff_eq.2 (by omega)
      clear hst0 hst1 hsh0 hsh1 hav htot hall hm2 hat1 hat2 hsum HA hcells CS Bk Ok Ow hb0 hb1 HF hat
      go_wp2_with fail
      clear f1 y1 hwo
      refine wp_region_noPanic ?_
      refine seq_begin (fun w' => Chg wo w' (fun _ => False)) (by kernel_rfl) ((Chg.refl wo (fun _ => False)).drew) ?_
      refine seq_op 0 (oi := ?oq0) (v := ?vq0) ?hq0 (by kernel_rfl) (by kernel_rfl) (by kernel_rfl) (fun _ _ _ h => h) ?wq0 (fun K wq hS hK => ?yq0) ?rq0
      case hq0 => simp only [List.getElem?_toArray, List.getElem?_cons_succ, List.getElem?_cons_zero]; rfl
      case wq0 => rfl
      case yq0 =>
        have HS := Lib.hid hS
        have B := HKB.out _ hS
        have x0 := B.cell 0
        have x1 := B.cell 1
        have x2 := B.cell 2
        have x3 := B.cell 3
        have x4 := B.cell 4
        have x5 := B.cell 5
        clear hS B
        go_simp
        have hS2 := HS.out
        exact hK.out _ hS2
      try simp only [Act.put, List.setIfInBounds_toArray, List.set_cons_zero, List.set_cons_succ]
      refine seq_op 1 (oi := ?oq1) (v := ?vq1) ?hq1 (by kernel_rfl) (by kernel_rfl) (by kernel_rfl) (fun _ _ _ h => h) ?wq1 (fun K wq hS hK => ?yq1) ?rq1
      case hq1 => simp only [List.getElem?_toArray, List.getElem?_cons_succ, List.getElem?_cons_zero]; rfl
      case wq1 => rfl
      case yq1 =>
        have HS := Lib.hid hS
        try dsimp only at hS
        go_simp
        exact hK.out _ HS.out
      try simp only [Act.put, List.setIfInBounds_toArray, List.set_cons_zero, List.set_cons_succ]
      refine seq_op 2 (oi := ?oq2) (v := ?vq2) ?hq2 (by kernel_rfl) (by kernel_rfl) (by kernel_rfl) (fun _ _ _ h => h) ?wq2 (fun K wq hS hK => ?yq2) ?rq2
      case hq2 => simp only [List.getElem?_toArray, List.getElem?_cons_succ, List.getElem?_cons_zero]; rfl
      case wq2 => rfl
      case yq2 =>
        have HS := Lib.hid hS
        try dsimp only at hS
        go_simp
        exact hK.out _ HS.out
      try simp only [Act.put, List.setIfInBounds_toArray, List.set_cons_zero, List.set_cons_succ]
      refine seq_op 3 (oi := ?oq3) (v := ?vq3) ?hq3 (by kernel_rfl) (by kernel_rfl) (by kernel_rfl) (fun _ _ _ h => h) ?wq3 (fun K wq hS hK => ?yq3) ?rq3
      case hq3 => simp only [List.getElem?_toArray, List.getElem?_cons_succ, List.getElem?_cons_zero]; rfl
      case wq3 => rfl
      case yq3 =>
        have HS := Lib.hid hS
        clear hS
        go_simp
        refine (HK1.out _ HS.out 0 0 (tot * 3)).mono ?_
        rintro e w8 ⟨rfl, C8⟩
        have hS2 := HS.out.trans C8
        rw [HST0.out]
        exact hK.out _ hS2
      try simp only [Act.put, List.setIfInBounds_toArray, List.set_cons_zero, List.set_cons_succ]
      refine seq_op 4 (oi := ?oq4) (v := ?vq4) ?hq4 (by kernel_rfl) (by kernel_rfl) (by kernel_rfl) (fun _ _ _ h => h) ?wq4 (fun K wq hS hK => ?yq4) ?rq4
      case hq4 => simp only [List.getElem?_toArray, List.getElem?_cons_succ, List.getElem?_cons_zero]; rfl
      case wq4 => rfl
      case yq4 =>
        have HS := Lib.hid hS
        have B := HKB.out _ hS
        have x0 := B.cell 0
        have x1 := B.cell 1
        have x2 := B.cell 2
        have x3 := B.cell 3
        have x4 := B.cell 4
        have x5 := B.cell 5
        clear hS B
        go_simp
        have hS2 := HS.out
        exact hK.out _ hS2
      try simp only [Act.put, List.setIfInBounds_toArray, List.set_cons_zero, List.set_cons_succ]
      refine seq_op 5 (oi := ?oq5) (v := ?vq5) ?hq5 (by kernel_rfl) (by kernel_rfl) (by kernel_rfl) (fun _ _ _ h => h) ?wq5 (fun K wq hS hK => ?yq5) ?rq5
      case hq5 => simp only [List.getElem?_toArray, List.getElem?_cons_succ, List.getElem?_cons_zero]; rfl
      case wq5 => rfl
      case yq5 =>
        have HS := Lib.hid hS
        try dsimp only at hS
        go_simp
        exact hK.out _ HS.out
      try simp only [Act.put, List.setIfInBounds_toArray, List.set_cons_zero, List.set_cons_succ]
      refine seq_op 6 (oi := ?oq6) (v := ?vq6) ?hq6 (by kernel_rfl) (by kernel_rfl) (by kernel_rfl) (fun _ _ _ h => h) ?wq6 (fun K wq hS hK => ?yq6) ?rq6
      case hq6 => simp only [List.getElem?_toArray, List.getElem?_cons_succ, List.getElem?_cons_zero]; rfl
      case wq6 => rfl
      case yq6 =>
        have HS := Lib.hid hS
        try dsimp only at hS
        go_simp
        exact hK.out _ HS.out
      try simp only [Act.put, List.setIfInBounds_toArray, List.set_cons_zero, List.set_cons_succ]
      refine seq_op 7 (oi := ?oq7) (v := ?vq7) ?hq7 (by kernel_rfl) (by kernel_rfl) (by kernel_rfl) (fun _ _ _ h => h) ?wq7 (fun K wq hS hK => ?yq7) ?rq7
      case hq7 => simp only [List.getElem?_toArray, List.getElem?_cons_succ, List.getElem?_cons_zero]; rfl
      case wq7 => rfl
      case yq7 =>
        have HS := Lib.hid hS
        clear hS
        go_simp
        refine (HK1.out _ HS.out 1 0 (tot * 3)).mono ?_
        rintro e w8 ⟨rfl, C8⟩
        have hS2 := HS.out.trans C8
        rw [HST1.out]
        exact hK.out _ hS2
      try simp only [Act.put, List.setIfInBounds_toArray, List.set_cons_zero, List.set_cons_succ]
      refine seq_op 8 (oi := ?oq8) (v := ?vq8) ?hq8 (by kernel_rfl) (by kernel_rfl) (by kernel_rfl) (fun _ _ _ h => h) ?wq8 (fun K wq hS hK => ?yq8) ?rq8
      case hq8 => simp only [List.getElem?_toArray, List.getElem?_cons_succ, List.getElem?_cons_zero]; rfl
      case wq8 => rfl
      case yq8 =>
        have HS := Lib.hid hS
        try dsimp only at hS
        go_simp
        exact hK.out _ HS.out
      try simp only [Act.put, List.setIfInBounds_toArray, List.set_cons_zero, List.set_cons_succ]
      refine seq_op 9 (oi := ?oq9) (v := ?vq9) ?hq9 (by kernel_rfl) (by kernel_rfl) (by kernel_rfl) (fun _ _ _ h => h) ?wq9 (fun K wq hS hK => ?yq9) ?rq9
      case hq9 => simp only [List.getElem?_toArray, List.getElem?_cons_succ, List.getElem?_cons_zero]; rfl
      case wq9 => rfl
      case yq9 =>
        have HS := Lib.hid hS
        try dsimp only at hS
        go_simp
        exact hK.out _ HS.out
      try simp only [Act.put, List.setIfInBounds_toArray, List.set_cons_zero, List.set_cons_succ]
      refine seq_done (by kernel_rfl) (fun wz hSz => ?_) _
      refine NoPanic.normal ?_
      have B := HKB.out _ hSz
      have x0 := B.cell 0
      have x1 := B.cell 1
      have x2 := B.cell 2
      have x3 := B.cell 3
      have x4 := B.cell 4
      have x5 := B.cell 5
      clear B
      go_wp2_with fail
      refine (HK2.out _ hSz t).mono ?_
      rintro e w9 ⟨rfl, C9'⟩
      have C9 := hSz.trans C9'
      rw [HAV.out]
      clear x0 x1 x2 x3 x4 x5 C9'
      go_wp2_with fail
      refine wp_region_noPanic ?_
      refine seq_begin (fun w' => Chg wo w' (fun _ => False)) (by kernel_rfl) (C9.drew) ?_
      refine seq_op 0 (oi := ?or0) (v := ?vr0) ?hr0 (by kernel_rfl) (by kernel_rfl) (by kernel_rfl) (fun _ _ _ h => h) ?wr0 (fun K wq hS hK => ?yr0) ?rr0
      case hr0 => simp only [List.getElem?_toArray, List.getElem?_cons_succ, List.getElem?_cons_zero]; rfl
      case wr0 => rfl
      case yr0 =>
        have HS := Lib.hid hS
        try dsimp only at hS
        go_simp
        exact hK.out _ HS.out
      try simp only [Act.put, List.setIfInBounds_toArray, List.set_cons_zero, List.set_cons_succ]
      refine seq_op 1 (oi := ?or1) (v := ?vr1) ?hr1 (by kernel_rfl) (by kernel_rfl) (by kernel_rfl) (fun _ _ _ h => h) ?wr1 (fun K wq hS hK => ?yr1) ?rr1
      case hr1 => simp only [List.getElem?_toArray, List.getElem?_cons_succ, List.getElem?_cons_zero]; rfl
      case wr1 => rfl
      case yr1 =>
        have HS := Lib.hid hS
        try dsimp only at hS
        go_simp
        exact hK.out _ HS.out
      try simp only [Act.put, List.setIfInBounds_toArray, List.set_cons_zero, List.set_cons_succ]
      refine seq_op 2 (oi := ?or2) (v := ?vr2) ?hr2 (by kernel_rfl) (by kernel_rfl) (by kernel_rfl) (fun _ _ _ h => h) ?wr2 (fun K wq hS hK => ?yr2) ?rr2
      case hr2 => simp only [List.getElem?_toArray, List.getElem?_cons_succ, List.getElem?_cons_zero]; rfl
      case wr2 => rfl
      case yr2 =>
        have HS := Lib.hid hS
        try dsimp only at hS
        go_simp
        exact hK.out _ HS.out
      try simp only [Act.put, List.setIfInBounds_toArray, List.set_cons_zero, List.set_cons_succ]
      refine seq_op 3 (oi := ?or3) (v := ?vr3) ?hr3 (by kernel_rfl) (by kernel_rfl) (by kernel_rfl) (fun _ _ _ h => h) ?wr3 (fun K wq hS hK => ?yr3) ?rr3
      case hr3 => simp only [List.getElem?_toArray, List.getElem?_cons_succ, List.getElem?_cons_zero]; rfl
      case wr3 => rfl
      case yr3 =>
        have HS := Lib.hid hS
        try dsimp only at hS
        go_simp
        exact hK.out _ HS.out
      try simp only [Act.put, List.setIfInBounds_toArray, List.set_cons_zero, List.set_cons_succ]
      refine seq_op 4 (oi := ?or4) (v := ?vr4) ?hr4 (by kernel_rfl) (by kernel_rfl) (by kernel_rfl) (fun _ _ _ h => h) ?wr4 (fun K wq hS hK => ?yr4) ?rr4
      case hr4 => simp only [List.getElem?_toArray, List.getElem?_cons_succ, List.getElem?_cons_zero]; rfl
      case wr4 => rfl
      case yr4 =>
        have HS := Lib.hid hS
        try dsimp only at hS
        go_simp
        exact hK.out _ HS.out
      try simp only [Act.put, List.setIfInBounds_toArray, List.set_cons_zero, List.set_cons_succ]
      refine seq_op 5 (oi := ?or5) (v := ?vr5) ?hr5 (by kernel_rfl) (by kernel_rfl) (by kernel_rfl) (fun _ _ _ h => h) ?wr5 (fun K wq hS hK => ?yr5) ?rr5
      case hr5 => simp only [List.getElem?_toArray, List.getElem?_cons_succ, List.getElem?_cons_zero]; rfl
      case wr5 => rfl
      case yr5 =>
        have HS := Lib.hid hS
        try dsimp only at hS
        go_simp
        exact hK.out _ HS.out
      try simp only [Act.put, List.setIfInBounds_toArray, List.set_cons_zero, List.set_cons_succ]
      refine seq_op 6 (oi := ?or6) (v := ?vr6) ?hr6 (by kernel_rfl) (by kernel_rfl) (by kernel_rfl) (fun _ _ _ h => h) ?wr6 (fun K wq hS hK => ?yr6) ?rr6
      case hr6 => simp only [List.getElem?_toArray, List.getElem?_cons_succ, List.getElem?_cons_zero]; rfl
      case wr6 => rfl
      case yr6 =>
        have HS := Lib.hid hS
        try dsimp only at hS
        go_simp
        exact hK.out _ HS.out
      try simp only [Act.put, List.setIfInBounds_toArray, List.set_cons_zero, List.set_cons_succ]
      refine seq_op 7 (oi := ?or7) (v := ?vr7) ?hr7 (by kernel_rfl) (by kernel_rfl) (by kernel_rfl) (fun _ _ _ h => h) ?wr7 (fun K wq hS hK => ?yr7) ?rr7
      case hr7 => simp only [List.getElem?_toArray, List.getElem?_cons_succ, List.getElem?_cons_zero]; rfl
      case wr7 => rfl
      case yr7 =>
        have HS := Lib.hid hS
        try dsimp only at hS
        go_simp
        exact hK.out _ HS.out
      try simp only [Act.put, List.setIfInBounds_toArray, List.set_cons_zero, List.set_cons_succ]
      refine seq_op 8 (oi := ?or8) (v := ?vr8) ?hr8 (by kernel_rfl) (by kernel_rfl) (by kernel_rfl) (fun _ _ _ h => h) ?wr8 (fun K wq hS hK => ?yr8) ?rr8
      case hr8 => simp only [List.getElem?_toArray, List.getElem?_cons_succ, List.getElem?_cons_zero]; rfl
      case wr8 => rfl
      case yr8 =>
        have HS := Lib.hid hS
        try dsimp only at hS
        go_simp
        exact hK.out _ HS.out
      try simp only [Act.put, List.setIfInBounds_toArray, List.set_cons_zero, List.set_cons_succ]
      refine seq_op 9 (oi := ?or9) (v := ?vr9) ?hr9 (by kernel_rfl) (by kernel_rfl) (by kernel_rfl) (fun _ _ _ h => h) ?wr9 (fun K wq hS hK => ?yr9) ?rr9
      case hr9 => simp only [List.getElem?_toArray, List.getElem?_cons_succ, List.getElem?_cons_zero]; rfl
      case wr9 => rfl
      case yr9 =>
        have HS := Lib.hid hS
        try dsimp only at hS
        go_simp
        exact hK.out _ HS.out
      try simp only [Act.put, List.setIfInBounds_toArray, List.set_cons_zero, List.set_cons_succ]
      refine seq_op 10 (oi := ?or10) (v := ?vr10) ?hr10 (by kernel_rfl) (by kernel_rfl) (by kernel_rfl) (fun _ _ _ h => h) ?wr10 (fun K wq hS hK => ?yr10) ?rr10
      case hr10 => simp only [List.getElem?_toArray, List.getElem?_cons_succ, List.getElem?_cons_zero]; rfl
      case wr10 => rfl
      case yr10 =>
        have HS := Lib.hid hS
        try dsimp only at hS
        go_simp
        exact hK.out _ HS.out
      try simp only [Act.put, List.setIfInBounds_toArray, List.set_cons_zero, List.set_cons_succ]
      refine seq_op 11 (oi := ?or11) (v := ?vr11) ?hr11 (by kernel_rfl) (by kernel_rfl) (by kernel_rfl) (fun _ _ _ h => h) ?wr11 (fun K wq hS hK => ?yr11) ?rr11
      case hr11 => simp only [List.getElem?_toArray, List.getElem?_cons_succ, List.getElem?_cons_zero]; rfl
      case wr11 => rfl
      case yr11 =>
        have HS := Lib.hid hS
        try dsimp only at hS
        go_simp
        exact hK.out _ HS.out
      try simp only [Act.put, List.setIfInBounds_toArray, List.set_cons_zero, List.set_cons_succ]
      refine seq_op 12 (oi := ?or12) (v := ?vr12) ?hr12 (by kernel_rfl) (by kernel_rfl) (by kernel_rfl) (fun _ _ _ h => h) ?wr12 (fun K wq hS hK => ?yr12) ?rr12
      case hr12 => simp only [List.getElem?_toArray, List.getElem?_cons_succ, List.getElem?_cons_zero]; rfl
      case wr12 => rfl
      case yr12 =>
        have HS := Lib.hid hS
        try dsimp only at hS
        go_simp
        exact hK.out _ HS.out
      try simp only [Act.put, List.setIfInBounds_toArray, List.set_cons_zero, List.set_cons_succ]
      refine seq_op 13 (oi := ?or13) (v := ?vr13) ?hr13 (by kernel_rfl) (by kernel_rfl) (by kernel_rfl) (fun _ _ _ h => h) ?wr13 (fun K wq hS hK => ?yr13) ?rr13
      case hr13 => simp only [List.getElem?_toArray, List.getElem?_cons_succ, List.getElem?_cons_zero]; rfl
      case wr13 => rfl
      case yr13 =>
        have HS := Lib.hid hS
        try dsimp only at hS
        go_simp
        exact hK.out _ HS.out
      try simp only [Act.put, List.setIfInBounds_toArray, List.set_cons_zero, List.set_cons_succ]
      refine seq_op 14 (oi := ?or14) (v := ?vr14) ?hr14 (by kernel_rfl) (by kernel_rfl) (by kernel_rfl) (fun _ _ _ h => h) ?wr14 (fun K wq hS hK => ?yr14) ?rr14
      case hr14 => simp only [List.getElem?_toArray, List.getElem?_cons_succ, List.getElem?_cons_zero]; rfl
      case wr14 => rfl
      case yr14 =>
        have HS := Lib.hid hS
        try dsimp only at hS
        go_simp
        exact hK.out _ HS.out
      try simp only [Act.put, List.setIfInBounds_toArray, List.set_cons_zero, List.set_cons_succ]
      refine seq_op 15 (oi := ?or15) (v := ?vr15) ?hr15 (by kernel_rfl) (by kernel_rfl) (by kernel_rfl) (fun _ _ _ h => h) ?wr15 (fun K wq hS hK => ?yr15) ?rr15
      case hr15 => simp only [List.getElem?_toArray, List.getElem?_cons_succ, List.getElem?_cons_zero]; rfl
      case wr15 => rfl
      case yr15 =>
        have HS := Lib.hid hS
        try dsimp only at hS
        go_simp
        exact hK.out _ HS.out
      try simp only [Act.put, List.setIfInBounds_toArray, List.set_cons_zero, List.set_cons_succ]
      refine seq_op 16 (oi := ?or16) (v := ?vr16) ?hr16 (by kernel_rfl) (by kernel_rfl) (by kernel_rfl) (fun _ _ _ h => h) ?wr16 (fun K wq hS hK => ?yr16) ?rr16
      case hr16 => simp only [List.getElem?_toArray, List.getElem?_cons_succ, List.getElem?_cons_zero]; rfl
      case wr16 => rfl
      case yr16 =>
        have HS := Lib.hid hS
        try dsimp only at hS
        go_simp
        exact hK.out _ HS.out
      try simp only [Act.put, List.setIfInBounds_toArray, List.set_cons_zero, List.set_cons_succ]
      refine seq_op 17 (oi := ?or17) (v := ?vr17) ?hr17 (by kernel_rfl) (by kernel_rfl) (by kernel_rfl) (fun _ _ _ h => h) ?wr17 (fun K wq hS hK => ?yr17) ?rr17
      case hr17 => simp only [List.getElem?_toArray, List.getElem?_cons_succ, List.getElem?_cons_zero]; rfl
      case wr17 => rfl
      case yr17 =>
        have HS := Lib.hid hS
        try dsimp only at hS
        go_simp
        exact hK.out _ HS.out
      try simp only [Act.put, List.setIfInBounds_toArray, List.set_cons_zero, List.set_cons_succ]
      refine seq_op 18 (oi := ?or18) (v := ?vr18) ?hr18 (by kernel_rfl) (by kernel_rfl) (by kernel_rfl) (fun _ _ _ h => h) ?wr18 (fun K wq hS hK => ?yr18) ?rr18
      case hr18 => simp only [List.getElem?_toArray, List.getElem?_cons_succ, List.getElem?_cons_zero]; rfl
      case wr18 => rfl
      case yr18 =>
        have HS := Lib.hid hS
        have B := HKB.out _ hS
        have x0 := B.cell 0
        have x1 := B.cell 1
        have x2 := B.cell 2
        have x3 := B.cell 3
        have x4 := B.cell 4
        have x5 := B.cell 5
        clear hS B
        go_simp
        have hS2 := HS.out
        exact hK.out _ hS2
      try simp only [Act.put, List.setIfInBounds_toArray, List.set_cons_zero, List.set_cons_succ]
      refine seq_op 19 (oi := ?or19) (v := ?vr19) ?hr19 (by kernel_rfl) (by kernel_rfl) (by kernel_rfl) (fun _ _ _ h => h) ?wr19 (fun K wq hS hK => ?yr19) ?rr19
      case hr19 => simp only [List.getElem?_toArray, List.getElem?_cons_succ, List.getElem?_cons_zero]; rfl
      case wr19 => rfl
      case yr19 =>
        have HS := Lib.hid hS
        clear hS
        go_simp
        refine (HK3.out _ HS.out 0).mono ?_
        rintro e w8 ⟨rfl, C8⟩
        have hS2 := HS.out.trans C8
        rw [HSH0.out]
        exact hK.out _ hS2
      try simp only [Act.put, List.setIfInBounds_toArray, List.set_cons_zero, List.set_cons_succ]
      refine seq_op 20 (oi := ?or20) (v := ?vr20) ?hr20 (by kernel_rfl) (by kernel_rfl) (by kernel_rfl) (fun _ _ _ h => h) ?wr20 (fun K wq hS hK => ?yr20) ?rr20
      case hr20 => simp only [List.getElem?_toArray, List.getElem?_cons_succ, List.getElem?_cons_zero]; rfl
      case wr20 => rfl
      case yr20 =>
        have HS := Lib.hid hS
        have B := HKB.out _ hS
        have x0 := B.cell 0
        have x1 := B.cell 1
        have x2 := B.cell 2
        have x3 := B.cell 3
        have x4 := B.cell 4
        have x5 := B.cell 5
        clear hS B
        go_simp
        have hS2 := HS.out
        exact hK.out _ hS2
      try simp only [Act.put, List.setIfInBounds_toArray, List.set_cons_zero, List.set_cons_succ]
      refine seq_op 21 (oi := ?or21) (v := ?vr21) ?hr21 (by kernel_rfl) (by kernel_rfl) (by kernel_rfl) (fun _ _ _ h => h) ?wr21 (fun K wq hS hK => ?yr21) ?rr21
      case hr21 => simp only [List.getElem?_toArray, List.getElem?_cons_succ, List.getElem?_cons_zero]; rfl
      case wr21 => rfl
      case yr21 =>
        have HS := Lib.hid hS
        clear hS
        go_simp
        refine (HK3.out _ HS.out 1).mono ?_
        rintro e w8 ⟨rfl, C8⟩
        have hS2 := HS.out.trans C8
        rw [HSH1.out]
        exact hK.out _ hS2
      try simp only [Act.put, List.setIfInBounds_toArray, List.set_cons_zero, List.set_cons_succ]
      refine seq_op 22 (oi := ?or22) (v := ?vr22) ?hr22 (by kernel_rfl) (by kernel_rfl) (by kernel_rfl) (fun _ _ _ h => h) ?wr22 (fun K wq hS hK => ?yr22) ?rr22
      case hr22 => simp only [List.getElem?_toArray, List.getElem?_cons_succ, List.getElem?_cons_zero]; rfl
      case wr22 => rfl
      case yr22 =>
        have HS := Lib.hid hS
        try dsimp only at hS
        go_simp
        exact hK.out _ HS.out
      try simp only [Act.put, List.setIfInBounds_toArray, List.set_cons_zero, List.set_cons_succ]
      refine seq_op 23 (oi := ?or23) (v := ?vr23) ?hr23 (by kernel_rfl) (by kernel_rfl) (by kernel_rfl) (fun _ _ _ h => h) ?wr23 (fun K wq hS hK => ?yr23) ?rr23
      case hr23 => simp only [List.getElem?_toArray, List.getElem?_cons_succ, List.getElem?_cons_zero]; rfl
      case wr23 => rfl
      case yr23 =>
        have HS := Lib.hid hS
        try dsimp only at hS
        go_simp
        exact hK.out _ HS.out
      try simp only [Act.put, List.setIfInBounds_toArray, List.set_cons_zero, List.set_cons_succ]
      refine seq_op 24 (oi := ?or24) (v := ?vr24) ?hr24 (by kernel_rfl) (by kernel_rfl) (by kernel_rfl) (fun _ _ _ h => h) ?wr24 (fun K wq hS hK => ?yr24) ?rr24
      case hr24 => simp only [List.getElem?_toArray, List.getElem?_cons_succ, List.getElem?_cons_zero]; rfl
      case wr24 => rfl
      case yr24 =>
        have HS := Lib.hid hS
        try dsimp only at hS
        go_simp
        exact hK.out _ HS.out
      try simp only [Act.put, List.setIfInBounds_toArray, List.set_cons_zero, List.set_cons_succ]
      refine seq_op 25 (oi := ?or25) (v := ?vr25) ?hr25 (by kernel_rfl) (by kernel_rfl) (by kernel_rfl) (fun _ _ _ h => h) ?wr25 (fun K wq hS hK => ?yr25) ?rr25
      case hr25 => simp only [List.getElem?_toArray, List.getElem?_cons_succ, List.getElem?_cons_zero]; rfl
      case wr25 => rfl
      case yr25 =>
        have HS := Lib.hid hS
        try dsimp only at hS
        go_simp
        exact hK.out _ HS.out
      try simp only [Act.put, List.setIfInBounds_toArray, List.set_cons_zero, List.set_cons_succ]
      refine seq_op 26 (oi := ?or26) (v := ?vr26) ?hr26 (by kernel_rfl) (by kernel_rfl) (by kernel_rfl) (fun _ _ _ h => h) ?wr26 (fun K wq hS hK => ?yr26) ?rr26
      case hr26 => simp only [List.getElem?_toArray, List.getElem?_cons_succ, List.getElem?_cons_zero]; rfl
      case wr26 => rfl
      case yr26 =>
        have HS := Lib.hid hS
        try dsimp only at hS
        go_simp
        exact hK.out _ HS.out
      try simp only [Act.put, List.setIfInBounds_toArray, List.set_cons_zero, List.set_cons_succ]
      refine seq_op 27 (oi := ?or27) (v := ?vr27) ?hr27 (by kernel_rfl) (by kernel_rfl) (by kernel_rfl) (fun _ _ _ h => h) ?wr27 (fun K wq hS hK => ?yr27) ?rr27
      case hr27 => simp only [List.getElem?_toArray, List.getElem?_cons_succ, List.getElem?_cons_zero]; rfl
      case wr27 => rfl
      case yr27 =>
        have HS := Lib.hid hS
        try dsimp only at hS
        go_simp
        exact hK.out _ HS.out
      try simp only [Act.put, List.setIfInBounds_toArray, List.set_cons_zero, List.set_cons_succ]
      refine seq_op 28 (oi := ?or28) (v := ?vr28) ?hr28 (by kernel_rfl) (by kernel_rfl) (by kernel_rfl) (fun _ _ _ h => h) ?wr28 (fun K wq hS hK => ?yr28) ?rr28
      case hr28 => simp only [List.getElem?_toArray, List.getElem?_cons_succ, List.getElem?_cons_zero]; rfl
      case wr28 => rfl
      case yr28 =>
        have HS := Lib.hid hS
        try dsimp only at hS
        go_simp
        exact hK.out _ HS.out
      try simp only [Act.put, List.setIfInBounds_toArray, List.set_cons_zero, List.set_cons_succ]
      refine seq_op 29 (oi := ?or29) (v := ?vr29) ?hr29 (by kernel_rfl) (by kernel_rfl) (by kernel_rfl) (fun _ _ _ h => h) ?wr29 (fun K wq hS hK => ?yr29) ?rr29
      case hr29 => simp only [List.getElem?_toArray, List.getElem?_cons_succ, List.getElem?_cons_zero]; rfl
      case wr29 => rfl
      case yr29 =>
        have HS := Lib.hid hS
        try dsimp only at hS
        go_simp
        exact hK.out _ HS.out
      try simp only [Act.put, List.setIfInBounds_toArray, List.set_cons_zero, List.set_cons_succ]
      refine seq_op 30 (oi := ?or30) (v := ?vr30) ?hr30 (by kernel_rfl) (by kernel_rfl) (by kernel_rfl) (fun _ _ _ h => h) ?wr30 (fun K wq hS hK => ?yr30) ?rr30
      case hr30 => simp only [List.getElem?_toArray, List.getElem?_cons_succ, List.getElem?_cons_zero]; rfl
      case wr30 => rfl
      case yr30 =>
        have HS := Lib.hid hS
        try dsimp only at hS
        go_simp
        exact hK.out _ HS.out
      try simp only [Act.put, List.setIfInBounds_toArray, List.set_cons_zero, List.set_cons_succ]
      refine seq_op 31 (oi := ?or31) (v := ?vr31) ?hr31 (by kernel_rfl) (by kernel_rfl) (by kernel_rfl) (fun _ _ _ h => h) ?wr31 (fun K wq hS hK => ?yr31) ?rr31
      case hr31 => simp only [List.getElem?_toArray, List.getElem?_cons_succ, List.getElem?_cons_zero]; rfl
      case wr31 => rfl
      case yr31 =>
        have HS := Lib.hid hS
        try dsimp only at hS
        go_simp
        exact hK.out _ HS.out
      try simp only [Act.put, List.setIfInBounds_toArray, List.set_cons_zero, List.set_cons_succ]
      refine seq_done (by kernel_rfl) (fun wy hSy => ?_) _
      refine NoPanic.normal ?_
      go_wp2_with fail
      go_ret
      exact ⟨rfl, ((C1.trans CW).trans hSy).below_of (Nat.le_refl _) (fun _ h => h.elim)⟩

set_option maxRecDepth 100000 in
set_option maxHeartbeats 2000000 in
theorem full_out {l : List Int} {ao : Option Addr} {cap : Nat} (sw t : Int) (w : World) (hL : Lst w ao l.length cap (l.flatMap iCells) 1) (h : ¬ ((1 ≤ l.length ∧ l.length ≤ 32) ∧ (0 ≤ sw ∧ sw ≤ 100) ∧ 0 ≤ t ∧ t ≤ 1073741824)) :
    Calls Try.prog 6 #[.slice ao l.length cap, .int .i64 sw, .int .i64 t] w fun e w' => e = .returned (.bool true) ∧ Below w.heap.size w w' := by
  have hx1 := hL.le
  have hx2 := hL.mx
  unfold maxLen at hx2
  go_enter Try.func6, Try.ntmps6
  go_wp2_with fail
  refine (alive15 _).mono ?_
  rintro e w1 ⟨rfl, C1⟩
  go_upto_if 42 with fail
  all_goals first
    | (exfalso; omega)
    | (go_wp2_with fail
       go_ret
       exact ⟨rfl, C1.below_of (Nat.le_refl _) (fun _ h => h.elim)⟩)
set_option maxRecDepth 100000 in
theorem planFull_walk : LawWalk 6 Try.f6 := by
  intro H enc W base args ds p hval hA
  rw [Try.params6] at hA hval
  obtain ⟨v0, v1, v2, d0, d1, d2, p0, p1, p2, rfl, rfl, rfl, h0, h1, h2⟩ := trodAll_three hA
  obtain ⟨ao, cap, l, rfl, hL, _⟩ := open_ints (hval 0 41 v0 rfl rfl) h0
  obtain ⟨a1, rfl, rfl, rfl, w1⟩ := open_int Try.underlying3 (hval 1 3 v1 rfl rfl) h1
  obtain ⟨a2, rfl, rfl, rfl, w2⟩ := open_int Try.underlying3 (hval 2 3 v2 rfl rfl) h2
  by_cases h : (1 ≤ l.length ∧ l.length ≤ 32) ∧ (0 ≤ a1 ∧ a1 ≤ 100) ∧ 0 ≤ a2 ∧ a2 ≤ 1073741824
  · exact full_in a1 a2 W hL h.1 h.2.1 h.2.2
  · exact full_out a1 a2 W hL h

set_option maxRecDepth 100000 in
theorem planFull_lifted (os : Os) (started : os.Started) (H : Type) (enc : TypeId × Value → H) :
    ReturnsInHanded {} Try.checked os 6 .any (Rows.planFullSpec.pre6 enc Try.prog Try.f6 Rows.planFullRow.domain false) (Rows.planFullSpec.post enc Try.prog Try.f6 false true false false) :=
  law_lifted (s := Rows.planFullSpec) Try.func6 (by kernel_rfl) rfl (by kernel_rfl) (by kernel_rfl)
    (fun H ds h => by
      match ds, h with
      | [d0, d1, d2], _ => rfl)
    planFull_walk os started H enc
    (ChangeSpec.witness6 (enc := enc) (C := Try.checked) false ⟨#[], #[.slice none 0 0, .int .i64 0, .int .i64 0], []⟩ 8 (by kernel_rfl) (by kernel_rfl) (by kernel_rfl) (by kernel_rfl))

set_option maxRecDepth 100000 in
/-- THE STATEMENT. -/
theorem planFull_holds : Rows.PlanFullSaid :=
  OpenClaim.holds_of_wide 6 Try.f6 rfl rfl rfl rfl rfl rfl rfl ⟨rfl, rfl, rfl, rfl, rfl⟩ rfl rfl rfl rfl rfl (by kernel_rfl) Try.func6 (by kernel_rfl)
    (of_decide_eq_true (by kernel_rfl)) (by unfold Func.isWrapper; first | (rw [if_pos (by decide +kernel)]; kernel_rfl) | (rw [if_neg (by decide +kernel)]; exact ⟨rfl, rfl⟩))
    (fun os started H enc _ => planFull_lifted os started H enc)
#print axioms planFull_holds
end Go.Proofs.Ytmbdimcjpdofoaa

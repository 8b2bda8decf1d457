/- ConfigMany: the lists that it makes. -/
import Derived.Test.YtdhkbephofnfdaaManyLaw
import Derived.Test.YtdhkbephofnfdaaOwn
import Derived.Test.YtdhkbephofnfdaaChkAt
import Derived.Deep.DeepCutAuto
import Derived.Deep.CutBlock
namespace Go.Proofs.Ytdhkbephofnfdaa
open Go.RowKit

/-- 'hexs[k : k+1]' at once. -/
theorem hex_cut (k : Nat) (h : k < 16) (wx : World) : (Instr.slice 9 (.string { data := #[48, 49, 50, 51, 52, 53, 54, 55, 56, 57, 97, 98, 99, 100, 101, 102] }) (some (.int .i64 k)) (some (.int .i64 ((k : Int) + 1))) none).run Try.prog wx = .ok (.string (hexs.extract k (k + 1))) wx := by
  have := run_slice_string (P := Try.prog) wx 9 hexs .i64 .i64 k ((k : Int) + 1) Try.underlying9 (by omega) (by omega) (by rw [show hexs.size = 16 from rfl]; omega)
  rw [show ((k : Int)).toNat = k by omega, show ((k : Int) + 1).toNat = k + 1 by omega] at this
  exact this
theorem many_at {w : World} {base : Nat} {pages each : Int} {k j q cp cc cw : Nat} {ap ac aw : Option Addr} (h1 : w.ownsRow base 30 3 (.slice ap k cp) k ((pList each k).flatMap partCells)) (h2 : w.ownsRow base 32 5 (.slice ac j cc) j ((cList j).flatMap chanCells)) (h3 : w.ownsRow base 34 3 (.slice aw q cw) q ((wList q).flatMap winCells)) :
    CfgAt w (manyC pages each k j q) ap ac aw cp cc cw := by
  refine ⟨?_, ?_, ?_, ?_⟩
  · show Lst w ap (pList each k).length cp _ 3
    rw [pList_length]
    exact own_lst h1
  · show Lst w ac (cList j).length cc _ 5
    rw [cList_length]
    exact own_lst h2
  · show Lst w aw (wList q).length cw _ 3
    rw [wList_length]
    exact own_lst h3
  · intro p hp
    obtain ⟨i, _, rfl⟩ := List.mem_map.1 (show p ∈ (List.range k).map _ from hp)
    show (pName i).size ≤ maxLen
    unfold pName maxLen
    rw [ByteArray.size_append, ByteArray.size_extract, show hexs.size = 16 from rfl]
    show 1 + _ ≤ _
    omega

def wantV (pages each : Int) (k j q : Nat) : Int := if pages < 5 ∨ 256 < pages then 11 else if k < 1 ∨ 8 < k then 10 else if pages - 4 < (k : Int) * each then 11 else if 16 < j ∨ (0 < j ∧ k < 2) then 13 else if q < 1 ∨ 32 < q then 12 else 0

set_option maxRecDepth 100000 in
set_option maxHeartbeats 8000000 in
theorem many_in (p c n : Nat) (pages each : Int) (hp : p ≤ 12) (hc : c ≤ 20) (hn : n ≤ 40) (hpg : 0 ≤ pages ∧ pages ≤ 300) (he : 1 ≤ each ∧ each ≤ 64) (w : World) :
    Calls Try.prog 4 #[.int .i64 p, .int .i64 c, .int .i64 n, .int .i64 pages, .int .i64 each] w fun e w' => e = .returned (.bool true) ∧ Below w.heap.size w w' := by
  have q0 : decide ((p : Int) < 0) = false := decide_eq_false (by omega)
  have q1 : decide ((12 : Int) < p) = false := decide_eq_false (by omega)
  have q2 : decide ((c : Int) < 0) = false := decide_eq_false (by omega)
  have q3 : decide ((20 : Int) < c) = false := decide_eq_false (by omega)
  have q4 : decide ((n : Int) < 0) = false := decide_eq_false (by omega)
  have q5 : decide ((40 : Int) < n) = false := decide_eq_false (by omega)
  have q6 : decide (pages < 0) = false := decide_eq_false (by omega)
  have q7 : decide (300 < pages) = false := decide_eq_false (by omega)
  have q8 : decide (each < 1) = false := decide_eq_false (by omega)
  have q9 : decide (64 < each) = false := decide_eq_false (by omega)
  obtain ⟨i0, hi, hz0, hz1, hz2⟩ := info_parts info_part
  go_enter Try.func4, Try.ntmps4
  go_wp2_with fail
  refine (alive_any _).mono ?_
  rintro e w1 ⟨rfl, C1⟩
  go_wp2_with fail
  clear q0 q1 q2 q3 q4 q5 q6 q7 q8 q9
  go_loopw [13] (fun i wr => ∃ (k : Nat) (v : Value), k ≤ p ∧ i = .int .i64 k ∧ Chg w1 wr (fun _ => False) ∧ Box wr w1.heap.size 27 #[.int .i64 pages, .int .i64 1000, .int .i64 0, v, .slice none 0 0, .slice none 0 0] ∧ wr.ownsRow w1.heap.size 30 3 v k ((pList each k).flatMap partCells)) (fun i _ => p - (intOf i).toNat)
  case atStart => exact ⟨0, _, by omega, rfl, (Chg.refl _ _).alloc _, Box.new _ _ _, ⟨rfl, .inl ⟨rfl, rfl⟩⟩⟩
  case round =>
    obtain ⟨k, v, hk, rfl, Ck, Bk, Ok⟩ := hrel
    by_cases hlt : k < p
    · have hi0 : (0 : Int) ≤ (k : Int) := by omega
      have hw1 : IntKind.i64.wrap ((k : Int) + 1) = (k : Int) + 1 := IntWalk.i64_in _ (by omega)
      have hb0 : (0 : Int) ≤ (k : Int) + 1 := by omega
      have hb1 : (k : Int) + 1 ≤ 16 := by omega
      have hb2 : (k : Int) ≤ (k : Int) + 1 := by omega
      have hcut := hex_cut k (by omega)
      have HP : Hid (pName k = { data := #[112] } ++ hexs.extract k (k + 1)) := rfl
      have hx1 : (hexs.extract k (k + 1)).size = 1 := by rw [ByteArray.size_extract, show hexs.size = 16 from rfl]; omega
      obtain ⟨x, hx⟩ : ∃ x, hexs.extract k (k + 1) = x := ⟨_, rfl⟩
      rw [hx] at hcut HP hx1
      clear hx
      obtain ⟨y, hy⟩ : ∃ y, pName k = y := ⟨_, rfl⟩
      have hsum : ∀ wx : World, (Op.stringOp .add { data := #[112] } x).run Try.prog wx = .ok (.string y) wx := fun wx => by rw [run_string_add_sum _ _ _ (by rw [hx1]; show 1 + 1 ≤ _; omega), ← hy, HP.out]
      have c3 : wr.cell? ⟨w1.heap.size, 3, none⟩ = some v := Bk.cell 3
      have f3 : wr.frozen? ⟨w1.heap.size, 3, none⟩ = false := Bk.frozen 3
      have hz := Bk.lt
      have hne := own_ne Ok Bk (by decide)
      obtain ⟨ao, cap, rfl, hf1, hf2, hf3, hf4⟩ := own_form Ok
      go_wp2_with fail
      go_region_law ((refine step_append_lies _ (by rfl) _ _ _ (by rfl) w1.heap.size 30 i0 _ 3 32 Try.underlying23 hi hz0 hz1 hz2 rfl (by omega) (.slice ao k cap) k _ (by rfl) (own_drew (own_alloc Ok _)) ⟨wr.heap.size, 0, none⟩ 1 1 [.string y, .int .i64 each, .int .i64 0] (by rfl) (by rfl) (World.news_of_block (cs := #[.string y, .int .i64 each, .int .i64 0]) (t := 30) (fr := (0, 0)) (heap_alloc_new wr _)) (by simp [Value.oneCell']) (by omega) (by unfold maxLen; omega) (by omega) (by simp; omega) (wr.heap.size + 1) (by simp) ?_; intro gg cap2 w2 hown1 hgrow hat hlt2; have M2 := box_grown (Bk.alloc _) hgrow (fun e => hne _ e.symm rfl); have m3 := M2.cell 3; have fz3 := M2.frozen 3; have hz2 := M2.lt))
      go_wp2_with fail
      all_goals
        go_roundw
        case rel =>
          refine ⟨k + 1, _, by omega, by go_num, ((((Ck.alloc _).drew.grown hgrow (fun j hj hlj => (Nat.not_lt.2 (Ok.lt j hj).1 hlj).elim)).setCell (fun hlj => (Nat.lt_irrefl _ hlj).elim) _)), M2.set 3 _, ?_⟩
          rw [show (pList each (k + 1)).flatMap partCells = (pList each k).flatMap partCells ++ [.string y, .int .i64 each, .int .i64 0] by unfold pList; rw [List.range_succ, List.map_append, List.flatMap_append, ← hy]; rfl]
          exact own_chg hown1 ((Chg.refl w2 (fun j => j = w1.heap.size)).setCell (fun _ => rfl) _) (own_ne hown1 M2 (by decide))
        case measure => simp [intOf]; omega
    · have h1 : k = p := by omega
      subst h1
      go_wp2_with fail
      obtain ⟨ao, cap, rfl, _⟩ := own_form Ok
      obtain ⟨wo, hwo⟩ : ∃ wo, wo = wr := ⟨_, rfl⟩
      subst hwo
      obtain ⟨i2, hi2, hy0, hy1, hy2⟩ := info_parts info_chan
      go_loopw [14] (fun i wr => ∃ (j : Nat) (v : Value), j ≤ c ∧ i = .int .i64 j ∧ Chg w1 wr (fun _ => False) ∧ Box wr w1.heap.size 27 #[.int .i64 pages, .int .i64 1000, .int .i64 0, .slice ao k cap, v, .slice none 0 0] ∧ wr.ownsRow w1.heap.size 30 3 (.slice ao k cap) k ((pList each k).flatMap partCells) ∧ wr.ownsRow w1.heap.size 32 5 v j ((cList j).flatMap chanCells)) (fun i _ => c - (intOf i).toNat)
      case atStart => exact ⟨0, _, by omega, rfl, Ck, Bk, Ok, ⟨rfl, .inl ⟨rfl, rfl⟩⟩⟩
      case round =>
        obtain ⟨j, v, hj, rfl, Cj, Bj, Oj, O2⟩ := hrel
        by_cases hlt : j < c
        · have c4 : wr.cell? ⟨w1.heap.size, 4, none⟩ = some v := Bj.cell 4
          have f4 : wr.frozen? ⟨w1.heap.size, 4, none⟩ = false := Bj.frozen 4
          have hz := Bj.lt
          have hne := own_ne O2 Bj (by decide)
          obtain ⟨ao2, cap2, rfl, hf1, hf2, hf3, hf4⟩ := own_form O2
          go_wp2_with (at_builtin; go_loud (refine wpList_append_lies _ rfl (.tmp 86) (.tmp 88) _ (by rfl) w1.heap.size 32 i2 _ 5 40 Try.underlying24 hi2 hy0 hy1 hy2 rfl (by omega) (.slice ao2 j cap2) j _ (by rfl) (own_alloc O2 _) ⟨wr.heap.size, 0, none⟩ 1 1 [.int .i64 0, .int .i64 0, .int .i64 1, .int .i64 1, .int .i64 1] (by rfl) (by rfl) (World.news_of_block (cs := #[.int .i64 0, .int .i64 0, .int .i64 1, .int .i64 1, .int .i64 1]) (t := 32) (fr := (0, 0)) (heap_alloc_new wr _)) (by simp [Value.oneCell']) (by omega) (by unfold maxLen; omega) (by omega) (by simp; omega) (wr.heap.size + 1) (by simp) ?_; intro gg cap3 w2 hown1 hgrow hat hlt2; have M2 := box_grow (Bj.alloc _) hgrow (fun e => hne _ e.symm rfl); have m4 : w2.cell? ⟨w1.heap.size, 4, none⟩ = some (.slice ao2 j cap2) := M2.cell 4; have fz4 := M2.frozen 4; have hz2 := M2.lt))
          go_roundw
          case rel =>
            have OP := own_chg (own_alloc Oj _) (Chg.of_grown (P := fun b => (Value.slice ao2 j cap2).ownBlock = some b) hgrow (fun b hb _ => hb)) (fun b hb hc => own_own_ne Oj O2 (by decide) b hb hc)
            refine ⟨j + 1, _, by omega, by go_num, ((((Cj.alloc _).grown hgrow (fun b hb hlb => (Nat.not_lt.2 (O2.lt b hb).1 hlb).elim)).setCell (fun hlb => (Nat.lt_irrefl _ hlb).elim) _)), M2.set 4 _, ?_, ?_⟩
            · exact own_chg OP ((Chg.refl w2 (fun b => b = w1.heap.size)).setCell (fun _ => rfl) _) (own_ne OP M2 (by decide))
            · rw [show (cList (j + 1)).flatMap chanCells = (cList j).flatMap chanCells ++ [.int .i64 0, .int .i64 0, .int .i64 1, .int .i64 1, .int .i64 1] by unfold cList; rw [List.range_succ, List.map_append, List.flatMap_append]; rfl]
              exact own_chg hown1 ((Chg.refl w2 (fun b => b = w1.heap.size)).setCell (fun _ => rfl) _) (own_ne hown1 M2 (by decide))
          case measure => simp [intOf]; omega
        · have h1 : j = c := by omega
          subst h1
          go_wp2_with fail
          obtain ⟨ao2, cap2, rfl, _⟩ := own_form O2
          obtain ⟨i3, hi3, hx0, hx1, hx2⟩ := info_parts info_win
          go_loopw [15] (fun i wr => ∃ (q : Nat) (v : Value), q ≤ n ∧ i = .int .i64 q ∧ Chg w1 wr (fun _ => False) ∧ Box wr w1.heap.size 27 #[.int .i64 pages, .int .i64 1000, .int .i64 0, .slice ao k cap, .slice ao2 j cap2, v] ∧ wr.ownsRow w1.heap.size 30 3 (.slice ao k cap) k ((pList each k).flatMap partCells) ∧ wr.ownsRow w1.heap.size 32 5 (.slice ao2 j cap2) j ((cList j).flatMap chanCells) ∧ wr.ownsRow w1.heap.size 34 3 v q ((wList q).flatMap winCells)) (fun i _ => n - (intOf i).toNat)
          case atStart => exact ⟨0, _, by omega, rfl, Cj, Bj, Oj, O2, ⟨rfl, .inl ⟨rfl, rfl⟩⟩⟩
          case round =>
            obtain ⟨q, v, hq, rfl, Cq, Bq, Oq, O2q, O3⟩ := hrel
            by_cases hlt : q < n
            · have c5 : wr.cell? ⟨w1.heap.size, 5, none⟩ = some v := Bq.cell 5
              have f5 : wr.frozen? ⟨w1.heap.size, 5, none⟩ = false := Bq.frozen 5
              have hz := Bq.lt
              have hne := own_ne O3 Bq (by decide)
              have hw1 : IntKind.i64.wrap (10 * (q : Int)) = 10 * (q : Int) := IntWalk.i64_in _ (by omega)
              obtain ⟨ao3, cap3, rfl, hf1, hf2, hf3, hf4⟩ := own_form O3
              go_wp2_with (at_builtin; refine wpList_append_lies _ rfl (.tmp 97) (.tmp 101) _ (by rfl) w1.heap.size 34 i3 _ 3 24 Try.underlying25 hi3 hx0 hx1 hx2 rfl (by omega) (.slice ao3 q cap3) q _ (by rfl) (own_alloc O3 _) ⟨wr.heap.size, 0, none⟩ 1 1 [.int .i64 (10 * (q : Int)), .int .i64 10, .int .i64 0] (by rfl) (by rfl) (World.news_of_block (cs := #[.int .i64 (10 * (q : Int)), .int .i64 10, .int .i64 0]) (t := 34) (fr := (0, 0)) (heap_alloc_new wr _)) (by simp [Value.oneCell']) (by omega) (by unfold maxLen; omega) (by omega) (by simp; omega) (wr.heap.size + 1) (by simp) ?_; intro gg cap4 w2 hown1 hgrow hat hlt2; have M2 := box_grow (Bq.alloc _) hgrow (fun e => hne _ e.symm rfl); have m5 : w2.cell? ⟨w1.heap.size, 5, none⟩ = some (.slice ao3 q cap3) := M2.cell 5; have fz5 := M2.frozen 5; have hz2 := M2.lt)
              go_roundw
              case rel =>
                have OP := own_chg (own_alloc Oq _) (Chg.of_grown (P := fun b => (Value.slice ao3 q cap3).ownBlock = some b) hgrow (fun b hb _ => hb)) (fun b hb hc => own_own_ne Oq O3 (by decide) b hb hc)
                have OC := own_chg (own_alloc O2q _) (Chg.of_grown (P := fun b => (Value.slice ao3 q cap3).ownBlock = some b) hgrow (fun b hb _ => hb)) (fun b hb hc => own_own_ne O2q O3 (by decide) b hb hc)
                refine ⟨q + 1, _, by omega, by go_num, ((((Cq.alloc _).grown hgrow (fun b hb hlb => (Nat.not_lt.2 (O3.lt b hb).1 hlb).elim)).setCell (fun hlb => (Nat.lt_irrefl _ hlb).elim) _)), M2.set 5 _, ?_, ?_, ?_⟩
                · exact own_chg OP ((Chg.refl w2 (fun b => b = w1.heap.size)).setCell (fun _ => rfl) _) (own_ne OP M2 (by decide))
                · exact own_chg OC ((Chg.refl w2 (fun b => b = w1.heap.size)).setCell (fun _ => rfl) _) (own_ne OC M2 (by decide))
                · rw [show (wList (q + 1)).flatMap winCells = (wList q).flatMap winCells ++ [.int .i64 (10 * (q : Int)), .int .i64 10, .int .i64 0] by unfold wList; rw [List.range_succ, List.map_append, List.flatMap_append]; rfl]
                  exact own_chg hown1 ((Chg.refl w2 (fun b => b = w1.heap.size)).setCell (fun _ => rfl) _) (own_ne hown1 M2 (by decide))
              case measure => simp [intOf]; omega
            · have h1 : q = n := by omega
              subst h1
              obtain ⟨ao3, cap3, rfl, _⟩ := own_form O3
              have HC : CfgAt wr (manyC pages each k j q) ao ao2 ao3 cap cap2 cap3 := many_at Oq O2q O3
              have HK := Lib.hid (many_chk pages each k j q he hn)
              have HKV : Hid (chk (manyC pages each k j q) = wantV pages each k j q) := by show _ = _; rw [HK.out]; rfl
              have z1 : (k : Int) * each ≤ 12 * 64 := Int.mul_le_mul (by omega) (by omega) (by omega) (by omega)
              have z2 : 0 ≤ (k : Int) * each := Int.mul_nonneg (by omega) (by omega)
              have y1 : IntKind.i64.wrap ((k : Int) * each) = (k : Int) * each := IntWalk.i64_in _ (by omega)
              have y2 : IntKind.i64.wrap (pages - 4) = pages - 4 := IntWalk.i64_in _ (by omega)
              clear z1 z2
              go_upto_block 6 with fail
              go_cut [16] (fun s wx => s = .int .i64 (wantV pages each k j q) ∧ wx = wr)
              case first =>
                by_cases t1 : pages < 5
                · have gt1 : decide (pages < 5) = true := decide_eq_true t1
                  have HL : Hid (wantV pages each k j q = 11) := by show _ = _; unfold wantV; (repeat' split) <;> first | rfl | (exfalso; omega)
                  go_wp2_with fail
                  go_meet
                  exact ⟨by rw [HL.out], rfl⟩
                have gt1 : decide (pages < 5) = false := decide_eq_false t1
                by_cases t2 : 256 < pages
                · have gt2 : decide (256 < pages) = true := decide_eq_true t2
                  have HL : Hid (wantV pages each k j q = 11) := by show _ = _; unfold wantV; (repeat' split) <;> first | rfl | (exfalso; omega)
                  go_wp2_with fail
                  go_meet
                  exact ⟨by rw [HL.out], rfl⟩
                have gt2 : decide (256 < pages) = false := decide_eq_false t2
                by_cases t3 : (k : Int) < 1
                · have gt3 : decide ((k : Int) < 1) = true := decide_eq_true t3
                  have HL : Hid (wantV pages each k j q = 10) := by show _ = _; unfold wantV; (repeat' split) <;> first | rfl | (exfalso; omega)
                  go_wp2_with fail
                  go_meet
                  exact ⟨by rw [HL.out], rfl⟩
                have gt3 : decide ((k : Int) < 1) = false := decide_eq_false t3
                by_cases t4 : 8 < (k : Int)
                · have gt4 : decide (8 < (k : Int)) = true := decide_eq_true t4
                  have HL : Hid (wantV pages each k j q = 10) := by show _ = _; unfold wantV; (repeat' split) <;> first | rfl | (exfalso; omega)
                  go_wp2_with fail
                  go_meet
                  exact ⟨by rw [HL.out], rfl⟩
                have gt4 : decide (8 < (k : Int)) = false := decide_eq_false t4
                by_cases t5 : pages - 4 < (k : Int) * each
                · have gt5 : decide (pages - 4 < (k : Int) * each) = true := decide_eq_true t5
                  have HL : Hid (wantV pages each k j q = 11) := by show _ = _; unfold wantV; (repeat' split) <;> first | rfl | (exfalso; omega)
                  go_wp2_with fail
                  go_meet
                  exact ⟨by rw [HL.out], rfl⟩
                have gt5 : decide (pages - 4 < (k : Int) * each) = false := decide_eq_false t5
                by_cases t6 : 16 < (j : Int)
                · have gt6 : decide (16 < (j : Int)) = true := decide_eq_true t6
                  have HL : Hid (wantV pages each k j q = 13) := by show _ = _; unfold wantV; (repeat' split) <;> first | rfl | (exfalso; omega)
                  go_wp2_with fail
                  go_meet
                  exact ⟨by rw [HL.out], rfl⟩
                have gt6 : decide (16 < (j : Int)) = false := decide_eq_false t6
                by_cases t6a : 0 < (j : Int)
                · have gt6a : decide (0 < (j : Int)) = true := decide_eq_true t6a
                  by_cases t7 : (k : Int) < 2
                  · have gt7 : decide ((k : Int) < 2) = true := decide_eq_true t7
                    have HL : Hid (wantV pages each k j q = 13) := by show _ = _; unfold wantV; (repeat' split) <;> first | rfl | (exfalso; omega)
                    go_wp2_with fail
                    go_meet
                    exact ⟨by rw [HL.out], rfl⟩
                  have gt7 : decide ((k : Int) < 2) = false := decide_eq_false t7
                  by_cases t8 : (q : Int) < 1
                  · have gt8 : decide ((q : Int) < 1) = true := decide_eq_true t8
                    have HL : Hid (wantV pages each k j q = 12) := by show _ = _; unfold wantV; (repeat' split) <;> first | rfl | (exfalso; omega)
                    go_wp2_with fail
                    go_meet
                    exact ⟨by rw [HL.out], rfl⟩
                  have gt8 : decide ((q : Int) < 1) = false := decide_eq_false t8
                  by_cases t9 : 32 < (q : Int)
                  · have gt9 : decide (32 < (q : Int)) = true := decide_eq_true t9
                    have HL : Hid (wantV pages each k j q = 12) := by show _ = _; unfold wantV; (repeat' split) <;> first | rfl | (exfalso; omega)
                    go_wp2_with fail
                    go_meet
                    exact ⟨by rw [HL.out], rfl⟩
                  have gt9 : decide (32 < (q : Int)) = false := decide_eq_false t9
                  have HL : Hid (wantV pages each k j q = 0) := by show _ = _; unfold wantV; (repeat' split) <;> first | rfl | (exfalso; omega)
                  go_wp2_with fail
                  go_meet
                  exact ⟨by rw [HL.out], rfl⟩
                have gt6a : decide (0 < (j : Int)) = false := decide_eq_false t6a
                by_cases t8 : (q : Int) < 1
                · have gt8 : decide ((q : Int) < 1) = true := decide_eq_true t8
                  have HL : Hid (wantV pages each k j q = 12) := by show _ = _; unfold wantV; (repeat' split) <;> first | rfl | (exfalso; omega)
                  go_wp2_with fail
                  go_meet
                  exact ⟨by rw [HL.out], rfl⟩
                have gt8 : decide ((q : Int) < 1) = false := decide_eq_false t8
                by_cases t9 : 32 < (q : Int)
                · have gt9 : decide (32 < (q : Int)) = true := decide_eq_true t9
                  have HL : Hid (wantV pages each k j q = 12) := by show _ = _; unfold wantV; (repeat' split) <;> first | rfl | (exfalso; omega)
                  go_wp2_with fail
                  go_meet
                  exact ⟨by rw [HL.out], rfl⟩
                have gt9 : decide (32 < (q : Int)) = false := decide_eq_false t9
                have HL : Hid (wantV pages each k j q = 0) := by show _ = _; unfold wantV; (repeat' split) <;> first | rfl | (exfalso; omega)
                go_wp2_with fail
                go_meet
                exact ⟨by rw [HL.out], rfl⟩
              case rest =>
                obtain ⟨rfl, rfl⟩ := hcut
                have e0 : wc.cell? ⟨w1.heap.size, 0, none⟩ = some (.int .i64 pages) := Bq.cell 0
                have e1 : wc.cell? ⟨w1.heap.size, 1, none⟩ = some (.int .i64 1000) := Bq.cell 1
                have e2 : wc.cell? ⟨w1.heap.size, 2, none⟩ = some (.int .i64 0) := Bq.cell 2
                have e3 : wc.cell? ⟨w1.heap.size, 3, none⟩ = some (.slice ao k cap) := Bq.cell 3
                have e4 : wc.cell? ⟨w1.heap.size, 4, none⟩ = some (.slice ao2 j cap2) := Bq.cell 4
                have e5 : wc.cell? ⟨w1.heap.size, 5, none⟩ = some (.slice ao3 q cap3) := Bq.cell 5
                clear y1 y2
                have HLQ : Hid ((manyC pages each k j q).pages = pages ∧ (manyC pages each k j q).major = 1000 ∧ (manyC pages each k j q).switch = 0 ∧ (manyC pages each k j q).parts.length = k ∧ (manyC pages each k j q).chans.length = j ∧ (manyC pages each k j q).wins.length = q) := ⟨rfl, rfl, rfl, pList_length _ _, cList_length _, wList_length _⟩
                go_wp2_with fail
                with_reducible refine (check_at HC HKV.out HLQ.out.1 HLQ.out.2.1 HLQ.out.2.2.1 HLQ.out.2.2.2.1 HLQ.out.2.2.2.2.1 HLQ.out.2.2.2.2.2).mono ?_
                rintro e w9 ⟨rfl, C9⟩
                obtain ⟨wv, hwv⟩ : ∃ wv, wantV pages each k j q = wv := ⟨_, rfl⟩
                rw [hwv]
                clear hwv HKV HK
                go_wp2_with (go_at_call 16; refine (num_any _ _).mono ?_; rintro e w' ⟨rfl, rfl⟩)
                go_ret
                exact ⟨by simp, ((C1.trans Cq).trans C9).below_of (Nat.le_refl _) (fun _ h => h.elim)⟩

set_option maxRecDepth 100000 in
set_option maxHeartbeats 2000000 in
theorem many_out (p c n pages each : Int) (h : ¬ (0 ≤ p ∧ p ≤ 12 ∧ 0 ≤ c ∧ c ≤ 20 ∧ 0 ≤ n ∧ n ≤ 40 ∧ 0 ≤ pages ∧ pages ≤ 300 ∧ 1 ≤ each ∧ each ≤ 64)) (w : World) :
    Calls Try.prog 4 #[.int .i64 p, .int .i64 c, .int .i64 n, .int .i64 pages, .int .i64 each] w fun e w' => e = .returned (.bool true) ∧ Below w.heap.size w w' := by
  go_enter Try.func4, Try.ntmps4
  go_wp2_with fail
  refine (alive_any _).mono ?_
  rintro e w1 ⟨rfl, C1⟩
  go_upto_if 59 with fail
  all_goals first
    | (exfalso; omega)
    | (go_wp2_with fail
       go_ret
       exact ⟨rfl, C1.below_of (Nat.le_refl _) (fun _ h => h.elim)⟩)

theorem many_any (p c n pages each : Int) (w : World) :
    Calls Try.prog 4 #[.int .i64 p, .int .i64 c, .int .i64 n, .int .i64 pages, .int .i64 each] w fun e w' => e = .returned (.bool true) ∧ Below w.heap.size w w' := by
  by_cases h : 0 ≤ p ∧ p ≤ 12 ∧ 0 ≤ c ∧ c ≤ 20 ∧ 0 ≤ n ∧ n ≤ 40 ∧ 0 ≤ pages ∧ pages ≤ 300 ∧ 1 ≤ each ∧ each ≤ 64
  · obtain ⟨a, rfl⟩ := Int.eq_ofNat_of_zero_le h.1
    obtain ⟨b, rfl⟩ := Int.eq_ofNat_of_zero_le h.2.2.1
    obtain ⟨d, rfl⟩ := Int.eq_ofNat_of_zero_le h.2.2.2.2.1
    exact many_in a b d pages each (by omega) (by omega) (by omega) (by omega) (by omega) w
  · exact many_out p c n pages each h w
end Go.Proofs.Ytdhkbephofnfdaa

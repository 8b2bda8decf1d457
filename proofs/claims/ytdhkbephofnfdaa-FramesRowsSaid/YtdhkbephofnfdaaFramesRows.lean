/- FramesRows: that partitions lie one behind the other, the first behind the hypervisor, and how much is left. No condition. -/
import Derived.Test.YtdhkbephofnfdaaFramesQ
import Derived.Test.YtdhkbephofnfdaaAlive16
import Derived.Test.YtdhkbephofnfdaaSeq
import Derived.Test.YtdhkbephofnfdaaRow
namespace Go.Proofs.Ytdhkbephofnfdaa
open Go.RowKit Go.ChangeShapes Go.WideShapes Go.ChangeAt

set_option maxRecDepth 100000 in
set_option maxHeartbeats 8000000 in
theorem rows_in {l : List Int} {ao : Option Addr} {cap : Nat} (more : Int) (w : World) (hL : Lst w ao l.length cap (l.flatMap iCells) 1) (hl : 1 ≤ l.length ∧ l.length ≤ 8) (hm : 0 ≤ more ∧ more ≤ 20) :
    Calls Try.prog 8 #[.slice ao l.length cap, .int .i64 more] w fun e w' => e = .returned (.bool true) ∧ Below w.heap.size w w' := by
  obtain ⟨hl1, hl2⟩ := hl
  obtain ⟨hm1, hm2⟩ := hm
  obtain ⟨ab, aof, rfl⟩ := hL.pos hl1
  have q0 : decide ((l.length : Int) < 1) = false := decide_eq_false (by omega)
  have q1 : decide ((8 : Int) < (l.length : Int)) = false := decide_eq_false (by omega)
  have q2 : decide (more < 0) = false := decide_eq_false (by omega)
  have q3 : decide (20 < more) = false := decide_eq_false (by omega)
  obtain ⟨i0, hi, hz0, hz1, hz2⟩ := info_parts info_part
  go_enter Try.func8, Try.ntmps8
  go_wp2_with fail
  refine (alive16 _).mono ?_
  rintro e w1 ⟨rfl, C1⟩
  go_wp2_with fail
  clear q0 q1 q2 q3
  have hL1 := hL.chg C1 (fun _ _ h => h)
  have HKL := Lib.hid (fun w' (c : Chg w1 w' (fun _ => False)) => hL1.chg c (fun _ _ h => h))
  have BW0 := Box.new w1 34 #[.int .i64 0, .int .i64 10, .int .i64 0]
  have BC0 := Box.new (w1.alloc (.cells #[.int .i64 0, .int .i64 10, .int .i64 0] 34)) 27 #[.int .i64 (4 + more), .int .i64 10, .int .i64 0, .slice none 0 0, .slice none 0 0, .slice (some ⟨w1.heap.size, 0, none⟩) 1 1]
  rw [show (w1.alloc (.cells #[.int .i64 0, .int .i64 10, .int .i64 0] 34)).heap.size = w1.heap.size + 1 from by simp] at BC0
  go_loopw [7] (fun i wr => ∃ (k : Nat) (v : Value), k ≤ l.length ∧ i = .int .i64 k ∧ (∀ x ∈ l.take k, 1 ≤ x ∧ x ≤ 25) ∧ Chg w1 wr (fun _ => False) ∧ Box wr w1.heap.size 34 #[.int .i64 0, .int .i64 10, .int .i64 0] ∧ Box wr (w1.heap.size + 1) 27 #[.int .i64 (4 + more + (l.take k).sum), .int .i64 10, .int .i64 0, v, .slice none 0 0, .slice (some ⟨w1.heap.size, 0, none⟩) 1 1] ∧ wr.ownsRow w1.heap.size 30 3 v k ((fList l k).flatMap partCells)) (fun i _ => l.length - (intOf i).toNat)
  case atStart => exact ⟨0, .slice none 0 0, by omega, rfl, by simp, ((Chg.refl _ _).alloc _).alloc _, BW0.alloc _, by rw [List.take_zero, List.sum_nil, Int.add_zero]; exact BC0, ⟨rfl, .inl ⟨rfl, rfl⟩⟩⟩
  case round =>
    obtain ⟨k, v, hk, rfl, hall, Ck, BW, BC, Ok⟩ := hrel
    have hti := take_in (l := l.take k) hall k
    rw [List.take_take, Nat.min_self] at hti
    obtain ⟨ht1, ht2⟩ := hti
    by_cases hlt : k < l.length
    · have hLk := HKL.out _ Ck
      have cL : wr.cell? ⟨ab, aof + k, none⟩ = some (.int .i64 l[k]) := by
        have := Lst.cell0 (n := 1) (fun _ => rfl) hLk k (by decide) hlt rfl
        rwa [Nat.mul_one] at this
      have htk := List.take_succ_eq_append_getElem hlt
      have HSUM : Hid ((l.take (k + 1)).sum = (l.take k).sum + l[k]) := by show _ = _; rw [htk, List.sum_append]; simp
      have hgd : l.getD k 0 = l[k] := by rw [List.getD_eq_getElem?_getD, List.getElem?_eq_getElem hlt]; rfl
      have HALL : Hid ((1 ≤ l[k] ∧ l[k] ≤ 25) → ∀ x ∈ l.take (k + 1), 1 ≤ x ∧ x ≤ 25) := by
        show _ → _
        intro h x hx
        rw [htk, List.mem_append] at hx
        rcases hx with hx | hx
        · exact hall x hx
        · have : x = l[k] := by simpa using hx
          rw [this]; exact h
      have HFL : Hid ((fList l (k + 1)).flatMap partCells = (fList l k).flatMap partCells ++ [.string (aName k), .int .i64 l[k], .int .i64 0]) := by
        show _ = _
        unfold fList
        rw [List.range_succ, List.map_append, List.flatMap_append, ← hgd]
        rfl
      have hcut := abc_cut k (by omega)
      obtain ⟨y, hy⟩ : ∃ y, aName k = y := ⟨_, rfl⟩
      rw [hy] at hcut HFL
      obtain ⟨x, hx⟩ : ∃ x, l[k] = x := ⟨_, rfl⟩
      rw [hx] at cL HSUM HALL HFL
      obtain ⟨sm, hsm⟩ : ∃ sm, (l.take k).sum = sm := ⟨_, rfl⟩
      rw [hsm] at HSUM BC ht1 ht2
      have hk0 : (0 : Int) ≤ (k : Int) := by omega
      have hk1 : (k : Int) < (l.length : Int) := by omega
      have hw1 : IntKind.i64.wrap ((k : Int) + 1) = (k : Int) + 1 := IntWalk.i64_in _ (by omega)
      have hb0 : (0 : Int) ≤ (k : Int) + 1 := by omega
      have hb1 : (k : Int) + 1 ≤ 8 := by omega
      have hb2 : (k : Int) ≤ (k : Int) + 1 := by omega
      have ht3 : sm ≤ 200 := by omega
      clear hLk htk hgd hy hx hsm hall ht2
      by_cases g1 : x < 1
      · have d1 : decide (x < 1) = true := decide_eq_true g1
        clear g1
        go_wp2_with fail
        go_ret
        exact ⟨rfl, (C1.trans Ck).below_of (Nat.le_refl _) (fun _ h => h.elim)⟩
      have d1 : decide (x < 1) = false := decide_eq_false g1
      by_cases g2 : 25 < x
      · have d2 : decide (25 < x) = true := decide_eq_true g2
        clear g1 g2
        go_wp2_with fail
        go_ret
        exact ⟨rfl, (C1.trans Ck).below_of (Nat.le_refl _) (fun _ h => h.elim)⟩
      have d2 : decide (25 < x) = false := decide_eq_false g2
      have hx1 : 1 ≤ x := by omega
      have hx2 : x ≤ 25 := by omega
      clear g1 g2
      have e0 : wr.cell? ⟨w1.heap.size + 1, 0, none⟩ = some (.int .i64 (4 + more + sm)) := BC.cell 0
      have f0 : wr.frozen? ⟨w1.heap.size + 1, 0, none⟩ = false := BC.frozen 0
      have yw : IntKind.i64.wrap (4 + more + sm + x) = 4 + more + sm + x := IntWalk.i64_in _ (by omega)
      have hz := BC.lt
      go_upto_region 10 with fail
      go_cut [] (fun wx => wx = (wr.setCell ⟨w1.heap.size + 1, 0, none⟩ (.int .i64 (4 + more + sm + x))).drew)
      case first =>
        go_wp2_with fail
        go_region_law (fail)
        all_goals
          go_wp2_with fail
          go_meet
          rfl
      case rest =>
        subst hcut
        have hsz : (wr.setCell ⟨w1.heap.size + 1, 0, none⟩ (.int .i64 (4 + more + sm + x))).heap.size = wr.heap.size := by simp
        have C5 : Chg w1 (wr.setCell ⟨w1.heap.size + 1, 0, none⟩ (.int .i64 (4 + more + sm + x))).drew (fun _ => False) := (Ck.setCell (fun h => absurd h (by show ¬ w1.heap.size + 1 < w1.heap.size; omega)) _).drew
        have BW5 : Box (wr.setCell ⟨w1.heap.size + 1, 0, none⟩ (.int .i64 (4 + more + sm + x))).drew w1.heap.size 34 #[.int .i64 0, .int .i64 10, .int .i64 0] := (BW.far (by show w1.heap.size ≠ w1.heap.size + 1; omega) _).drew
        have BC5 : Box (wr.setCell ⟨w1.heap.size + 1, 0, none⟩ (.int .i64 (4 + more + sm + x))).drew (w1.heap.size + 1) 27 #[.int .i64 (4 + more + sm + x), .int .i64 10, .int .i64 0, v, .slice none 0 0, .slice (some ⟨w1.heap.size, 0, none⟩) 1 1] := (BC.set 0 _).drew
        have O5 : (wr.setCell ⟨w1.heap.size + 1, 0, none⟩ (.int .i64 (4 + more + sm + x))).drew.ownsRow w1.heap.size 30 3 v k ((fList l k).flatMap partCells) := own_drew (own_chg Ok ((Chg.refl wr (fun j => j = w1.heap.size + 1)).setCell (fun _ => rfl) _) (own_ne Ok BC (by decide)))
        have cL5 : (wr.setCell ⟨w1.heap.size + 1, 0, none⟩ (.int .i64 (4 + more + sm + x))).drew.cell? ⟨ab, aof + k, none⟩ = some (.int .i64 x) := (Chg.refl wr (fun j => j = w1.heap.size + 1)).setCell (fun _ => rfl) (.int .i64 (4 + more + sm + x)) |>.cell cL (fun h => by
          have h1 : ab < w1.heap.size := by
            have := World.block_lt_of_cell? _ _ (Lst.cell0 (n := 1) (fun _ => rfl) hL1 k (by decide) hlt rfl)
            exact this
          have h2 : ab = w1.heap.size + 1 := h
          omega)
        clear e0 f0 cL Ck BW BC Ok hz
        generalize (wr.setCell ⟨w1.heap.size + 1, 0, none⟩ (.int .i64 (4 + more + sm + x))).drew = w5 at *
        have c3 : w5.cell? ⟨w1.heap.size + 1, 3, none⟩ = some v := BC5.cell 3
        have f3 : w5.frozen? ⟨w1.heap.size + 1, 3, none⟩ = false := BC5.frozen 3
        have hz := BC5.lt
        have hne := own_ne O5 BC5 (by decide)
        obtain ⟨ao, cap5, rfl, hf1, hf2, hf3, hf4⟩ := own_form O5
        go_wp2_with fail
        go_region_law ((refine step_append_lies _ (by rfl) _ _ _ (by rfl) w1.heap.size 30 i0 _ 3 32 Try.underlying23 hi hz0 hz1 hz2 rfl (by omega) (.slice ao k cap5) k _ (by rfl) (own_drew (own_alloc O5 _)) ⟨w5.heap.size, 0, none⟩ 1 1 [.string y, .int .i64 x, .int .i64 0] (by rfl) (by rfl) (World.news_of_block (cs := #[.string y, .int .i64 x, .int .i64 0]) (t := 30) (fr := (0, 0)) (heap_alloc_new w5 _)) (by simp [Value.oneCell']) (by omega) (by unfold maxLen; omega) (by omega) (by simp; omega) (w5.heap.size + 1) (by simp) ?_; intro gg cap2 w2 hown1 hgrow hat hlt2; have M2 := box_grown (BC5.alloc _) hgrow (fun e => hne _ e.symm rfl); have N2 := box_grown (BW5.alloc _) hgrow (fun e => own_ne O5 BW5 (by decide) _ e.symm rfl); have m3 := M2.cell 3; have fz3 := M2.frozen 3; have hz2 := M2.lt))
        all_goals
          go_wp2_with fail
          go_roundw
          case rel =>
            refine ⟨k + 1, .slice (some ⟨gg, 0, none⟩) (k + 1) cap2, by omega, by go_num, HALL.out ⟨hx1, hx2⟩, (((C5.alloc _).drew.grown hgrow (fun j hj hlj => (Nat.not_lt.2 (O5.lt j hj).1 hlj).elim)).setCell (fun h => absurd h (by show ¬ w1.heap.size + 1 < w1.heap.size; omega)) _), N2.far (by show w1.heap.size ≠ w1.heap.size + 1; omega) _, ?_, ?_⟩
            · rw [HSUM.out, show 4 + more + (sm + x) = 4 + more + sm + x by omega]
              exact M2.set 3 _
            · rw [HFL.out]
              exact own_chg hown1 ((Chg.refl w2 (fun j => j = w1.heap.size + 1)).setCell (fun _ => rfl) _) (own_ne hown1 M2 (by decide))
          case measure => simp [intOf]; omega
    · have h5 : k = l.length := by omega
      subst h5
      rw [List.take_length] at hall
      have hcfg : (frC l more).pages = 4 + more + (l.take l.length).sum := rfl
      obtain ⟨ao, cp, rfl, _⟩ := own_form Ok
      have HA := fr_at (more := more) Ok BW
      have hfa := fr_facts l more ⟨hl1, hl2⟩ ⟨hm1, hm2⟩ hall
      obtain ⟨hA, hB, hC, hD, hE⟩ := hfa
      have HFA := Lib.hid hA
      have HFB := Lib.hid hB
      have HTI := Lib.hid (fun k => take_in hall k)
      obtain ⟨tot, htot⟩ : ∃ tot, (l.take l.length).sum = tot := ⟨_, rfl⟩
      rw [htot] at hC BC ht1 ht2
      have HTOT := Lib.hid htot
      have HFC := Lib.hid hC
      have HFD := Lib.hid hD
      have HFE := Lib.hid hE
      have HXX := Lib.hid hall
      clear hA hB hC hD hE hcfg htot hall
      obtain ⟨wo, hwo⟩ : ∃ wo, wo = wr := ⟨_, rfl⟩
      subst hwo
      have HKA := Lib.hid (fun w' (c : Chg wo w' (fun _ => False)) => HA.keep c)
      have HKB := Lib.hid (fun w' (c : Chg wo w' (fun _ => False)) => BC.chg c (fun h => h))
      have hcells : cfgCells (frC l more) ao none (some ⟨w1.heap.size, 0, none⟩) cp 0 1 = #[.int .i64 (4 + more + tot), .int .i64 10, .int .i64 0, .slice ao l.length cp, .slice none 0 0, .slice (some ⟨w1.heap.size, 0, none⟩) 1 1] := by
        show (#[.int .i64 (4 + more + (l.take l.length).sum), .int .i64 10, .int .i64 0, .slice ao (fList l l.length).length cp, .slice none 0 0, .slice (some ⟨w1.heap.size, 0, none⟩) 1 1] : Array Value) = _
        rw [fList_length, HTOT.out]
      have HK1 := Lib.hid (fun w' (c : Chg wo w' (fun _ => False)) (k : Int) => (by have := first_any w' (HKA.out w' c) k; rw [hcells] at this; exact this))
      have HK2 := Lib.hid (fun w' (c : Chg wo w' (fun _ => False)) (k f : Int) => (by have := host2_any w' (HKA.out w' c) k f; rw [hcells] at this; exact this))
      have HK3 := Lib.hid (fun w' (c : Chg wo w' (fun _ => False)) (f : Int) => (by have := owner_any w' (HKA.out w' c) f; rw [hcells] at this; exact this))
      have HKD := Lib.hid (fun w' (c : Chg wo w' (fun _ => False)) => hL1.chg (Ck.trans c) (fun _ _ h => h))
      have hz := BC.lt
      have ht3 : tot ≤ 200 := by omega
      clear HA BC BW Ok ht2 hcells
      go_wp2_with fail
      go_loopw [8, 9] (fun a i wr => ∃ k : Nat, k ≤ l.length ∧ i = .int .i64 k ∧ a = .int .i64 (4 + (l.take k).sum) ∧ Chg wo wr (fun _ => False)) (fun _ i _ => l.length - (intOf i).toNat)
      case atStart => exact ⟨0, by omega, rfl, by simp, Chg.refl _ _⟩
      case round =>
        obtain ⟨k, hk, rfl, rfl, Cj⟩ := hrel
        have hti := HTI.out k
        obtain ⟨hs1, hs2⟩ := hti
        have hs3 : (l.take k).sum ≤ 200 := by omega
        obtain ⟨sk, hsk⟩ : ∃ sk, (l.take k).sum = sk := ⟨_, rfl⟩
        rw [hsk] at hs1 hs3 ⊢
        have HSK := Lib.hid hsk
        clear hs2 hsk
        by_cases hlt : k < l.length
        · have hLk := HKD.out _ Cj
          have cL : wr.cell? ⟨ab, aof + k, none⟩ = some (.int .i64 l[k]) := by
            have := Lst.cell0 (n := 1) (fun _ => rfl) hLk k (by decide) hlt rfl
            rwa [Nat.mul_one] at this
          have hfk := HFA.out k hlt
          have hxk := HXX.out _ (List.getElem_mem hlt)
          have HSUM : Hid ((l.take (k + 1)).sum = sk + l[k]) := by show _ = _; rw [List.take_succ_eq_append_getElem hlt, List.sum_append, HSK.out]; simp
          rw [HSK.out, HSUM.out] at hfk
          have HCL := Lib.hid (fun w' (c : Chg wo w' (fun _ => False)) => (show w'.cell? ⟨ab, aof + k, none⟩ = some (.int .i64 l[k]) by
            have := Lst.cell0 (n := 1) (fun _ => rfl) (HKD.out _ c) k (by decide) hlt rfl
            rwa [Nat.mul_one] at this))
          obtain ⟨x, hx⟩ : ∃ x, l[k] = x := ⟨_, rfl⟩
          rw [hx] at cL hfk hxk HSUM HCL
          obtain ⟨hx1, hx2⟩ := hxk
          have HF1 := Lib.hid hfk.1
          have HF2 : Hid (hostV (frC l more) k (x - 1) = (sk + x + 3, true)) := by show _ = _; rw [hfk.2, show 4 + (sk + x) - 1 = sk + x + 3 by omega]
          have hk0 : (0 : Int) ≤ (k : Int) := by omega
          have hk1 : (k : Int) < (l.length : Int) := by omega
          have yx : IntKind.i64.wrap (x - 1) = x - 1 := IntWalk.i64_in _ (by omega)
          have q8 : ((sk + x + 3) != (4 + sk + x - 1)) = false := by rw [bne_eq_false_iff_eq]; omega
          clear hLk hfk hx
          have B := HKB.out _ Cj
          have x0 := B.cell 0
          have x1 := B.cell 1
          have x2 := B.cell 2
          have x3 := B.cell 3
          have x4 := B.cell 4
          have x5 := B.cell 5
          clear B
          go_wp2_with fail
          refine (HK1.out _ Cj k).mono ?_
          rintro e w4 ⟨rfl, C4'⟩
          have C4 := Cj.trans C4'
          rw [HF1.out]
          clear x0 x1 x2 x3 x4 x5 C4' cL
          go_wp2_with fail
          refine wp_region_noPanic ?_
          refine seq_begin (fun w' => Chg wo w' (fun _ => False)) (by kernel_rfl) (C4.drew) ?_
          refine seq_op 0 (oi := ?oq0) (v := ?vq0) ?hq0 (by kernel_rfl) (by kernel_rfl) (by kernel_rfl) (fun _ _ _ h => h) ?wq0 (fun K wq hS hK => ?yq0) ?rq0
          case hq0 => simp only [List.getElem?_toArray, List.getElem?_cons_succ, List.getElem?_cons_zero]; rfl
          case wq0 => rfl
          case yq0 =>
            have HS := Lib.hid hS
            have B := HKB.out _ hS
            have x0 := B.cell 0
            have x1 := B.cell 1
            have x2 := B.cell 2
            have x3 := B.cell 3
            have x4 := B.cell 4
            have x5 := B.cell 5
            clear hS B
            go_simp
            have hS2 := HS.out
            exact hK.out _ hS2
          try simp only [Act.put, List.setIfInBounds_toArray, List.set_cons_zero, List.set_cons_succ]
          refine seq_op 1 (oi := ?oq1) (v := ?vq1) ?hq1 (by kernel_rfl) (by kernel_rfl) (by kernel_rfl) (fun _ _ _ h => h) ?wq1 (fun K wq hS hK => ?yq1) ?rq1
          case hq1 => simp only [List.getElem?_toArray, List.getElem?_cons_succ, List.getElem?_cons_zero]; rfl
          case wq1 => rfl
          case yq1 =>
            have HS := Lib.hid hS
            try dsimp only at hS
            go_simp
            exact hK.out _ HS.out
          try simp only [Act.put, List.setIfInBounds_toArray, List.set_cons_zero, List.set_cons_succ]
          refine seq_op 2 (oi := ?oq2) (v := ?vq2) ?hq2 (by kernel_rfl) (by kernel_rfl) (by kernel_rfl) (fun _ _ _ h => h) ?wq2 (fun K wq hS hK => ?yq2) ?rq2
          case hq2 => simp only [List.getElem?_toArray, List.getElem?_cons_succ, List.getElem?_cons_zero]; rfl
          case wq2 => rfl
          case yq2 =>
            have HS := Lib.hid hS
            try dsimp only at hS
            go_simp
            exact hK.out _ HS.out
          try simp only [Act.put, List.setIfInBounds_toArray, List.set_cons_zero, List.set_cons_succ]
          refine seq_op 3 (oi := ?oq3) (v := ?vq3) ?hq3 (by kernel_rfl) (by kernel_rfl) (by kernel_rfl) (fun _ _ _ h => h) ?wq3 (fun K wq hS hK => ?yq3) ?rq3
          case hq3 => simp only [List.getElem?_toArray, List.getElem?_cons_succ, List.getElem?_cons_zero]; rfl
          case wq3 => rfl
          case yq3 =>
            have HS := Lib.hid hS
            try dsimp only at hS
            go_simp
            exact hK.out _ HS.out
          try simp only [Act.put, List.setIfInBounds_toArray, List.set_cons_zero, List.set_cons_succ]
          refine seq_op 4 (oi := ?oq4) (v := ?vq4) ?hq4 (by kernel_rfl) (by kernel_rfl) (by kernel_rfl) (fun _ _ _ h => h) ?wq4 (fun K wq hS hK => ?yq4) ?rq4
          case hq4 => simp only [List.getElem?_toArray, List.getElem?_cons_succ, List.getElem?_cons_zero]; rfl
          case wq4 => rfl
          case yq4 =>
            have HS := Lib.hid hS
            try dsimp only at hS
            go_simp
            exact hK.out _ HS.out
          try simp only [Act.put, List.setIfInBounds_toArray, List.set_cons_zero, List.set_cons_succ]
          refine seq_op 5 (oi := ?oq5) (v := ?vq5) ?hq5 (by kernel_rfl) (by kernel_rfl) (by kernel_rfl) (fun _ _ _ h => h) ?wq5 (fun K wq hS hK => ?yq5) ?rq5
          case hq5 => simp only [List.getElem?_toArray, List.getElem?_cons_succ, List.getElem?_cons_zero]; rfl
          case wq5 => rfl
          case yq5 =>
            have HS := Lib.hid hS
            have cL := HCL.out _ hS
            clear hS
            go_simp
            have hS2 := HS.out
            exact hK.out _ hS2
          try simp only [Act.put, List.setIfInBounds_toArray, List.set_cons_zero, List.set_cons_succ]
          refine seq_op 6 (oi := ?oq6) (v := ?vq6) ?hq6 (by kernel_rfl) (by kernel_rfl) (by kernel_rfl) (fun _ _ _ h => h) ?wq6 (fun K wq hS hK => ?yq6) ?rq6
          case hq6 => simp only [List.getElem?_toArray, List.getElem?_cons_succ, List.getElem?_cons_zero]; rfl
          case wq6 => rfl
          case yq6 =>
            have HS := Lib.hid hS
            try dsimp only at hS
            go_simp
            exact hK.out _ HS.out
          try simp only [Act.put, List.setIfInBounds_toArray, List.set_cons_zero, List.set_cons_succ]
          refine seq_op 7 (oi := ?oq7) (v := ?vq7) ?hq7 (by kernel_rfl) (by kernel_rfl) (by kernel_rfl) (fun _ _ _ h => h) ?wq7 (fun K wq hS hK => ?yq7) ?rq7
          case hq7 => simp only [List.getElem?_toArray, List.getElem?_cons_succ, List.getElem?_cons_zero]; rfl
          case wq7 => rfl
          case yq7 =>
            have HS := Lib.hid hS
            clear hS
            go_simp
            refine (HK2.out _ HS.out k (x - 1)).mono ?_
            rintro e w8 ⟨rfl, C8⟩
            have hS2 := HS.out.trans C8
            rw [HF2.out]
            exact hK.out _ hS2
          try simp only [Act.put, List.setIfInBounds_toArray, List.set_cons_zero, List.set_cons_succ]
          refine seq_op 8 (oi := ?oq8) (v := ?vq8) ?hq8 (by kernel_rfl) (by kernel_rfl) (by kernel_rfl) (fun _ _ _ h => h) ?wq8 (fun K wq hS hK => ?yq8) ?rq8
          case hq8 => simp only [List.getElem?_toArray, List.getElem?_cons_succ, List.getElem?_cons_zero]; rfl
          case wq8 => rfl
          case yq8 =>
            have HS := Lib.hid hS
            try dsimp only at hS
            go_simp
            exact hK.out _ HS.out
          try simp only [Act.put, List.setIfInBounds_toArray, List.set_cons_zero, List.set_cons_succ]
          refine seq_op 9 (oi := ?oq9) (v := ?vq9) ?hq9 (by kernel_rfl) (by kernel_rfl) (by kernel_rfl) (fun _ _ _ h => h) ?wq9 (fun K wq hS hK => ?yq9) ?rq9
          case hq9 => simp only [List.getElem?_toArray, List.getElem?_cons_succ, List.getElem?_cons_zero]; rfl
          case wq9 => rfl
          case yq9 =>
            have HS := Lib.hid hS
            try dsimp only at hS
            go_simp
            exact hK.out _ HS.out
          try simp only [Act.put, List.setIfInBounds_toArray, List.set_cons_zero, List.set_cons_succ]
          refine seq_op 10 (oi := ?oq10) (v := ?vq10) ?hq10 (by kernel_rfl) (by kernel_rfl) (by kernel_rfl) (fun _ _ _ h => h) ?wq10 (fun K wq hS hK => ?yq10) ?rq10
          case hq10 => simp only [List.getElem?_toArray, List.getElem?_cons_succ, List.getElem?_cons_zero]; rfl
          case wq10 => rfl
          case yq10 =>
            have HS := Lib.hid hS
            try dsimp only at hS
            go_simp
            exact hK.out _ HS.out
          try simp only [Act.put, List.setIfInBounds_toArray, List.set_cons_zero, List.set_cons_succ]
          refine seq_op 11 (oi := ?oq11) (v := ?vq11) ?hq11 (by kernel_rfl) (by kernel_rfl) (by kernel_rfl) (fun _ _ _ h => h) ?wq11 (fun K wq hS hK => ?yq11) ?rq11
          case hq11 => simp only [List.getElem?_toArray, List.getElem?_cons_succ, List.getElem?_cons_zero]; rfl
          case wq11 => rfl
          case yq11 =>
            have HS := Lib.hid hS
            try dsimp only at hS
            go_simp
            exact hK.out _ HS.out
          try simp only [Act.put, List.setIfInBounds_toArray, List.set_cons_zero, List.set_cons_succ]
          refine seq_op 12 (oi := ?oq12) (v := ?vq12) ?hq12 (by kernel_rfl) (by kernel_rfl) (by kernel_rfl) (fun _ _ _ h => h) ?wq12 (fun K wq hS hK => ?yq12) ?rq12
          case hq12 => simp only [List.getElem?_toArray, List.getElem?_cons_succ, List.getElem?_cons_zero]; rfl
          case wq12 => rfl
          case yq12 =>
            have HS := Lib.hid hS
            try dsimp only at hS
            go_simp
            exact hK.out _ HS.out
          try simp only [Act.put, List.setIfInBounds_toArray, List.set_cons_zero, List.set_cons_succ]
          refine seq_done (by kernel_rfl) (fun wz hSz => ?_) _
          refine NoPanic.normal ?_
          have cL := HCL.out _ hSz
          go_wp2_with fail
          go_roundw
          case rel => exact ⟨k + 1, by omega, by go_num, by rw [HSUM.out]; exact int_eq (by omega), hSz⟩
          case measure => simp [intOf]; omega
        · have h5 : k = l.length := by omega
          subst h5
          have hst : sk = tot := by rw [← HSK.out, HTOT.out]
          subst hst
          go_wp2_with fail
          go_loopw [12] (fun i wr => ∃ j : Nat, (j : Int) ≤ more ∧ i = .int .i64 j ∧ Chg wo wr (fun _ => False)) (fun i _ => (more - intOf i).toNat)
          case atStart => exact ⟨0, by omega, rfl, Cj⟩
          case round =>
            obtain ⟨j, hj, rfl, Cj⟩ := hrel
            have B := HKB.out _ Cj
            have x0 := B.cell 0
            have x1 := B.cell 1
            have x2 := B.cell 2
            have x3 := B.cell 3
            have x4 := B.cell 4
            have x5 := B.cell 5
            clear B
            by_cases hlj : (j : Int) < more
            · have hb := HFB.out j (by omega) hlj
              rw [HTOT.out] at hb
              have HB1 := Lib.hid hb
              have q9 : decide ((j : Int) < more) = true := decide_eq_true hlj
              clear hb
              go_wp2_with fail
              refine (HK3.out _ Cj (4 + sk + j)).mono ?_
              rintro e w4 ⟨rfl, C4'⟩
              have C4 := Cj.trans C4'
              rw [HB1.out]
              clear x0 x1 x2 x3 x4 x5 C4'
              go_wp2_with fail
              go_roundw
              case rel => exact ⟨j + 1, by omega, by go_num, C4⟩
              case measure => simp [intOf]; omega
            · have q9 : decide ((j : Int) < more) = false := decide_eq_false hlj
              clear hlj
              go_wp2_with fail
              refine (HK3.out _ Cj (4 + sk + more)).mono ?_
              rintro e w4 ⟨rfl, C4'⟩
              have C4 := Cj.trans C4'
              rw [HFC.out]
              clear x0 x1 x2 x3 x4 x5 C4'
              have B := HKB.out _ C4
              have x0 := B.cell 0
              have x1 := B.cell 1
              have x2 := B.cell 2
              have x3 := B.cell 3
              have x4 := B.cell 4
              have x5 := B.cell 5
              clear B
              go_wp2_with fail
              refine (HK3.out _ C4 (-1)).mono ?_
              rintro e w5 ⟨rfl, C5'⟩
              have C5 := C4.trans C5'
              rw [HFD.out]
              clear x0 x1 x2 x3 x4 x5 C5'
              have B := HKB.out _ C5
              have x0 := B.cell 0
              have x1 := B.cell 1
              have x2 := B.cell 2
              have x3 := B.cell 3
              have x4 := B.cell 4
              have x5 := B.cell 5
              clear B
              go_wp2_with fail
              refine (HK1.out _ C5 l.length).mono ?_
              rintro e w6 ⟨rfl, C6'⟩
              have C6 := C5.trans C6'
              rw [HFE.out]
              clear x0 x1 x2 x3 x4 x5 C6'
              go_wp2_with fail
              go_ret
              exact ⟨rfl, ((C1.trans Ck).trans C6).below_of (Nat.le_refl _) (fun _ h => h.elim)⟩

set_option maxRecDepth 100000 in
set_option maxHeartbeats 2000000 in
theorem rows_out {l : List Int} {ao : Option Addr} {cap : Nat} (more : Int) (w : World) (hL : Lst w ao l.length cap (l.flatMap iCells) 1) (h : ¬ ((1 ≤ l.length ∧ l.length ≤ 8) ∧ 0 ≤ more ∧ more ≤ 20)) :
    Calls Try.prog 8 #[.slice ao l.length cap, .int .i64 more] w fun e w' => e = .returned (.bool true) ∧ Below w.heap.size w w' := by
  have hx1 := hL.le
  have hx2 := hL.mx
  unfold maxLen at hx2
  go_enter Try.func8, Try.ntmps8
  go_wp2_with fail
  refine (alive16 _).mono ?_
  rintro e w1 ⟨rfl, C1⟩
  go_upto_if 33 with fail
  all_goals first
    | (exfalso; omega)
    | (go_wp2_with fail
       go_ret
       exact ⟨rfl, C1.below_of (Nat.le_refl _) (fun _ h => h.elim)⟩)
set_option maxRecDepth 100000 in
theorem framesRows_walk : LawWalk 8 Try.f8 := by
  intro H enc W base args ds p hval hA
  rw [Try.params8] at hA hval
  obtain ⟨v0, v1, d0, d1, p0, p1, rfl, rfl, rfl, h0, h1⟩ := trodAll_two hA
  obtain ⟨ao, cap, l, rfl, hL, _⟩ := open_ints (hval 0 50 v0 rfl rfl) h0
  obtain ⟨a1, rfl, rfl, rfl, w1⟩ := open_int Try.underlying3 (hval 1 3 v1 rfl rfl) h1
  by_cases h : (1 ≤ l.length ∧ l.length ≤ 8) ∧ 0 ≤ a1 ∧ a1 ≤ 20
  · exact rows_in a1 W hL h.1 h.2
  · exact rows_out a1 W hL h

set_option maxRecDepth 100000 in
theorem framesRows_lifted (os : Os) (started : os.Started) (H : Type) (enc : TypeId × Value → H) :
    ReturnsInHanded {} Try.checked os 8 .any (Rows.framesRowsSpec.pre6 enc Try.prog Try.f8 Rows.framesRowsRow.domain false) (Rows.framesRowsSpec.post enc Try.prog Try.f8 false true false false) :=
  law_lifted (s := Rows.framesRowsSpec) Try.func8 (by kernel_rfl) rfl (by kernel_rfl) (by kernel_rfl)
    (fun H ds h => by
      match ds, h with
      | [d0, d1], _ => rfl)
    framesRows_walk os started H enc
    (ChangeSpec.witness6 (enc := enc) (C := Try.checked) false ⟨#[], #[.slice none 0 0, .int .i64 0], []⟩ 8 (by kernel_rfl) (by kernel_rfl) (by kernel_rfl) (by kernel_rfl))

set_option maxRecDepth 100000 in
/-- THE STATEMENT. -/
theorem framesRows_holds : Rows.FramesRowsSaid :=
  OpenClaim.holds_of_wide 8 Try.f8 rfl rfl rfl rfl rfl rfl rfl ⟨rfl, rfl, rfl, rfl, rfl⟩ rfl rfl rfl rfl rfl (by kernel_rfl) Try.func8 (by kernel_rfl)
    (of_decide_eq_true (by kernel_rfl)) (by unfold Func.isWrapper; first | (rw [if_pos (by decide +kernel)]; kernel_rfl) | (rw [if_neg (by decide +kernel)]; exact ⟨rfl, rfl⟩))
    (fun os started H enc _ => framesRows_lifted os started H enc)
#print axioms framesRows_holds
end Go.Proofs.Ytdhkbephofnfdaa

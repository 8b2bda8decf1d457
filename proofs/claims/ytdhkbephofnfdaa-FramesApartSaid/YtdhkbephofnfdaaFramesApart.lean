/- FramesApart: that no frame is two partitions', that each frame of a partition leads there and back, and that none is the hypervisor's. No condition. -/
import Derived.Test.YtdhkbephofnfdaaFramesP
import Derived.Test.YtdhkbephofnfdaaBig
import Derived.Test.YtdhkbephofnfdaaCfgArg
import Derived.Test.YtdhkbephofnfdaaSeq
import Derived.Test.YtdhkbephofnfdaaAlive16
import Derived.Test.YtdhkbephofnfdaaRow
import Derived.Test.YtdhkbephofnfdaaChkAt
namespace Go.Proofs.Ytdhkbephofnfdaa
open Go.ChangeShapes Go.WideShapes Go.ChangeAt Go.RowKit

theorem info_bool : (Try.prog.info? 4).map (fun i => (i.zero, i.size, i.bytes)) = some (some (.bool false), 1, 1) := by kernel_rfl
theorem mk_bools (w : World) :
    (Instr.makeSlice 49 (.int .i64 257) (.int .i64 257)).run Try.prog w = .ok (.slice (some ⟨w.heap.size, 0, none⟩) 257 257) (w.alloc (.cells (madeCells #[.bool false] 257) 4)) := by
  obtain ⟨i0, hi, hz0, hz1, hz2⟩ := info_parts info_bool
  exact run_make_row (P := Try.prog) 49 4 i0 (.bool false) Try.underlying49 hi hz0 hz1 rfl .i64 .i64 257 (by rw [hz2]; omega) (by omega) w

set_option maxRecDepth 100000 in
set_option maxHeartbeats 4000000 in
theorem framesApart_any {C : Cfg} {ap ac aw : Option Addr} {cp cc cw : Nat} (w : World) (h : CfgAt w C ap ac aw cp cc cw) :
    Calls Try.prog 7 #[.agg (cfgCells C ap ac aw cp cc cw)] w fun e w' => e = .returned (.bool true) ∧ Below w.heap.size w w' := by
  have HB := Box.new w 27 (cfgCells C ap ac aw cp cc cw)
  have HA := h.keep ((Chg.refl w (fun _ => False)).alloc (.cells (cfgCells C ap ac aw cp cc cw) 27))
  obtain ⟨w0, hw0⟩ : ∃ w0, w.alloc (.cells (cfgCells C ap ac aw cp cc cw) 27) = w0 := ⟨_, rfl⟩
  have C0 : Chg w w0 (fun _ => False) := by rw [← hw0]; exact (Chg.refl _ _).alloc _
  rw [hw0] at HB HA
  unfold cfgCells at *
  go_enter Try.func7, Try.ntmps7
  go_wp2_with fail
  clear hw0
  refine (alive16 _).mono ?_
  rintro e w1 ⟨rfl, C1⟩
  have HKB : ∀ w', Chg w0 w' (fun _ => False) → Box w' w.heap.size 27 #[.int .i64 C.pages, .int .i64 C.major, .int .i64 C.switch, .slice ap C.parts.length cp, .slice ac C.chans.length cc, .slice aw C.wins.length cw] := fun w' c => HB.chg c (fun h => h)
  replace HKB := Lib.hid HKB
  replace HA := Lib.hid HA
  clear HB
  have B := HKB.out _ C1
  have x0 := B.cell 0
  have x1 := B.cell 1
  have x2 := B.cell 2
  have x3 := B.cell 3
  have x4 := B.cell 4
  have x5 := B.cell 5
  clear B
  go_wp2_with fail
  refine (big_any _ (HA.out.keep C1)).mono ?_
  rintro e w2 ⟨rfl, C2'⟩
  have C2 := C1.trans C2'
  clear x0 x1 x2 x3 x4 x5 C2'
  cases hbig : bigV C
  case true =>
    clear hbig
    go_wp2_with fail
    go_ret
    exact ⟨rfl, (C0.trans C2).below_of (Nat.le_refl _) (fun _ h => h.elim)⟩
  clear hbig
  have B := HKB.out _ C2
  have x0 := B.cell 0
  have x1 := B.cell 1
  have x2 := B.cell 2
  have x3 := B.cell 3
  have x4 := B.cell 4
  have x5 := B.cell 5
  clear B
  go_wp2_with fail
  refine (rcheck_any _ (HA.out.keep C2)).mono ?_
  rintro e w3 ⟨rfl, C3'⟩
  have C3 := C2.trans C3'
  clear x0 x1 x2 x3 x4 x5 C3'
  by_cases hchk : chk C = 0
  case neg =>
    have qc : (chk C != 0) = true := bne_iff_ne.2 hchk
    clear hchk
    go_wp2_with fail
    go_ret
    exact ⟨rfl, (C0.trans C3).below_of (Nat.le_refl _) (fun _ h => h.elim)⟩
  rw [hchk]
  have HCK := Lib.hid hchk
  clear hchk
  have hz3 : w.heap.size < w3.heap.size := by have := (HKB.out _ C3).lt; omega
  have hz0 := C3.size
  have hmk := mk_bools w3
  obtain ⟨q, hq⟩ : ∃ q, w3.heap.size = q := ⟨_, rfl⟩
  rw [hq] at hmk
  have HQ0 : w0.heap.size ≤ q := by omega
  have HROW : ((w3.alloc (.cells (madeCells #[.bool false] 257) 4))).rowIs q 4 257 (fun h => .bool (markB (psum C.parts 0) h)) := by
    have := World.rowIs_made w3 (.bool false) 257 4
    rw [hq] at this
    refine this.congr (fun i _ => ?_)
    unfold markB
    rw [show (decide (4 ≤ i) && decide ((i : Int) < 4 + psum C.parts 0)) = false from by
      rw [show psum C.parts 0 = 0 from rfl]
      by_cases h : 4 ≤ i
      · rw [decide_eq_false (show ¬ (i : Int) < 4 + 0 by omega), Bool.and_false]
      · rw [decide_eq_false h, Bool.false_and]]
  have C4 := C3.alloc (.cells (madeCells #[.bool false] 257) 4)
  have hpl := (fine_of HCK.out).len
  obtain ⟨hpl1, hpl2⟩ := hpl
  clear hz3 hz0 hq
  go_wp2_with fail
  clear hmk
  go_loopw [6] (fun i wr => ∃ k : Nat, k ≤ C.parts.length ∧ i = .int .i64 k ∧ Chg w0 wr (fun _ => False) ∧ wr.rowIs q 4 257 (fun h => .bool (markB (psum C.parts k) h))) (fun i _ => C.parts.length - (intOf i).toNat)
  case atStart => exact ⟨0, by omega, rfl, C4, HROW⟩
  case round =>
    obtain ⟨k, hk, rfl, Ck, Rk⟩ := hrel
    have B := HKB.out _ Ck
    have x0 := B.cell 0
    have x1 := B.cell 1
    have x2 := B.cell 2
    have x3 := B.cell 3
    have x4 := B.cell 4
    have x5 := B.cell 5
    clear B
    by_cases hlt : k < C.parts.length
    · obtain ⟨b, o, rfl⟩ := HA.out.ps.pos (by omega)
      have HAT := Lib.hid (fun j h0 h1 => frames_at (j := j) HCK.out hlt h0 h1)
      have HMO := Lib.hid (frames_more HCK.out hlt)
      have HC1 := Lib.hid (fun w' (c : Chg w0 w' (fun _ => False)) => Lst.cell (n := 3) (fun _ => rfl) (HA.out.keep c).ps k 1 (by decide) hlt rfl)
      have HS := Lib.hid (psum_succ C.parts k hlt)
      have hx := (fine_of HCK.out).each _ (List.getElem_mem hlt)
      obtain ⟨x, hxe⟩ : ∃ x, C.parts[k].pages = x := ⟨_, rfl⟩
      rw [hxe] at HC1 HS HMO HAT hx
      obtain ⟨hx1, hx2⟩ := hx
      have hk0 : (0 : Int) ≤ (k : Int) := by omega
      have hk1 : (k : Int) < C.parts.length := by omega
      clear hxe
      have c1 := HC1.out _ Ck
      go_wp2_with fail
      clear x0 x1 x2 x3 x4 x5 c1
      go_loopw [7] (fun i wr => ∃ j : Nat, (j : Int) ≤ x ∧ i = .int .i64 j ∧ Chg w0 wr (fun _ => False) ∧ wr.rowIs q 4 257 (fun h => .bool (markB (psum C.parts k + j) h))) (fun i _ => (x - intOf i).toNat)
      case atStart => exact ⟨0, by omega, rfl, Ck, Rk.congr (fun i _ => by rw [show psum C.parts k + ((0 : Nat) : Int) = psum C.parts k by omega])⟩
      case round =>
        obtain ⟨j, hj, rfl, Cj, Rj⟩ := hrel
        have B := HKB.out _ Cj
        have x0 := B.cell 0
        have x1 := B.cell 1
        have x2 := B.cell 2
        have x3 := B.cell 3
        have x4 := B.cell 4
        have x5 := B.cell 5
        clear B
        have c1 := HC1.out _ Cj
        by_cases hlj : (j : Int) < x
        · have ha := HAT.out j (by omega) hlj
          obtain ⟨ha1, ha2, ha3, ha4, ha5⟩ := ha
          obtain ⟨hn, hhn⟩ := Int.eq_ofNat_of_zero_le (show 0 ≤ 4 + psum C.parts k + j by omega)
          rw [hhn] at ha1 ha2 ha4
          have hh1 : 4 ≤ (hn : Int) := by omega
          have hh3 : hn < 257 := by omega
          have hcell := Rj.cell hh3
          have hfr := Rj.frozen hn
          have hmf : markB (psum C.parts k + j) hn = false := by
            unfold markB
            rw [decide_eq_false (show ¬ (hn : Int) < 4 + (psum C.parts k + j) by omega), Bool.and_false]
          rw [hmf] at hcell
          have Rn : (wr.setCell ⟨q, hn, none⟩ (.bool true)).rowIs q 4 257 (fun h => .bool (markB (psum C.parts k + (j + 1)) h)) := (Rj.set hn (.bool true)).congr (fun i _ => by
            rw [← Int.add_assoc, ← markB_next (psum C.parts k + j) hn i (by omega) (by omega)]
            by_cases e : i = hn <;> simp [e])
          have HA1 := Lib.hid ha1
          have HA2 := Lib.hid ha2
          have HROWS := Lib.hid (And.intro Rj Rn)
          clear ha1 ha2 ha3 hhn hmf Rj Rn
          go_wp2_with fail
          refine (host2_any _ (HA.out.keep Cj) k j).mono ?_
          rintro e w5 ⟨rfl, C5'⟩
          have C5 := Cj.trans C5'
          rw [HA1.out]
          have hcell5 := C5'.cell hcell (fun h => h)
          have hfr5 := (C5'.frozen hcell (fun h => h)).trans hfr
          have R5 := (C5'.row HROWS.out.1 (fun h => h))
          have R6 : (w5.setCell ⟨q, hn, none⟩ (.bool true)).rowIs q 4 257 (fun h => .bool (markB (psum C.parts k + (j + 1)) h)) := (R5.set hn (.bool true)).congr (fun i hi => by
            have := ((HROWS.out.1.set hn (.bool true)).cell hi).symm.trans (HROWS.out.2.cell hi)
            injection this)
          have C6 : Chg w0 (w5.setCell ⟨q, hn, none⟩ (.bool true)) (fun _ => False) := C5.setCell (fun h => absurd h (by show ¬ q < _; omega)) _
          clear HROWS R5 C5' hcell hfr x0 x1 x2 x3 x4 x5 c1
          have B := HKB.out _ C5
          have x0 := B.cell 0
          have x1 := B.cell 1
          have x2 := B.cell 2
          have x3 := B.cell 3
          have x4 := B.cell 4
          have x5 := B.cell 5
          clear B
          have hqs := World.block_lt_of_cell? _ _ hcell5
          go_upto_region 16 with fail
          clear x0 x1 x2 x3 x4 x5 hcell5 hfr5
          generalize (w5.setCell ⟨q, hn, none⟩ (.bool true)) = w6 at *
          have B := HKB.out _ C6
          have x0 := B.cell 0
          have x1 := B.cell 1
          have x2 := B.cell 2
          have x3 := B.cell 3
          have x4 := B.cell 4
          have x5 := B.cell 5
          clear B
          go_wp2_with fail
          refine (guest_any _ (HA.out.keep C6) hn).mono ?_
          rintro e w7 ⟨rfl, C7'⟩
          have C7 := C6.trans C7'
          have R7 := C7'.row R6 (fun h => h)
          rw [HA2.out]
          clear x0 x1 x2 x3 x4 x5 C7' R6
          have B := HKB.out _ C7
          have x0 := B.cell 0
          have x1 := B.cell 1
          have x2 := B.cell 2
          have x3 := B.cell 3
          have x4 := B.cell 4
          have x5 := B.cell 5
          clear B
          go_wp2_with fail
          refine (owner_any _ (HA.out.keep C7) hn).mono ?_
          rintro e w8 ⟨rfl, C8'⟩
          have C8 := C7.trans C8'
          have R8 := C8'.row R7 (fun h => h)
          rw [HA2.out]
          clear x0 x1 x2 x3 x4 x5 C8' R7
          go_wp2_with fail
          go_roundw
          case rel => exact ⟨j + 1, by omega, by go_num, C8, R8⟩
          case measure => simp [intOf]; omega
        · have hjx : (j : Int) = x := by omega
          have Rx : wr.rowIs q 4 257 (fun h => .bool (markB (psum C.parts (k + 1)) h)) := Rj.congr (fun i _ => by rw [HS.out, hjx])
          have q9 : decide ((j : Int) < x) = false := decide_eq_false hlj
          clear hjx Rj hlj
          go_wp2_with fail
          clear q9
          refine wp_region_noPanic ?_
          refine seq_begin (fun w' => Chg w0 w' (fun _ => False) ∧ w'.rowIs q 4 257 (fun h => .bool (markB (psum C.parts (k + 1)) h))) (by kernel_rfl) (And.intro Cj.drew Rx.drew) ?_
          refine seq_op 0 (oi := ?oq0) (v := ?vq0) ?hq0 (by kernel_rfl) (by kernel_rfl) (by kernel_rfl) (fun _ _ _ h => h) ?wq0 (fun K wq hS hK => ?yq0) ?rq0
          case hq0 => simp only [List.getElem?_toArray, List.getElem?_cons_succ, List.getElem?_cons_zero]; rfl
          case wq0 => rfl
          case yq0 =>
            have HS := Lib.hid hS
            have B := HKB.out _ hS.1
            have x0 := B.cell 0
            have x1 := B.cell 1
            have x2 := B.cell 2
            have x3 := B.cell 3
            have x4 := B.cell 4
            have x5 := B.cell 5
            clear hS B
            go_simp
            have hS2 := HS.out
            exact hK.out _ hS2
          try simp only [Act.put, List.setIfInBounds_toArray, List.set_cons_zero, List.set_cons_succ]
          refine seq_op 1 (oi := ?oq1) (v := ?vq1) ?hq1 (by kernel_rfl) (by kernel_rfl) (by kernel_rfl) (fun _ _ _ h => h) ?wq1 (fun K wq hS hK => ?yq1) ?rq1
          case hq1 => simp only [List.getElem?_toArray, List.getElem?_cons_succ, List.getElem?_cons_zero]; rfl
          case wq1 => rfl
          case yq1 =>
            have HS := Lib.hid hS
            try dsimp only at hS
            go_simp
            exact hK.out _ HS.out
          try simp only [Act.put, List.setIfInBounds_toArray, List.set_cons_zero, List.set_cons_succ]
          refine seq_op 2 (oi := ?oq2) (v := ?vq2) ?hq2 (by kernel_rfl) (by kernel_rfl) (by kernel_rfl) (fun _ _ _ h => h) ?wq2 (fun K wq hS hK => ?yq2) ?rq2
          case hq2 => simp only [List.getElem?_toArray, List.getElem?_cons_succ, List.getElem?_cons_zero]; rfl
          case wq2 => rfl
          case yq2 =>
            have HS := Lib.hid hS
            try dsimp only at hS
            go_simp
            exact hK.out _ HS.out
          try simp only [Act.put, List.setIfInBounds_toArray, List.set_cons_zero, List.set_cons_succ]
          refine seq_op 3 (oi := ?oq3) (v := ?vq3) ?hq3 (by kernel_rfl) (by kernel_rfl) (by kernel_rfl) (fun _ _ _ h => h) ?wq3 (fun K wq hS hK => ?yq3) ?rq3
          case hq3 => simp only [List.getElem?_toArray, List.getElem?_cons_succ, List.getElem?_cons_zero]; rfl
          case wq3 => rfl
          case yq3 =>
            have HS := Lib.hid hS
            have B := HKB.out _ hS.1
            have x0 := B.cell 0
            have x1 := B.cell 1
            have x2 := B.cell 2
            have x3 := B.cell 3
            have x4 := B.cell 4
            have x5 := B.cell 5
            clear hS B
            go_simp
            have hS2 := HS.out
            exact hK.out _ hS2
          try simp only [Act.put, List.setIfInBounds_toArray, List.set_cons_zero, List.set_cons_succ]
          refine seq_op 4 (oi := ?oq4) (v := ?vq4) ?hq4 (by kernel_rfl) (by kernel_rfl) (by kernel_rfl) (fun _ _ _ h => h) ?wq4 (fun K wq hS hK => ?yq4) ?rq4
          case hq4 => simp only [List.getElem?_toArray, List.getElem?_cons_succ, List.getElem?_cons_zero]; rfl
          case wq4 => rfl
          case yq4 =>
            have HS := Lib.hid hS
            try dsimp only at hS
            go_simp
            exact hK.out _ HS.out
          try simp only [Act.put, List.setIfInBounds_toArray, List.set_cons_zero, List.set_cons_succ]
          refine seq_op 5 (oi := ?oq5) (v := ?vq5) ?hq5 (by kernel_rfl) (by kernel_rfl) (by kernel_rfl) (fun _ _ _ h => h) ?wq5 (fun K wq hS hK => ?yq5) ?rq5
          case hq5 => simp only [List.getElem?_toArray, List.getElem?_cons_succ, List.getElem?_cons_zero]; rfl
          case wq5 => rfl
          case yq5 =>
            have HS := Lib.hid hS
            try dsimp only at hS
            go_simp
            exact hK.out _ HS.out
          try simp only [Act.put, List.setIfInBounds_toArray, List.set_cons_zero, List.set_cons_succ]
          refine seq_op 6 (oi := ?oq6) (v := ?vq6) ?hq6 (by kernel_rfl) (by kernel_rfl) (by kernel_rfl) (fun _ _ _ h => h) ?wq6 (fun K wq hS hK => ?yq6) ?rq6
          case hq6 => simp only [List.getElem?_toArray, List.getElem?_cons_succ, List.getElem?_cons_zero]; rfl
          case wq6 => rfl
          case yq6 =>
            have HS := Lib.hid hS
            try dsimp only at hS
            go_simp
            exact hK.out _ HS.out
          try simp only [Act.put, List.setIfInBounds_toArray, List.set_cons_zero, List.set_cons_succ]
          refine seq_op 7 (oi := ?oq7) (v := ?vq7) ?hq7 (by kernel_rfl) (by kernel_rfl) (by kernel_rfl) (fun _ _ _ h => h) ?wq7 (fun K wq hS hK => ?yq7) ?rq7
          case hq7 => simp only [List.getElem?_toArray, List.getElem?_cons_succ, List.getElem?_cons_zero]; rfl
          case wq7 => rfl
          case yq7 =>
            have HS := Lib.hid hS
            have c1 := HC1.out _ hS.1
            clear hS
            go_simp
            have hS2 := HS.out
            exact hK.out _ hS2
          try simp only [Act.put, List.setIfInBounds_toArray, List.set_cons_zero, List.set_cons_succ]
          refine seq_op 8 (oi := ?oq8) (v := ?vq8) ?hq8 (by kernel_rfl) (by kernel_rfl) (by kernel_rfl) (fun _ _ _ h => h) ?wq8 (fun K wq hS hK => ?yq8) ?rq8
          case hq8 => simp only [List.getElem?_toArray, List.getElem?_cons_succ, List.getElem?_cons_zero]; rfl
          case wq8 => rfl
          case yq8 =>
            have HS := Lib.hid hS
            have HX := HA.out.keep hS.1
            clear hS
            go_simp
            refine (host2_any _ HX k x).mono ?_
            rintro e w8 ⟨rfl, C8⟩
            have hS2 := And.intro (HS.out.1.trans C8) (C8.row HS.out.2 (fun h => h))
            rw [HMO.out]
            exact hK.out _ hS2
          try simp only [Act.put, List.setIfInBounds_toArray, List.set_cons_zero, List.set_cons_succ]
          refine seq_op 9 (oi := ?oq9) (v := ?vq9) ?hq9 (by kernel_rfl) (by kernel_rfl) (by kernel_rfl) (fun _ _ _ h => h) ?wq9 (fun K wq hS hK => ?yq9) ?rq9
          case hq9 => simp only [List.getElem?_toArray, List.getElem?_cons_succ, List.getElem?_cons_zero]; rfl
          case wq9 => rfl
          case yq9 =>
            have HS := Lib.hid hS
            try dsimp only at hS
            go_simp
            exact hK.out _ HS.out
          try simp only [Act.put, List.setIfInBounds_toArray, List.set_cons_zero, List.set_cons_succ]
          refine seq_op 10 (oi := ?oq10) (v := ?vq10) ?hq10 (by kernel_rfl) (by kernel_rfl) (by kernel_rfl) (fun _ _ _ h => h) ?wq10 (fun K wq hS hK => ?yq10) ?rq10
          case hq10 => simp only [List.getElem?_toArray, List.getElem?_cons_succ, List.getElem?_cons_zero]; rfl
          case wq10 => rfl
          case yq10 =>
            have HS := Lib.hid hS
            try dsimp only at hS
            go_simp
            exact hK.out _ HS.out
          try simp only [Act.put, List.setIfInBounds_toArray, List.set_cons_zero, List.set_cons_succ]
          refine seq_op 11 (oi := ?oq11) (v := ?vq11) ?hq11 (by kernel_rfl) (by kernel_rfl) (by kernel_rfl) (fun _ _ _ h => h) ?wq11 (fun K wq hS hK => ?yq11) ?rq11
          case hq11 => simp only [List.getElem?_toArray, List.getElem?_cons_succ, List.getElem?_cons_zero]; rfl
          case wq11 => rfl
          case yq11 =>
            have HS := Lib.hid hS
            try dsimp only at hS
            go_simp
            exact hK.out _ HS.out
          try simp only [Act.put, List.setIfInBounds_toArray, List.set_cons_zero, List.set_cons_succ]
          refine seq_op 12 (oi := ?oq12) (v := ?vq12) ?hq12 (by kernel_rfl) (by kernel_rfl) (by kernel_rfl) (fun _ _ _ h => h) ?wq12 (fun K wq hS hK => ?yq12) ?rq12
          case hq12 => simp only [List.getElem?_toArray, List.getElem?_cons_succ, List.getElem?_cons_zero]; rfl
          case wq12 => rfl
          case yq12 =>
            have HS := Lib.hid hS
            try dsimp only at hS
            go_simp
            exact hK.out _ HS.out
          try simp only [Act.put, List.setIfInBounds_toArray, List.set_cons_zero, List.set_cons_succ]
          refine seq_op 13 (oi := ?oq13) (v := ?vq13) ?hq13 (by kernel_rfl) (by kernel_rfl) (by kernel_rfl) (fun _ _ _ h => h) ?wq13 (fun K wq hS hK => ?yq13) ?rq13
          case hq13 => simp only [List.getElem?_toArray, List.getElem?_cons_succ, List.getElem?_cons_zero]; rfl
          case wq13 => rfl
          case yq13 =>
            have HS := Lib.hid hS
            try dsimp only at hS
            go_simp
            exact hK.out _ HS.out
          try simp only [Act.put, List.setIfInBounds_toArray, List.set_cons_zero, List.set_cons_succ]
          refine seq_done (by kernel_rfl) (fun wz hSz => ?_) _
          refine NoPanic.normal ?_
          go_wp2_with fail
          go_roundw
          case rel => exact ⟨k + 1, by omega, by go_num, hSz.1, hSz.2⟩
          case measure => simp [intOf]; omega
    · have h5 : k = C.parts.length := by omega
      subst h5
      have hpg := (fine_of HCK.out).pages
      obtain ⟨hpg1, hpg2⟩ := hpg
      have HOWN := Lib.hid (fun h (hh : ((h : Nat) : Int) < C.pages) => frames_own HCK.out hh)
      go_wp2_with fail
      clear x0 x1 x2 x3 x4 x5
      go_loopw [14] (fun i wr => ∃ j : Nat, (j : Int) ≤ C.pages ∧ i = .int .i64 j ∧ Chg w0 wr (fun _ => False) ∧ wr.rowIs q 4 257 (fun h => .bool (markB (psum C.parts C.parts.length) h))) (fun i _ => (C.pages - intOf i).toNat)
      case atStart => exact ⟨0, by omega, rfl, Ck, Rk⟩
      case round =>
        obtain ⟨j, hj, rfl, Cj, Rj⟩ := hrel
        have B := HKB.out _ Cj
        have x0 := B.cell 0
        have x1 := B.cell 1
        have x2 := B.cell 2
        have x3 := B.cell 3
        have x4 := B.cell 4
        have x5 := B.cell 5
        clear B
        by_cases hlj : (j : Int) < C.pages
        · have hj3 : j < 257 := by omega
          have HCE := Lib.hid (fun w' (R : World.rowIs w' q 4 257 (fun h => .bool (markB (psum C.parts C.parts.length) h))) => R.cell hj3)
          have hj0 : (0 : Int) ≤ (j : Int) := by omega
          have hj4 : (j : Int) < 257 := by omega
          have ho := HOWN.out j hlj
          go_wp2_with fail
          rcases ho with ⟨h1, h2, h3⟩ | ⟨h1, ⟨qq, h2⟩, h3⟩ | ⟨h1, h2, h3⟩
          · have q4 : decide ((j : Int) < 4) = true := by exact decide_eq_true h1
            have HG := Lib.hid h2
            rw [h3] at HCE
            clear h2 h3
            refine wp_region_noPanic ?_
            refine seq_begin (fun w' => Chg w0 w' (fun _ => False) ∧ w'.rowIs q 4 257 (fun h => .bool (markB (psum C.parts C.parts.length) h))) (by kernel_rfl) (And.intro Cj.drew Rj.drew) ?_
            refine seq_op 0 (oi := ?oa0) (v := ?va0) ?ha0 (by kernel_rfl) (by kernel_rfl) (by kernel_rfl) (fun _ _ _ h => h) ?wa0 (fun K wq hS hK => ?ya0) ?ra0
            case ha0 => simp only [List.getElem?_toArray, List.getElem?_cons_succ, List.getElem?_cons_zero]; rfl
            case wa0 => rfl
            case ya0 =>
              have HS := Lib.hid hS
              have B := HKB.out _ hS.1
              have x0 := B.cell 0
              have x1 := B.cell 1
              have x2 := B.cell 2
              have x3 := B.cell 3
              have x4 := B.cell 4
              have x5 := B.cell 5
              clear hS B
              go_simp
              have hS2 := HS.out
              exact hK.out _ hS2
            try simp only [Act.put, List.setIfInBounds_toArray, List.set_cons_zero, List.set_cons_succ]
            refine seq_op 1 (oi := ?oa1) (v := ?va1) ?ha1 (by kernel_rfl) (by kernel_rfl) (by kernel_rfl) (fun _ _ _ h => h) ?wa1 (fun K wq hS hK => ?ya1) ?ra1
            case ha1 => simp only [List.getElem?_toArray, List.getElem?_cons_succ, List.getElem?_cons_zero]; rfl
            case wa1 => rfl
            case ya1 =>
              have HS := Lib.hid hS
              try dsimp only at hS
              go_simp
              exact hK.out _ HS.out
            try simp only [Act.put, List.setIfInBounds_toArray, List.set_cons_zero, List.set_cons_succ]
            refine seq_op 2 (oi := ?oa2) (v := ?va2) ?ha2 (by kernel_rfl) (by kernel_rfl) (by kernel_rfl) (fun _ _ _ h => h) ?wa2 (fun K wq hS hK => ?ya2) ?ra2
            case ha2 => simp only [List.getElem?_toArray, List.getElem?_cons_succ, List.getElem?_cons_zero]; rfl
            case wa2 => rfl
            case ya2 =>
              have HS := Lib.hid hS
              have HX := HA.out.keep hS.1
              clear hS
              go_simp
              refine (owner_any _ HX j).mono ?_
              rintro e w8 ⟨rfl, C8⟩
              have hS2 := And.intro (HS.out.1.trans C8) (C8.row HS.out.2 (fun h => h))
              rw [HG.out]
              exact hK.out _ hS2
            try simp only [Act.put, List.setIfInBounds_toArray, List.set_cons_zero, List.set_cons_succ]
            refine seq_op 3 (oi := ?oa3) (v := ?va3) ?ha3 (by kernel_rfl) (by kernel_rfl) (by kernel_rfl) (fun _ _ _ h => h) ?wa3 (fun K wq hS hK => ?ya3) ?ra3
            case ha3 => simp only [List.getElem?_toArray, List.getElem?_cons_succ, List.getElem?_cons_zero]; rfl
            case wa3 => rfl
            case ya3 =>
              have HS := Lib.hid hS
              try dsimp only at hS
              go_simp
              exact hK.out _ HS.out
            try simp only [Act.put, List.setIfInBounds_toArray, List.set_cons_zero, List.set_cons_succ]
            refine seq_op 4 (oi := ?oa4) (v := ?va4) ?ha4 (by kernel_rfl) (by kernel_rfl) (by kernel_rfl) (fun _ _ _ h => h) ?wa4 (fun K wq hS hK => ?ya4) ?ra4
            case ha4 => simp only [List.getElem?_toArray, List.getElem?_cons_succ, List.getElem?_cons_zero]; rfl
            case wa4 => rfl
            case ya4 =>
              have HS := Lib.hid hS
              try dsimp only at hS
              go_simp
              exact hK.out _ HS.out
            try simp only [Act.put, List.setIfInBounds_toArray, List.set_cons_zero, List.set_cons_succ]
            refine seq_op 5 (oi := ?oa5) (v := ?va5) ?ha5 (by kernel_rfl) (by kernel_rfl) (by kernel_rfl) (fun _ _ _ h => h) ?wa5 (fun K wq hS hK => ?ya5) ?ra5
            case ha5 => simp only [List.getElem?_toArray, List.getElem?_cons_succ, List.getElem?_cons_zero]; rfl
            case wa5 => rfl
            case ya5 =>
              have HS := Lib.hid hS
              try dsimp only at hS
              go_simp
              exact hK.out _ HS.out
            try simp only [Act.put, List.setIfInBounds_toArray, List.set_cons_zero, List.set_cons_succ]
            refine seq_op 6 (oi := ?oa6) (v := ?va6) ?ha6 (by kernel_rfl) (by kernel_rfl) (by kernel_rfl) (fun _ _ _ h => h) ?wa6 (fun K wq hS hK => ?ya6) ?ra6
            case ha6 => simp only [List.getElem?_toArray, List.getElem?_cons_succ, List.getElem?_cons_zero]; rfl
            case wa6 => rfl
            case ya6 =>
              have HS := Lib.hid hS
              try dsimp only at hS
              go_simp
              exact hK.out _ HS.out
            try simp only [Act.put, List.setIfInBounds_toArray, List.set_cons_zero, List.set_cons_succ]
            refine seq_op 7 (oi := ?oa7) (v := ?va7) ?ha7 (by kernel_rfl) (by kernel_rfl) (by kernel_rfl) (fun _ _ _ h => h) ?wa7 (fun K wq hS hK => ?ya7) ?ra7
            case ha7 => simp only [List.getElem?_toArray, List.getElem?_cons_succ, List.getElem?_cons_zero]; rfl
            case wa7 => rfl
            case ya7 =>
              have HS := Lib.hid hS
              have cc := HCE.out _ hS.2
              clear hS
              go_simp
              have hS2 := HS.out
              exact hK.out _ hS2
            try simp only [Act.put, List.setIfInBounds_toArray, List.set_cons_zero, List.set_cons_succ]
            refine seq_op 8 (oi := ?oa8) (v := ?va8) ?ha8 (by kernel_rfl) (by kernel_rfl) (by kernel_rfl) (fun _ _ _ h => h) ?wa8 (fun K wq hS hK => ?ya8) ?ra8
            case ha8 => simp only [List.getElem?_toArray, List.getElem?_cons_succ, List.getElem?_cons_zero]; rfl
            case wa8 => rfl
            case ya8 =>
              have HS := Lib.hid hS
              try dsimp only at hS
              go_simp
              exact hK.out _ HS.out
            try simp only [Act.put, List.setIfInBounds_toArray, List.set_cons_zero, List.set_cons_succ]
            refine seq_op 9 (oi := ?oa9) (v := ?va9) ?ha9 (by kernel_rfl) (by kernel_rfl) (by kernel_rfl) (fun _ _ _ h => h) ?wa9 (fun K wq hS hK => ?ya9) ?ra9
            case ha9 => simp only [List.getElem?_toArray, List.getElem?_cons_succ, List.getElem?_cons_zero]; rfl
            case wa9 => rfl
            case ya9 =>
              have HS := Lib.hid hS
              try dsimp only at hS
              go_simp
              exact hK.out _ HS.out
            try simp only [Act.put, List.setIfInBounds_toArray, List.set_cons_zero, List.set_cons_succ]
            refine seq_op 10 (oi := ?oa10) (v := ?va10) ?ha10 (by kernel_rfl) (by kernel_rfl) (by kernel_rfl) (fun _ _ _ h => h) ?wa10 (fun K wq hS hK => ?ya10) ?ra10
            case ha10 => simp only [List.getElem?_toArray, List.getElem?_cons_succ, List.getElem?_cons_zero]; rfl
            case wa10 => rfl
            case ya10 =>
              have HS := Lib.hid hS
              try dsimp only at hS
              go_simp
              exact hK.out _ HS.out
            try simp only [Act.put, List.setIfInBounds_toArray, List.set_cons_zero, List.set_cons_succ]
            refine seq_op 11 (oi := ?oa11) (v := ?va11) ?ha11 (by kernel_rfl) (by kernel_rfl) (by kernel_rfl) (fun _ _ _ h => h) ?wa11 (fun K wq hS hK => ?ya11) ?ra11
            case ha11 => simp only [List.getElem?_toArray, List.getElem?_cons_succ, List.getElem?_cons_zero]; rfl
            case wa11 => rfl
            case ya11 =>
              have HS := Lib.hid hS
              try dsimp only at hS
              go_simp
              exact hK.out _ HS.out
            try simp only [Act.put, List.setIfInBounds_toArray, List.set_cons_zero, List.set_cons_succ]
            refine seq_op 12 (oi := ?oa12) (v := ?va12) ?ha12 (by kernel_rfl) (by kernel_rfl) (by kernel_rfl) (fun _ _ _ h => h) ?wa12 (fun K wq hS hK => ?ya12) ?ra12
            case ha12 => simp only [List.getElem?_toArray, List.getElem?_cons_succ, List.getElem?_cons_zero]; rfl
            case wa12 => rfl
            case ya12 =>
              have HS := Lib.hid hS
              try dsimp only at hS
              go_simp
              exact hK.out _ HS.out
            try simp only [Act.put, List.setIfInBounds_toArray, List.set_cons_zero, List.set_cons_succ]
            refine seq_op 13 (oi := ?oa13) (v := ?va13) ?ha13 (by kernel_rfl) (by kernel_rfl) (by kernel_rfl) (fun _ _ _ h => h) ?wa13 (fun K wq hS hK => ?ya13) ?ra13
            case ha13 => simp only [List.getElem?_toArray, List.getElem?_cons_succ, List.getElem?_cons_zero]; rfl
            case wa13 => rfl
            case ya13 =>
              have HS := Lib.hid hS
              have B := HKB.out _ hS.1
              have x0 := B.cell 0
              have x1 := B.cell 1
              have x2 := B.cell 2
              have x3 := B.cell 3
              have x4 := B.cell 4
              have x5 := B.cell 5
              clear hS B
              go_simp
              have hS2 := HS.out
              exact hK.out _ hS2
            try simp only [Act.put, List.setIfInBounds_toArray, List.set_cons_zero, List.set_cons_succ]
            refine seq_op 14 (oi := ?oa14) (v := ?va14) ?ha14 (by kernel_rfl) (by kernel_rfl) (by kernel_rfl) (fun _ _ _ h => h) ?wa14 (fun K wq hS hK => ?ya14) ?ra14
            case ha14 => simp only [List.getElem?_toArray, List.getElem?_cons_succ, List.getElem?_cons_zero]; rfl
            case wa14 => rfl
            case ya14 =>
              have HS := Lib.hid hS
              try dsimp only at hS
              go_simp
              exact hK.out _ HS.out
            try simp only [Act.put, List.setIfInBounds_toArray, List.set_cons_zero, List.set_cons_succ]
            refine seq_op 15 (oi := ?oa15) (v := ?va15) ?ha15 (by kernel_rfl) (by kernel_rfl) (by kernel_rfl) (fun _ _ _ h => h) ?wa15 (fun K wq hS hK => ?ya15) ?ra15
            case ha15 => simp only [List.getElem?_toArray, List.getElem?_cons_succ, List.getElem?_cons_zero]; rfl
            case wa15 => rfl
            case ya15 =>
              have HS := Lib.hid hS
              have HX := HA.out.keep hS.1
              clear hS
              go_simp
              refine (owner_any _ HX j).mono ?_
              rintro e w8 ⟨rfl, C8⟩
              have hS2 := And.intro (HS.out.1.trans C8) (C8.row HS.out.2 (fun h => h))
              rw [HG.out]
              exact hK.out _ hS2
            try simp only [Act.put, List.setIfInBounds_toArray, List.set_cons_zero, List.set_cons_succ]
            refine seq_op 16 (oi := ?oa16) (v := ?va16) ?ha16 (by kernel_rfl) (by kernel_rfl) (by kernel_rfl) (fun _ _ _ h => h) ?wa16 (fun K wq hS hK => ?ya16) ?ra16
            case ha16 => simp only [List.getElem?_toArray, List.getElem?_cons_succ, List.getElem?_cons_zero]; rfl
            case wa16 => rfl
            case ya16 =>
              have HS := Lib.hid hS
              try dsimp only at hS
              go_simp
              exact hK.out _ HS.out
            try simp only [Act.put, List.setIfInBounds_toArray, List.set_cons_zero, List.set_cons_succ]
            refine seq_op 17 (oi := ?oa17) (v := ?va17) ?ha17 (by kernel_rfl) (by kernel_rfl) (by kernel_rfl) (fun _ _ _ h => h) ?wa17 (fun K wq hS hK => ?ya17) ?ra17
            case ha17 => simp only [List.getElem?_toArray, List.getElem?_cons_succ, List.getElem?_cons_zero]; rfl
            case wa17 => rfl
            case ya17 =>
              have HS := Lib.hid hS
              try dsimp only at hS
              go_simp
              exact hK.out _ HS.out
            try simp only [Act.put, List.setIfInBounds_toArray, List.set_cons_zero, List.set_cons_succ]
            refine seq_op 18 (oi := ?oa18) (v := ?va18) ?ha18 (by kernel_rfl) (by kernel_rfl) (by kernel_rfl) (fun _ _ _ h => h) ?wa18 (fun K wq hS hK => ?ya18) ?ra18
            case ha18 => simp only [List.getElem?_toArray, List.getElem?_cons_succ, List.getElem?_cons_zero]; rfl
            case wa18 => rfl
            case ya18 =>
              have HS := Lib.hid hS
              try dsimp only at hS
              go_simp
              exact hK.out _ HS.out
            try simp only [Act.put, List.setIfInBounds_toArray, List.set_cons_zero, List.set_cons_succ]
            refine seq_done (by kernel_rfl) (fun wz hSz => ?_) _
            refine NoPanic.normal ?_
            go_wp2_with fail
            go_roundw
            case rel => exact ⟨j + 1, by omega, by go_num, hSz.1, hSz.2⟩
            case measure => simp [intOf]; omega
          · have q4 : decide ((j : Int) < 4) = false := by exact decide_eq_false (by omega)
            have HG := Lib.hid h2
            rw [h3] at HCE
            clear h2 h3
            have qq0 : decide ((0 : Int) ≤ (qq : Int)) = true := decide_eq_true (by omega)
            refine wp_region_noPanic ?_
            refine seq_begin (fun w' => Chg w0 w' (fun _ => False) ∧ w'.rowIs q 4 257 (fun h => .bool (markB (psum C.parts C.parts.length) h))) (by kernel_rfl) (And.intro Cj.drew Rj.drew) ?_
            refine seq_op 0 (oi := ?ob0) (v := ?vb0) ?hb0 (by kernel_rfl) (by kernel_rfl) (by kernel_rfl) (fun _ _ _ h => h) ?wb0 (fun K wq hS hK => ?yb0) ?rb0
            case hb0 => simp only [List.getElem?_toArray, List.getElem?_cons_succ, List.getElem?_cons_zero]; rfl
            case wb0 => rfl
            case yb0 =>
              have HS := Lib.hid hS
              have B := HKB.out _ hS.1
              have x0 := B.cell 0
              have x1 := B.cell 1
              have x2 := B.cell 2
              have x3 := B.cell 3
              have x4 := B.cell 4
              have x5 := B.cell 5
              clear hS B
              go_simp
              have hS2 := HS.out
              exact hK.out _ hS2
            try simp only [Act.put, List.setIfInBounds_toArray, List.set_cons_zero, List.set_cons_succ]
            refine seq_op 1 (oi := ?ob1) (v := ?vb1) ?hb1 (by kernel_rfl) (by kernel_rfl) (by kernel_rfl) (fun _ _ _ h => h) ?wb1 (fun K wq hS hK => ?yb1) ?rb1
            case hb1 => simp only [List.getElem?_toArray, List.getElem?_cons_succ, List.getElem?_cons_zero]; rfl
            case wb1 => rfl
            case yb1 =>
              have HS := Lib.hid hS
              try dsimp only at hS
              go_simp
              exact hK.out _ HS.out
            try simp only [Act.put, List.setIfInBounds_toArray, List.set_cons_zero, List.set_cons_succ]
            refine seq_op 2 (oi := ?ob2) (v := ?vb2) ?hb2 (by kernel_rfl) (by kernel_rfl) (by kernel_rfl) (fun _ _ _ h => h) ?wb2 (fun K wq hS hK => ?yb2) ?rb2
            case hb2 => simp only [List.getElem?_toArray, List.getElem?_cons_succ, List.getElem?_cons_zero]; rfl
            case wb2 => rfl
            case yb2 =>
              have HS := Lib.hid hS
              have HX := HA.out.keep hS.1
              clear hS
              go_simp
              refine (owner_any _ HX j).mono ?_
              rintro e w8 ⟨rfl, C8⟩
              have hS2 := And.intro (HS.out.1.trans C8) (C8.row HS.out.2 (fun h => h))
              rw [HG.out]
              exact hK.out _ hS2
            try simp only [Act.put, List.setIfInBounds_toArray, List.set_cons_zero, List.set_cons_succ]
            refine seq_op 3 (oi := ?ob3) (v := ?vb3) ?hb3 (by kernel_rfl) (by kernel_rfl) (by kernel_rfl) (fun _ _ _ h => h) ?wb3 (fun K wq hS hK => ?yb3) ?rb3
            case hb3 => simp only [List.getElem?_toArray, List.getElem?_cons_succ, List.getElem?_cons_zero]; rfl
            case wb3 => rfl
            case yb3 =>
              have HS := Lib.hid hS
              try dsimp only at hS
              go_simp
              exact hK.out _ HS.out
            try simp only [Act.put, List.setIfInBounds_toArray, List.set_cons_zero, List.set_cons_succ]
            refine seq_op 4 (oi := ?ob4) (v := ?vb4) ?hb4 (by kernel_rfl) (by kernel_rfl) (by kernel_rfl) (fun _ _ _ h => h) ?wb4 (fun K wq hS hK => ?yb4) ?rb4
            case hb4 => simp only [List.getElem?_toArray, List.getElem?_cons_succ, List.getElem?_cons_zero]; rfl
            case wb4 => rfl
            case yb4 =>
              have HS := Lib.hid hS
              try dsimp only at hS
              go_simp
              exact hK.out _ HS.out
            try simp only [Act.put, List.setIfInBounds_toArray, List.set_cons_zero, List.set_cons_succ]
            refine seq_op 5 (oi := ?ob5) (v := ?vb5) ?hb5 (by kernel_rfl) (by kernel_rfl) (by kernel_rfl) (fun _ _ _ h => h) ?wb5 (fun K wq hS hK => ?yb5) ?rb5
            case hb5 => simp only [List.getElem?_toArray, List.getElem?_cons_succ, List.getElem?_cons_zero]; rfl
            case wb5 => rfl
            case yb5 =>
              have HS := Lib.hid hS
              try dsimp only at hS
              go_simp
              exact hK.out _ HS.out
            try simp only [Act.put, List.setIfInBounds_toArray, List.set_cons_zero, List.set_cons_succ]
            refine seq_op 6 (oi := ?ob6) (v := ?vb6) ?hb6 (by kernel_rfl) (by kernel_rfl) (by kernel_rfl) (fun _ _ _ h => h) ?wb6 (fun K wq hS hK => ?yb6) ?rb6
            case hb6 => simp only [List.getElem?_toArray, List.getElem?_cons_succ, List.getElem?_cons_zero]; rfl
            case wb6 => rfl
            case yb6 =>
              have HS := Lib.hid hS
              try dsimp only at hS
              go_simp
              exact hK.out _ HS.out
            try simp only [Act.put, List.setIfInBounds_toArray, List.set_cons_zero, List.set_cons_succ]
            refine seq_op 7 (oi := ?ob7) (v := ?vb7) ?hb7 (by kernel_rfl) (by kernel_rfl) (by kernel_rfl) (fun _ _ _ h => h) ?wb7 (fun K wq hS hK => ?yb7) ?rb7
            case hb7 => simp only [List.getElem?_toArray, List.getElem?_cons_succ, List.getElem?_cons_zero]; rfl
            case wb7 => rfl
            case yb7 =>
              have HS := Lib.hid hS
              have cc := HCE.out _ hS.2
              clear hS
              go_simp
              have hS2 := HS.out
              exact hK.out _ hS2
            try simp only [Act.put, List.setIfInBounds_toArray, List.set_cons_zero, List.set_cons_succ]
            refine seq_op 8 (oi := ?ob8) (v := ?vb8) ?hb8 (by kernel_rfl) (by kernel_rfl) (by kernel_rfl) (fun _ _ _ h => h) ?wb8 (fun K wq hS hK => ?yb8) ?rb8
            case hb8 => simp only [List.getElem?_toArray, List.getElem?_cons_succ, List.getElem?_cons_zero]; rfl
            case wb8 => rfl
            case yb8 =>
              have HS := Lib.hid hS
              try dsimp only at hS
              go_simp
              exact hK.out _ HS.out
            try simp only [Act.put, List.setIfInBounds_toArray, List.set_cons_zero, List.set_cons_succ]
            refine seq_op 9 (oi := ?ob9) (v := ?vb9) ?hb9 (by kernel_rfl) (by kernel_rfl) (by kernel_rfl) (fun _ _ _ h => h) ?wb9 (fun K wq hS hK => ?yb9) ?rb9
            case hb9 => simp only [List.getElem?_toArray, List.getElem?_cons_succ, List.getElem?_cons_zero]; rfl
            case wb9 => rfl
            case yb9 =>
              have HS := Lib.hid hS
              try dsimp only at hS
              go_simp
              exact hK.out _ HS.out
            try simp only [Act.put, List.setIfInBounds_toArray, List.set_cons_zero, List.set_cons_succ]
            refine seq_op 10 (oi := ?ob10) (v := ?vb10) ?hb10 (by kernel_rfl) (by kernel_rfl) (by kernel_rfl) (fun _ _ _ h => h) ?wb10 (fun K wq hS hK => ?yb10) ?rb10
            case hb10 => simp only [List.getElem?_toArray, List.getElem?_cons_succ, List.getElem?_cons_zero]; rfl
            case wb10 => rfl
            case yb10 =>
              have HS := Lib.hid hS
              try dsimp only at hS
              go_simp
              exact hK.out _ HS.out
            try simp only [Act.put, List.setIfInBounds_toArray, List.set_cons_zero, List.set_cons_succ]
            refine seq_op 11 (oi := ?ob11) (v := ?vb11) ?hb11 (by kernel_rfl) (by kernel_rfl) (by kernel_rfl) (fun _ _ _ h => h) ?wb11 (fun K wq hS hK => ?yb11) ?rb11
            case hb11 => simp only [List.getElem?_toArray, List.getElem?_cons_succ, List.getElem?_cons_zero]; rfl
            case wb11 => rfl
            case yb11 =>
              have HS := Lib.hid hS
              try dsimp only at hS
              go_simp
              exact hK.out _ HS.out
            try simp only [Act.put, List.setIfInBounds_toArray, List.set_cons_zero, List.set_cons_succ]
            refine seq_op 12 (oi := ?ob12) (v := ?vb12) ?hb12 (by kernel_rfl) (by kernel_rfl) (by kernel_rfl) (fun _ _ _ h => h) ?wb12 (fun K wq hS hK => ?yb12) ?rb12
            case hb12 => simp only [List.getElem?_toArray, List.getElem?_cons_succ, List.getElem?_cons_zero]; rfl
            case wb12 => rfl
            case yb12 =>
              have HS := Lib.hid hS
              try dsimp only at hS
              go_simp
              exact hK.out _ HS.out
            try simp only [Act.put, List.setIfInBounds_toArray, List.set_cons_zero, List.set_cons_succ]
            refine seq_skip 13 (oi := ?ob13) ?hb13 (by kernel_rfl) (by kernel_rfl) (by kernel_rfl) (fun _ _ _ h => h) ?wb13 ?rb13
            case hb13 => simp only [List.getElem?_toArray, List.getElem?_cons_succ, List.getElem?_cons_zero]; rfl
            case wb13 => rfl
            try simp only [Act.put, List.setIfInBounds_toArray, List.set_cons_zero, List.set_cons_succ]
            refine seq_skip 14 (oi := ?ob14) ?hb14 (by kernel_rfl) (by kernel_rfl) (by kernel_rfl) (fun _ _ _ h => h) ?wb14 ?rb14
            case hb14 => simp only [List.getElem?_toArray, List.getElem?_cons_succ, List.getElem?_cons_zero]; rfl
            case wb14 => rfl
            try simp only [Act.put, List.setIfInBounds_toArray, List.set_cons_zero, List.set_cons_succ]
            refine seq_skip 15 (oi := ?ob15) ?hb15 (by kernel_rfl) (by kernel_rfl) (by kernel_rfl) (fun _ _ _ h => h) ?wb15 ?rb15
            case hb15 => simp only [List.getElem?_toArray, List.getElem?_cons_succ, List.getElem?_cons_zero]; rfl
            case wb15 => rfl
            try simp only [Act.put, List.setIfInBounds_toArray, List.set_cons_zero, List.set_cons_succ]
            refine seq_skip 16 (oi := ?ob16) ?hb16 (by kernel_rfl) (by kernel_rfl) (by kernel_rfl) (fun _ _ _ h => h) ?wb16 ?rb16
            case hb16 => simp only [List.getElem?_toArray, List.getElem?_cons_succ, List.getElem?_cons_zero]; rfl
            case wb16 => rfl
            try simp only [Act.put, List.setIfInBounds_toArray, List.set_cons_zero, List.set_cons_succ]
            refine seq_op 17 (oi := ?ob17) (v := ?vb17) ?hb17 (by kernel_rfl) (by kernel_rfl) (by kernel_rfl) (fun _ _ _ h => h) ?wb17 (fun K wq hS hK => ?yb17) ?rb17
            case hb17 => simp only [List.getElem?_toArray, List.getElem?_cons_succ, List.getElem?_cons_zero]; rfl
            case wb17 => rfl
            case yb17 =>
              have HS := Lib.hid hS
              try dsimp only at hS
              go_simp
              exact hK.out _ HS.out
            try simp only [Act.put, List.setIfInBounds_toArray, List.set_cons_zero, List.set_cons_succ]
            refine seq_op 18 (oi := ?ob18) (v := ?vb18) ?hb18 (by kernel_rfl) (by kernel_rfl) (by kernel_rfl) (fun _ _ _ h => h) ?wb18 (fun K wq hS hK => ?yb18) ?rb18
            case hb18 => simp only [List.getElem?_toArray, List.getElem?_cons_succ, List.getElem?_cons_zero]; rfl
            case wb18 => rfl
            case yb18 =>
              have HS := Lib.hid hS
              try dsimp only at hS
              go_simp
              exact hK.out _ HS.out
            try simp only [Act.put, List.setIfInBounds_toArray, List.set_cons_zero, List.set_cons_succ]
            refine seq_done (by kernel_rfl) (fun wz hSz => ?_) _
            refine NoPanic.normal ?_
            go_wp2_with fail
            go_roundw
            case rel => exact ⟨j + 1, by omega, by go_num, hSz.1, hSz.2⟩
            case measure => simp [intOf]; omega
          · have q4 : decide ((j : Int) < 4) = false := by exact decide_eq_false (by omega)
            have HG := Lib.hid h2
            rw [h3] at HCE
            clear h2 h3
            refine wp_region_noPanic ?_
            refine seq_begin (fun w' => Chg w0 w' (fun _ => False) ∧ w'.rowIs q 4 257 (fun h => .bool (markB (psum C.parts C.parts.length) h))) (by kernel_rfl) (And.intro Cj.drew Rj.drew) ?_
            refine seq_op 0 (oi := ?oc0) (v := ?vc0) ?hc0 (by kernel_rfl) (by kernel_rfl) (by kernel_rfl) (fun _ _ _ h => h) ?wc0 (fun K wq hS hK => ?yc0) ?rc0
            case hc0 => simp only [List.getElem?_toArray, List.getElem?_cons_succ, List.getElem?_cons_zero]; rfl
            case wc0 => rfl
            case yc0 =>
              have HS := Lib.hid hS
              have B := HKB.out _ hS.1
              have x0 := B.cell 0
              have x1 := B.cell 1
              have x2 := B.cell 2
              have x3 := B.cell 3
              have x4 := B.cell 4
              have x5 := B.cell 5
              clear hS B
              go_simp
              have hS2 := HS.out
              exact hK.out _ hS2
            try simp only [Act.put, List.setIfInBounds_toArray, List.set_cons_zero, List.set_cons_succ]
            refine seq_op 1 (oi := ?oc1) (v := ?vc1) ?hc1 (by kernel_rfl) (by kernel_rfl) (by kernel_rfl) (fun _ _ _ h => h) ?wc1 (fun K wq hS hK => ?yc1) ?rc1
            case hc1 => simp only [List.getElem?_toArray, List.getElem?_cons_succ, List.getElem?_cons_zero]; rfl
            case wc1 => rfl
            case yc1 =>
              have HS := Lib.hid hS
              try dsimp only at hS
              go_simp
              exact hK.out _ HS.out
            try simp only [Act.put, List.setIfInBounds_toArray, List.set_cons_zero, List.set_cons_succ]
            refine seq_op 2 (oi := ?oc2) (v := ?vc2) ?hc2 (by kernel_rfl) (by kernel_rfl) (by kernel_rfl) (fun _ _ _ h => h) ?wc2 (fun K wq hS hK => ?yc2) ?rc2
            case hc2 => simp only [List.getElem?_toArray, List.getElem?_cons_succ, List.getElem?_cons_zero]; rfl
            case wc2 => rfl
            case yc2 =>
              have HS := Lib.hid hS
              have HX := HA.out.keep hS.1
              clear hS
              go_simp
              refine (owner_any _ HX j).mono ?_
              rintro e w8 ⟨rfl, C8⟩
              have hS2 := And.intro (HS.out.1.trans C8) (C8.row HS.out.2 (fun h => h))
              rw [HG.out]
              exact hK.out _ hS2
            try simp only [Act.put, List.setIfInBounds_toArray, List.set_cons_zero, List.set_cons_succ]
            refine seq_op 3 (oi := ?oc3) (v := ?vc3) ?hc3 (by kernel_rfl) (by kernel_rfl) (by kernel_rfl) (fun _ _ _ h => h) ?wc3 (fun K wq hS hK => ?yc3) ?rc3
            case hc3 => simp only [List.getElem?_toArray, List.getElem?_cons_succ, List.getElem?_cons_zero]; rfl
            case wc3 => rfl
            case yc3 =>
              have HS := Lib.hid hS
              try dsimp only at hS
              go_simp
              exact hK.out _ HS.out
            try simp only [Act.put, List.setIfInBounds_toArray, List.set_cons_zero, List.set_cons_succ]
            refine seq_op 4 (oi := ?oc4) (v := ?vc4) ?hc4 (by kernel_rfl) (by kernel_rfl) (by kernel_rfl) (fun _ _ _ h => h) ?wc4 (fun K wq hS hK => ?yc4) ?rc4
            case hc4 => simp only [List.getElem?_toArray, List.getElem?_cons_succ, List.getElem?_cons_zero]; rfl
            case wc4 => rfl
            case yc4 =>
              have HS := Lib.hid hS
              try dsimp only at hS
              go_simp
              exact hK.out _ HS.out
            try simp only [Act.put, List.setIfInBounds_toArray, List.set_cons_zero, List.set_cons_succ]
            refine seq_op 5 (oi := ?oc5) (v := ?vc5) ?hc5 (by kernel_rfl) (by kernel_rfl) (by kernel_rfl) (fun _ _ _ h => h) ?wc5 (fun K wq hS hK => ?yc5) ?rc5
            case hc5 => simp only [List.getElem?_toArray, List.getElem?_cons_succ, List.getElem?_cons_zero]; rfl
            case wc5 => rfl
            case yc5 =>
              have HS := Lib.hid hS
              try dsimp only at hS
              go_simp
              exact hK.out _ HS.out
            try simp only [Act.put, List.setIfInBounds_toArray, List.set_cons_zero, List.set_cons_succ]
            refine seq_op 6 (oi := ?oc6) (v := ?vc6) ?hc6 (by kernel_rfl) (by kernel_rfl) (by kernel_rfl) (fun _ _ _ h => h) ?wc6 (fun K wq hS hK => ?yc6) ?rc6
            case hc6 => simp only [List.getElem?_toArray, List.getElem?_cons_succ, List.getElem?_cons_zero]; rfl
            case wc6 => rfl
            case yc6 =>
              have HS := Lib.hid hS
              try dsimp only at hS
              go_simp
              exact hK.out _ HS.out
            try simp only [Act.put, List.setIfInBounds_toArray, List.set_cons_zero, List.set_cons_succ]
            refine seq_op 7 (oi := ?oc7) (v := ?vc7) ?hc7 (by kernel_rfl) (by kernel_rfl) (by kernel_rfl) (fun _ _ _ h => h) ?wc7 (fun K wq hS hK => ?yc7) ?rc7
            case hc7 => simp only [List.getElem?_toArray, List.getElem?_cons_succ, List.getElem?_cons_zero]; rfl
            case wc7 => rfl
            case yc7 =>
              have HS := Lib.hid hS
              have cc := HCE.out _ hS.2
              clear hS
              go_simp
              have hS2 := HS.out
              exact hK.out _ hS2
            try simp only [Act.put, List.setIfInBounds_toArray, List.set_cons_zero, List.set_cons_succ]
            refine seq_op 8 (oi := ?oc8) (v := ?vc8) ?hc8 (by kernel_rfl) (by kernel_rfl) (by kernel_rfl) (fun _ _ _ h => h) ?wc8 (fun K wq hS hK => ?yc8) ?rc8
            case hc8 => simp only [List.getElem?_toArray, List.getElem?_cons_succ, List.getElem?_cons_zero]; rfl
            case wc8 => rfl
            case yc8 =>
              have HS := Lib.hid hS
              try dsimp only at hS
              go_simp
              exact hK.out _ HS.out
            try simp only [Act.put, List.setIfInBounds_toArray, List.set_cons_zero, List.set_cons_succ]
            refine seq_op 9 (oi := ?oc9) (v := ?vc9) ?hc9 (by kernel_rfl) (by kernel_rfl) (by kernel_rfl) (fun _ _ _ h => h) ?wc9 (fun K wq hS hK => ?yc9) ?rc9
            case hc9 => simp only [List.getElem?_toArray, List.getElem?_cons_succ, List.getElem?_cons_zero]; rfl
            case wc9 => rfl
            case yc9 =>
              have HS := Lib.hid hS
              try dsimp only at hS
              go_simp
              exact hK.out _ HS.out
            try simp only [Act.put, List.setIfInBounds_toArray, List.set_cons_zero, List.set_cons_succ]
            refine seq_op 10 (oi := ?oc10) (v := ?vc10) ?hc10 (by kernel_rfl) (by kernel_rfl) (by kernel_rfl) (fun _ _ _ h => h) ?wc10 (fun K wq hS hK => ?yc10) ?rc10
            case hc10 => simp only [List.getElem?_toArray, List.getElem?_cons_succ, List.getElem?_cons_zero]; rfl
            case wc10 => rfl
            case yc10 =>
              have HS := Lib.hid hS
              try dsimp only at hS
              go_simp
              exact hK.out _ HS.out
            try simp only [Act.put, List.setIfInBounds_toArray, List.set_cons_zero, List.set_cons_succ]
            refine seq_op 11 (oi := ?oc11) (v := ?vc11) ?hc11 (by kernel_rfl) (by kernel_rfl) (by kernel_rfl) (fun _ _ _ h => h) ?wc11 (fun K wq hS hK => ?yc11) ?rc11
            case hc11 => simp only [List.getElem?_toArray, List.getElem?_cons_succ, List.getElem?_cons_zero]; rfl
            case wc11 => rfl
            case yc11 =>
              have HS := Lib.hid hS
              try dsimp only at hS
              go_simp
              exact hK.out _ HS.out
            try simp only [Act.put, List.setIfInBounds_toArray, List.set_cons_zero, List.set_cons_succ]
            refine seq_op 12 (oi := ?oc12) (v := ?vc12) ?hc12 (by kernel_rfl) (by kernel_rfl) (by kernel_rfl) (fun _ _ _ h => h) ?wc12 (fun K wq hS hK => ?yc12) ?rc12
            case hc12 => simp only [List.getElem?_toArray, List.getElem?_cons_succ, List.getElem?_cons_zero]; rfl
            case wc12 => rfl
            case yc12 =>
              have HS := Lib.hid hS
              try dsimp only at hS
              go_simp
              exact hK.out _ HS.out
            try simp only [Act.put, List.setIfInBounds_toArray, List.set_cons_zero, List.set_cons_succ]
            refine seq_skip 13 (oi := ?oc13) ?hc13 (by kernel_rfl) (by kernel_rfl) (by kernel_rfl) (fun _ _ _ h => h) ?wc13 ?rc13
            case hc13 => simp only [List.getElem?_toArray, List.getElem?_cons_succ, List.getElem?_cons_zero]; rfl
            case wc13 => rfl
            try simp only [Act.put, List.setIfInBounds_toArray, List.set_cons_zero, List.set_cons_succ]
            refine seq_skip 14 (oi := ?oc14) ?hc14 (by kernel_rfl) (by kernel_rfl) (by kernel_rfl) (fun _ _ _ h => h) ?wc14 ?rc14
            case hc14 => simp only [List.getElem?_toArray, List.getElem?_cons_succ, List.getElem?_cons_zero]; rfl
            case wc14 => rfl
            try simp only [Act.put, List.setIfInBounds_toArray, List.set_cons_zero, List.set_cons_succ]
            refine seq_skip 15 (oi := ?oc15) ?hc15 (by kernel_rfl) (by kernel_rfl) (by kernel_rfl) (fun _ _ _ h => h) ?wc15 ?rc15
            case hc15 => simp only [List.getElem?_toArray, List.getElem?_cons_succ, List.getElem?_cons_zero]; rfl
            case wc15 => rfl
            try simp only [Act.put, List.setIfInBounds_toArray, List.set_cons_zero, List.set_cons_succ]
            refine seq_skip 16 (oi := ?oc16) ?hc16 (by kernel_rfl) (by kernel_rfl) (by kernel_rfl) (fun _ _ _ h => h) ?wc16 ?rc16
            case hc16 => simp only [List.getElem?_toArray, List.getElem?_cons_succ, List.getElem?_cons_zero]; rfl
            case wc16 => rfl
            try simp only [Act.put, List.setIfInBounds_toArray, List.set_cons_zero, List.set_cons_succ]
            refine seq_op 17 (oi := ?oc17) (v := ?vc17) ?hc17 (by kernel_rfl) (by kernel_rfl) (by kernel_rfl) (fun _ _ _ h => h) ?wc17 (fun K wq hS hK => ?yc17) ?rc17
            case hc17 => simp only [List.getElem?_toArray, List.getElem?_cons_succ, List.getElem?_cons_zero]; rfl
            case wc17 => rfl
            case yc17 =>
              have HS := Lib.hid hS
              try dsimp only at hS
              go_simp
              exact hK.out _ HS.out
            try simp only [Act.put, List.setIfInBounds_toArray, List.set_cons_zero, List.set_cons_succ]
            refine seq_op 18 (oi := ?oc18) (v := ?vc18) ?hc18 (by kernel_rfl) (by kernel_rfl) (by kernel_rfl) (fun _ _ _ h => h) ?wc18 (fun K wq hS hK => ?yc18) ?rc18
            case hc18 => simp only [List.getElem?_toArray, List.getElem?_cons_succ, List.getElem?_cons_zero]; rfl
            case wc18 => rfl
            case yc18 =>
              have HS := Lib.hid hS
              try dsimp only at hS
              go_simp
              exact hK.out _ HS.out
            try simp only [Act.put, List.setIfInBounds_toArray, List.set_cons_zero, List.set_cons_succ]
            refine seq_done (by kernel_rfl) (fun wz hSz => ?_) _
            refine NoPanic.normal ?_
            go_wp2_with fail
            go_roundw
            case rel => exact ⟨j + 1, by omega, by go_num, hSz.1, hSz.2⟩
            case measure => simp [intOf]; omega
        · have q9 : decide ((j : Int) < C.pages) = false := decide_eq_false hlj
          go_wp2_with fail
          go_ret
          exact ⟨rfl, (C0.trans Cj).below_of (Nat.le_refl _) (fun _ h => h.elim)⟩

set_option maxRecDepth 100000 in
theorem framesApart_walk : LawWalk 7 Try.f7 := by
  intro H enc W base args ds p hval hA
  rw [Try.params7] at hA hval
  obtain ⟨v0, d0, rfl, rfl, h0⟩ := trodAll_one hA
  obtain ⟨C, ap, ac, aw, cp, cc, cw, rfl, hC, _⟩ := open_cfg (hval 0 27 v0 rfl rfl) h0
  exact framesApart_any  W hC

set_option maxRecDepth 100000 in
theorem framesApart_lifted (os : Os) (started : os.Started) (H : Type) (enc : TypeId × Value → H) :
    ReturnsInHanded {} Try.checked os 7 .any (Rows.framesApartSpec.pre6 enc Try.prog Try.f7 Rows.framesApartRow.domain false) (Rows.framesApartSpec.post enc Try.prog Try.f7 false true false false) :=
  law_lifted (s := Rows.framesApartSpec) Try.func7 (by kernel_rfl) rfl (by kernel_rfl) (by kernel_rfl)
    (fun H ds h => by
      match ds, h with
      | [d0], _ => rfl)
    framesApart_walk os started H enc
    (ChangeSpec.witness6 (enc := enc) (C := Try.checked) false ⟨#[], #[.agg #[.int .i64 0, .int .i64 0, .int .i64 0, .slice none 0 0, .slice none 0 0, .slice none 0 0]], []⟩ 8 (by kernel_rfl) (by kernel_rfl) (by kernel_rfl) (by kernel_rfl))

set_option maxRecDepth 100000 in
/-- THE STATEMENT. -/
theorem framesApart_holds : Rows.FramesApartSaid :=
  OpenClaim.holds_of_wide 7 Try.f7 rfl rfl rfl rfl rfl rfl rfl ⟨rfl, rfl, rfl, rfl, rfl⟩ rfl rfl rfl rfl rfl (by kernel_rfl) Try.func7 (by kernel_rfl)
    (of_decide_eq_true (by kernel_rfl)) (by unfold Func.isWrapper; first | (rw [if_pos (by decide +kernel)]; kernel_rfl) | (rw [if_neg (by decide +kernel)]; exact ⟨rfl, rfl⟩))
    (fun os started H enc _ => framesApart_lifted os started H enc)
#print axioms framesApart_holds
end Go.Proofs.Ytdhkbephofnfdaa

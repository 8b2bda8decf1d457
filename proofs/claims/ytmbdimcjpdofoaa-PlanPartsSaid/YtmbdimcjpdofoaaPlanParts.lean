/- PlanParts: that steps from a tick to a later one are those to a tick between and from there on, and those of all partitions are all steps that there are. No condition. -/
import Derived.Test.YtmbdimcjpdofoaaPlan4
import Derived.Test.YtmbdimcjpdofoaaPlanR
import Derived.Test.YtmbdimcjpdofoaaPlanLaw
import Derived.Test.YtmbdimcjpdofoaaPlanB2
import Derived.Test.YtmbdimcjpdofoaaBig
import Derived.Test.YtmbdimcjpdofoaaCfgArg
import Derived.Test.YtmbdimcjpdofoaaAlive15
import Derived.Test.YtmbdimcjpdofoaaSeq
import Derived.Test.YtmbdimcjpdofoaaRow
import Derived.Test.YtmbdimcjpdofoaaChkAt
namespace Go.Proofs.Ytmbdimcjpdofoaa
open Go.ChangeShapes Go.WideShapes Go.ChangeAt Go.RowKit

theorem steps_of {C : Cfg} (hc : chk C = 0) (part x y : Int) (h0 : 0 ≤ x) (h1 : x ≤ y) (h2 : y ≤ 1099511627776) : stepsV C part x y = uptoV C part y - uptoV C part x := by
  unfold stepsV
  rw [if_pos ⟨by rw [tickB_two, hc, show okT x = true from decide_eq_true (by omega), show okT y = true from decide_eq_true (by omega)]; rfl, h1⟩]
theorem tick_ok {C : Cfg} (hc : chk C = 0) (x : Int) (h0 : 0 ≤ x) (h2 : x ≤ 1099511627776) : tickB C [x] = true := by
  unfold tickB
  rw [hc, all_one, show okT x = true from decide_eq_true (by omega)]
  rfl
theorem stepSum_nn {C : Cfg} (hF : WFine C) {a : Int} (h0 : 0 ≤ a) (n : Nat) : ∀ m : Nat, (∀ j : Nat, j < m → tickB C [a + j] = true) → 0 ≤ stepSum C a (a + m) n
  | 0, _ => by
    have : ∀ n, stepSum C a (a + (0 : Nat)) n = 0 := by
      intro n
      induction n with
      | zero => rfl
      | succ n ih => unfold stepSum; rw [ih]; simp
    rw [this]
    exact Int.le_refl _
  | m + 1, h => by
    rw [show a + ((m + 1 : Nat) : Int) = a + m + 1 by omega, stepSum_succ hF a (by omega)]
    have := stepSum_nn hF h0 n m (fun j hj => h j (by omega))
    have := one_run hF (h m (by omega)) n
    omega
theorem stepSum_in {C : Cfg} (hF : WFine C) (hc : chk C = 0) (a d : Int) (h0 : 0 ≤ a) (h1 : a ≤ d) (h2 : d ≤ 274877906944) (n : Nat) : 0 ≤ stepSum C a d n ∧ stepSum C a d n ≤ d - a := by
  obtain ⟨m, hm⟩ := Int.eq_ofNat_of_zero_le (show 0 ≤ d - a by omega)
  have e : d = a + m := by omega
  have hj : ∀ j : Nat, j < m → tickB C [a + j] = true := fun j hj => tick_ok hc _ (by omega) (by omega)
  have x := stepSum_nn hF h0 n m hj
  have y := stepSum_le hF h0 n m hj
  rw [← e] at x y
  omega

set_option maxRecDepth 100000 in
set_option maxHeartbeats 4000000 in
theorem planParts_any {C : Cfg} {ap ac aw : Option Addr} {cp cc cw : Nat} (a b d : Int) (w : World) (h : CfgAt w C ap ac aw cp cc cw) :
    Calls Try.prog 3 #[.agg (cfgCells C ap ac aw cp cc cw), .int .i64 a, .int .i64 b, .int .i64 d] w fun e w' => e = .returned (.bool true) ∧ Below w.heap.size w w' := by
  have HB := Box.new w 26 (cfgCells C ap ac aw cp cc cw)
  have HA := h.keep ((Chg.refl w (fun _ => False)).alloc (.cells (cfgCells C ap ac aw cp cc cw) 26))
  obtain ⟨w0, hw0⟩ : ∃ w0, w.alloc (.cells (cfgCells C ap ac aw cp cc cw) 26) = w0 := ⟨_, rfl⟩
  have C0 : Chg w w0 (fun _ => False) := by rw [← hw0]; exact (Chg.refl _ _).alloc _
  rw [hw0] at HB HA
  unfold cfgCells at *
  go_enter Try.func3, Try.ntmps3
  go_wp2_with fail
  clear hw0
  refine (alive15 _).mono ?_
  rintro e w1 ⟨rfl, C1⟩
  have HKB : ∀ w', Chg w0 w' (fun _ => False) → Box w' w.heap.size 26 #[.int .i64 C.pages, .int .i64 C.major, .int .i64 C.switch, .slice ap C.parts.length cp, .slice ac C.chans.length cc, .slice aw C.wins.length cw] := fun w' c => HB.chg c (fun h => h)
  replace HKB := Lib.hid HKB
  replace HA := Lib.hid HA
  clear HB
  have B := HKB.out _ C1
  have x0 := B.cell 0
  have x1 := B.cell 1
  have x2 := B.cell 2
  have x3 := B.cell 3
  have x4 := B.cell 4
  have x5 := B.cell 5
  clear B
  go_wp2_with fail
  refine (big_any _ (HA.out.keep C1)).mono ?_
  rintro e w2 ⟨rfl, C2'⟩
  have C2 := C1.trans C2'
  clear x0 x1 x2 x3 x4 x5 C2'
  cases hbig : bigV C
  case true =>
    clear hbig
    go_wp2_with fail
    go_ret
    exact ⟨rfl, (C0.trans C2).below_of (Nat.le_refl _) (fun _ h => h.elim)⟩
  clear hbig
  have B := HKB.out _ C2
  have x0 := B.cell 0
  have x1 := B.cell 1
  have x2 := B.cell 2
  have x3 := B.cell 3
  have x4 := B.cell 4
  have x5 := B.cell 5
  clear B
  go_wp2_with fail
  refine (rcheck_any _ (HA.out.keep C2)).mono ?_
  rintro e w3 ⟨rfl, C3'⟩
  have C3 := C2.trans C3'
  clear x0 x1 x2 x3 x4 x5 C3'
  by_cases hchk : chk C = 0
  case neg =>
    have qc : (chk C != 0) = true := bne_iff_ne.2 hchk
    clear hchk
    go_wp2_with fail
    go_ret
    exact ⟨rfl, (C0.trans C3).below_of (Nat.le_refl _) (fun _ h => h.elim)⟩
  rw [hchk]
  by_cases g0 : a < 0
  case pos =>
    have q0 : decide (a < 0) = true := decide_eq_true g0
    clear g0 hchk
    go_wp2_with fail
    go_ret
    exact ⟨rfl, (C0.trans C3).below_of (Nat.le_refl _) (fun _ h => h.elim)⟩
  have q0 : decide (a < 0) = false := decide_eq_false g0
  have b0 : 0 ≤ a := by omega
  clear g0
  by_cases g1 : b < a
  case pos =>
    have q1 : decide (b < a) = true := decide_eq_true g1
    clear g1 hchk
    go_wp2_with fail
    go_ret
    exact ⟨rfl, (C0.trans C3).below_of (Nat.le_refl _) (fun _ h => h.elim)⟩
  have q1 : decide (b < a) = false := decide_eq_false g1
  have b1 : a ≤ b := by omega
  clear g1
  by_cases g2 : d < b
  case pos =>
    have q2 : decide (d < b) = true := decide_eq_true g2
    clear g2 hchk
    go_wp2_with fail
    go_ret
    exact ⟨rfl, (C0.trans C3).below_of (Nat.le_refl _) (fun _ h => h.elim)⟩
  have q2 : decide (d < b) = false := decide_eq_false g2
  have b2 : b ≤ d := by omega
  clear g2
  by_cases g3 : 274877906944 < d
  case pos =>
    have q3 : decide (274877906944 < d) = true := decide_eq_true g3
    clear g3 hchk
    go_wp2_with fail
    go_ret
    exact ⟨rfl, (C0.trans C3).below_of (Nat.le_refl _) (fun _ h => h.elim)⟩
  have q3 : decide (274877906944 < d) = false := decide_eq_false g3
  have b3 : d ≤ 274877906944 := by omega
  clear g3
  have HF := Lib.hid (chk_wins hchk)
  have HCK := Lib.hid hchk
  clear hchk
  have hpm1 := HA.out.ps.mx
  have hpm2 := HA.out.ps.le
  unfold maxLen at hpm1
  have HIN := Lib.hid (fun n => stepSum_in HF.out HCK.out a d b0 (by omega) b3 n)
  go_wp2_with fail
  go_loopw [11, 12] (fun n i wr => ∃ k : Nat, k ≤ C.parts.length ∧ i = .int .i64 k ∧ n = .int .i64 (stepSum C a d k) ∧ Chg w0 wr (fun _ => False)) (fun _ i _ => C.parts.length - (intOf i).toNat)
  case atStart => exact ⟨0, by omega, rfl, rfl, C3⟩
  case round =>
    obtain ⟨k, hk, rfl, rfl, Ck⟩ := hrel
    have hs0 := HIN.out k
    obtain ⟨hs1, hs2⟩ := hs0
    have B := HKB.out _ Ck
    have x0 := B.cell 0
    have x1 := B.cell 1
    have x2 := B.cell 2
    have x3 := B.cell 3
    have x4 := B.cell 4
    have x5 := B.cell 5
    clear B
    by_cases hlt : k < C.parts.length
    · have hs3 := HIN.out (k + 1)
      have hst : stepSum C a d (k + 1) = stepSum C a d k + stepsV C k a d := by rw [steps_of HCK.out k a d b0 (by omega) (by omega)]; rfl
      have e1 := steps_of HCK.out k a d b0 (by omega) (by omega)
      have e2 := steps_of HCK.out k a b b0 b1 (by omega)
      have e3 := steps_of HCK.out k b d (by omega) b2 (by omega)
      have ua := uptoV_le HF.out k b0 (show a ≤ 1099511627776 by omega)
      have ub := uptoV_le HF.out k (show 0 ≤ b by omega) (show b ≤ 1099511627776 by omega)
      have ud := uptoV_le HF.out k (show 0 ≤ d by omega) (show d ≤ 1099511627776 by omega)
      obtain ⟨s2, h2⟩ : ∃ s2, stepsV C k a b = s2 := ⟨_, rfl⟩
      obtain ⟨s3, h3⟩ : ∃ s3, stepsV C k b d = s3 := ⟨_, rfl⟩
      have h1 : stepsV C k a d = s2 + s3 := by omega
      rw [h1] at hst
      rw [hst] at hs3
      rw [h2] at e2
      rw [h3] at e3
      obtain ⟨hs5, hs6⟩ := hs3
      have r2 : -3518437208886400000 ≤ s2 ∧ s2 ≤ 3518437208886400000 := by omega
      have r3 : -3518437208886400000 ≤ s3 ∧ s3 ≤ 3518437208886400000 := by omega
      obtain ⟨r21, r22⟩ := r2
      obtain ⟨r31, r32⟩ := r3
      have yw : IntKind.i64.wrap (s2 + s3) = s2 + s3 := IntWalk.i64_in _ (by omega)
      have H1 := Lib.hid h1
      have H2 := Lib.hid h2
      have H3 := Lib.hid h3
      have HST := Lib.hid hst
      obtain ⟨sk, hsk⟩ : ∃ sk, stepSum C a d k = sk := ⟨_, rfl⟩
      rw [hsk] at hs1 hs2 hs5 hs6 HST ⊢
      clear h1 h2 h3 e1 e2 e3 ua ub ud hst hsk
      go_wp2_with fail
      refine wp_region_noPanic ?_
      refine seq_begin (fun w' => Chg w0 w' (fun _ => False)) (by kernel_rfl) (Ck.drew) ?_
      refine seq_op 0 (oi := ?oq0) (v := ?vq0) ?hq0 (by kernel_rfl) (by kernel_rfl) (by kernel_rfl) (fun _ _ _ h => h) ?wq0 (fun K wq hS hK => ?yq0) ?rq0
      case hq0 => simp only [List.getElem?_toArray, List.getElem?_cons_succ, List.getElem?_cons_zero]; rfl
      case wq0 => rfl
      case yq0 =>
        have HS := Lib.hid hS
        have B := HKB.out _ hS
        have x0 := B.cell 0
        have x1 := B.cell 1
        have x2 := B.cell 2
        have x3 := B.cell 3
        have x4 := B.cell 4
        have x5 := B.cell 5
        clear hS B
        go_simp
        have hS2 := HS.out
        exact hK.out _ hS2
      try simp only [Act.put, List.setIfInBounds_toArray, List.set_cons_zero, List.set_cons_succ]
      refine seq_op 1 (oi := ?oq1) (v := ?vq1) ?hq1 (by kernel_rfl) (by kernel_rfl) (by kernel_rfl) (fun _ _ _ h => h) ?wq1 (fun K wq hS hK => ?yq1) ?rq1
      case hq1 => simp only [List.getElem?_toArray, List.getElem?_cons_succ, List.getElem?_cons_zero]; rfl
      case wq1 => rfl
      case yq1 =>
        have HS := Lib.hid hS
        try dsimp only at hS
        go_simp
        exact hK.out _ HS.out
      try simp only [Act.put, List.setIfInBounds_toArray, List.set_cons_zero, List.set_cons_succ]
      refine seq_op 2 (oi := ?oq2) (v := ?vq2) ?hq2 (by kernel_rfl) (by kernel_rfl) (by kernel_rfl) (fun _ _ _ h => h) ?wq2 (fun K wq hS hK => ?yq2) ?rq2
      case hq2 => simp only [List.getElem?_toArray, List.getElem?_cons_succ, List.getElem?_cons_zero]; rfl
      case wq2 => rfl
      case yq2 =>
        have HS := Lib.hid hS
        try dsimp only at hS
        go_simp
        exact hK.out _ HS.out
      try simp only [Act.put, List.setIfInBounds_toArray, List.set_cons_zero, List.set_cons_succ]
      refine seq_op 3 (oi := ?oq3) (v := ?vq3) ?hq3 (by kernel_rfl) (by kernel_rfl) (by kernel_rfl) (fun _ _ _ h => h) ?wq3 (fun K wq hS hK => ?yq3) ?rq3
      case hq3 => simp only [List.getElem?_toArray, List.getElem?_cons_succ, List.getElem?_cons_zero]; rfl
      case wq3 => rfl
      case yq3 =>
        have HS := Lib.hid hS
        try dsimp only at hS
        go_simp
        exact hK.out _ HS.out
      try simp only [Act.put, List.setIfInBounds_toArray, List.set_cons_zero, List.set_cons_succ]
      refine seq_op 4 (oi := ?oq4) (v := ?vq4) ?hq4 (by kernel_rfl) (by kernel_rfl) (by kernel_rfl) (fun _ _ _ h => h) ?wq4 (fun K wq hS hK => ?yq4) ?rq4
      case hq4 => simp only [List.getElem?_toArray, List.getElem?_cons_succ, List.getElem?_cons_zero]; rfl
      case wq4 => rfl
      case yq4 =>
        have HS := Lib.hid hS
        have HX := HA.out.keep hS
        clear hS
        go_simp
        refine (steps_any _ HX k a d).mono ?_
        rintro e w8 ⟨rfl, C8⟩
        have hS2 := HS.out.trans C8
        rw [H1.out]
        exact hK.out _ hS2
      try simp only [Act.put, List.setIfInBounds_toArray, List.set_cons_zero, List.set_cons_succ]
      refine seq_op 5 (oi := ?oq5) (v := ?vq5) ?hq5 (by kernel_rfl) (by kernel_rfl) (by kernel_rfl) (fun _ _ _ h => h) ?wq5 (fun K wq hS hK => ?yq5) ?rq5
      case hq5 => simp only [List.getElem?_toArray, List.getElem?_cons_succ, List.getElem?_cons_zero]; rfl
      case wq5 => rfl
      case yq5 =>
        have HS := Lib.hid hS
        have B := HKB.out _ hS
        have x0 := B.cell 0
        have x1 := B.cell 1
        have x2 := B.cell 2
        have x3 := B.cell 3
        have x4 := B.cell 4
        have x5 := B.cell 5
        clear hS B
        go_simp
        have hS2 := HS.out
        exact hK.out _ hS2
      try simp only [Act.put, List.setIfInBounds_toArray, List.set_cons_zero, List.set_cons_succ]
      refine seq_op 6 (oi := ?oq6) (v := ?vq6) ?hq6 (by kernel_rfl) (by kernel_rfl) (by kernel_rfl) (fun _ _ _ h => h) ?wq6 (fun K wq hS hK => ?yq6) ?rq6
      case hq6 => simp only [List.getElem?_toArray, List.getElem?_cons_succ, List.getElem?_cons_zero]; rfl
      case wq6 => rfl
      case yq6 =>
        have HS := Lib.hid hS
        try dsimp only at hS
        go_simp
        exact hK.out _ HS.out
      try simp only [Act.put, List.setIfInBounds_toArray, List.set_cons_zero, List.set_cons_succ]
      refine seq_op 7 (oi := ?oq7) (v := ?vq7) ?hq7 (by kernel_rfl) (by kernel_rfl) (by kernel_rfl) (fun _ _ _ h => h) ?wq7 (fun K wq hS hK => ?yq7) ?rq7
      case hq7 => simp only [List.getElem?_toArray, List.getElem?_cons_succ, List.getElem?_cons_zero]; rfl
      case wq7 => rfl
      case yq7 =>
        have HS := Lib.hid hS
        try dsimp only at hS
        go_simp
        exact hK.out _ HS.out
      try simp only [Act.put, List.setIfInBounds_toArray, List.set_cons_zero, List.set_cons_succ]
      refine seq_op 8 (oi := ?oq8) (v := ?vq8) ?hq8 (by kernel_rfl) (by kernel_rfl) (by kernel_rfl) (fun _ _ _ h => h) ?wq8 (fun K wq hS hK => ?yq8) ?rq8
      case hq8 => simp only [List.getElem?_toArray, List.getElem?_cons_succ, List.getElem?_cons_zero]; rfl
      case wq8 => rfl
      case yq8 =>
        have HS := Lib.hid hS
        try dsimp only at hS
        go_simp
        exact hK.out _ HS.out
      try simp only [Act.put, List.setIfInBounds_toArray, List.set_cons_zero, List.set_cons_succ]
      refine seq_op 9 (oi := ?oq9) (v := ?vq9) ?hq9 (by kernel_rfl) (by kernel_rfl) (by kernel_rfl) (fun _ _ _ h => h) ?wq9 (fun K wq hS hK => ?yq9) ?rq9
      case hq9 => simp only [List.getElem?_toArray, List.getElem?_cons_succ, List.getElem?_cons_zero]; rfl
      case wq9 => rfl
      case yq9 =>
        have HS := Lib.hid hS
        have HX := HA.out.keep hS
        clear hS
        go_simp
        refine (steps_any _ HX k a b).mono ?_
        rintro e w8 ⟨rfl, C8⟩
        have hS2 := HS.out.trans C8
        rw [H2.out]
        exact hK.out _ hS2
      try simp only [Act.put, List.setIfInBounds_toArray, List.set_cons_zero, List.set_cons_succ]
      refine seq_op 10 (oi := ?oq10) (v := ?vq10) ?hq10 (by kernel_rfl) (by kernel_rfl) (by kernel_rfl) (fun _ _ _ h => h) ?wq10 (fun K wq hS hK => ?yq10) ?rq10
      case hq10 => simp only [List.getElem?_toArray, List.getElem?_cons_succ, List.getElem?_cons_zero]; rfl
      case wq10 => rfl
      case yq10 =>
        have HS := Lib.hid hS
        have B := HKB.out _ hS
        have x0 := B.cell 0
        have x1 := B.cell 1
        have x2 := B.cell 2
        have x3 := B.cell 3
        have x4 := B.cell 4
        have x5 := B.cell 5
        clear hS B
        go_simp
        have hS2 := HS.out
        exact hK.out _ hS2
      try simp only [Act.put, List.setIfInBounds_toArray, List.set_cons_zero, List.set_cons_succ]
      refine seq_op 11 (oi := ?oq11) (v := ?vq11) ?hq11 (by kernel_rfl) (by kernel_rfl) (by kernel_rfl) (fun _ _ _ h => h) ?wq11 (fun K wq hS hK => ?yq11) ?rq11
      case hq11 => simp only [List.getElem?_toArray, List.getElem?_cons_succ, List.getElem?_cons_zero]; rfl
      case wq11 => rfl
      case yq11 =>
        have HS := Lib.hid hS
        try dsimp only at hS
        go_simp
        exact hK.out _ HS.out
      try simp only [Act.put, List.setIfInBounds_toArray, List.set_cons_zero, List.set_cons_succ]
      refine seq_op 12 (oi := ?oq12) (v := ?vq12) ?hq12 (by kernel_rfl) (by kernel_rfl) (by kernel_rfl) (fun _ _ _ h => h) ?wq12 (fun K wq hS hK => ?yq12) ?rq12
      case hq12 => simp only [List.getElem?_toArray, List.getElem?_cons_succ, List.getElem?_cons_zero]; rfl
      case wq12 => rfl
      case yq12 =>
        have HS := Lib.hid hS
        try dsimp only at hS
        go_simp
        exact hK.out _ HS.out
      try simp only [Act.put, List.setIfInBounds_toArray, List.set_cons_zero, List.set_cons_succ]
      refine seq_op 13 (oi := ?oq13) (v := ?vq13) ?hq13 (by kernel_rfl) (by kernel_rfl) (by kernel_rfl) (fun _ _ _ h => h) ?wq13 (fun K wq hS hK => ?yq13) ?rq13
      case hq13 => simp only [List.getElem?_toArray, List.getElem?_cons_succ, List.getElem?_cons_zero]; rfl
      case wq13 => rfl
      case yq13 =>
        have HS := Lib.hid hS
        try dsimp only at hS
        go_simp
        exact hK.out _ HS.out
      try simp only [Act.put, List.setIfInBounds_toArray, List.set_cons_zero, List.set_cons_succ]
      refine seq_op 14 (oi := ?oq14) (v := ?vq14) ?hq14 (by kernel_rfl) (by kernel_rfl) (by kernel_rfl) (fun _ _ _ h => h) ?wq14 (fun K wq hS hK => ?yq14) ?rq14
      case hq14 => simp only [List.getElem?_toArray, List.getElem?_cons_succ, List.getElem?_cons_zero]; rfl
      case wq14 => rfl
      case yq14 =>
        have HS := Lib.hid hS
        have HX := HA.out.keep hS
        clear hS
        go_simp
        refine (steps_any _ HX k b d).mono ?_
        rintro e w8 ⟨rfl, C8⟩
        have hS2 := HS.out.trans C8
        rw [H3.out]
        exact hK.out _ hS2
      try simp only [Act.put, List.setIfInBounds_toArray, List.set_cons_zero, List.set_cons_succ]
      refine seq_op 15 (oi := ?oq15) (v := ?vq15) ?hq15 (by kernel_rfl) (by kernel_rfl) (by kernel_rfl) (fun _ _ _ h => h) ?wq15 (fun K wq hS hK => ?yq15) ?rq15
      case hq15 => simp only [List.getElem?_toArray, List.getElem?_cons_succ, List.getElem?_cons_zero]; rfl
      case wq15 => rfl
      case yq15 =>
        have HS := Lib.hid hS
        try dsimp only at hS
        go_simp
        exact hK.out _ HS.out
      try simp only [Act.put, List.setIfInBounds_toArray, List.set_cons_zero, List.set_cons_succ]
      refine seq_op 16 (oi := ?oq16) (v := ?vq16) ?hq16 (by kernel_rfl) (by kernel_rfl) (by kernel_rfl) (fun _ _ _ h => h) ?wq16 (fun K wq hS hK => ?yq16) ?rq16
      case hq16 => simp only [List.getElem?_toArray, List.getElem?_cons_succ, List.getElem?_cons_zero]; rfl
      case wq16 => rfl
      case yq16 =>
        have HS := Lib.hid hS
        try dsimp only at hS
        go_simp
        exact hK.out _ HS.out
      try simp only [Act.put, List.setIfInBounds_toArray, List.set_cons_zero, List.set_cons_succ]
      refine seq_done (by kernel_rfl) (fun wz hSz => ?_) _
      refine NoPanic.normal ?_
      clear x0 x1 x2 x3 x4 x5 yw
      have B := HKB.out _ hSz
      have x0 := B.cell 0
      have x1 := B.cell 1
      have x2 := B.cell 2
      have x3 := B.cell 3
      have x4 := B.cell 4
      have x5 := B.cell 5
      clear B
      go_wp2_with fail
      refine (steps_any _ (HA.out.keep hSz) k a d).mono ?_
      rintro e w5 ⟨rfl, C5'⟩
      have C5 := hSz.trans C5'
      rw [H1.out]
      clear x0 x1 x2 x3 x4 x5 C5'
      go_wp2_with fail
      go_roundw
      case rel => exact ⟨k + 1, by omega, by go_num, by rw [HST.out], C5⟩
      case measure => simp [intOf]; omega
    · have h5 : k = C.parts.length := by omega
      subst h5
      have q9 : decide (stepSum C a d C.parts.length ≤ d - a) = true := decide_eq_true hs2
      go_wp2_with fail
      go_ret
      exact ⟨rfl, (C0.trans Ck).below_of (Nat.le_refl _) (fun _ h => h.elim)⟩

set_option maxRecDepth 100000 in
theorem planParts_walk : LawWalk 3 Try.f3 := by
  intro H enc W base args ds p hval hA
  rw [Try.params3] at hA hval
  obtain ⟨v0, v1, v2, v3, d0, d1, d2, d3, p0, p1, p2, p3, rfl, rfl, rfl, h0, h1, h2, h3⟩ := trodAll_four hA
  obtain ⟨C, ap, ac, aw, cp, cc, cw, rfl, hC, _⟩ := open_cfg (hval 0 26 v0 rfl rfl) h0
  obtain ⟨a1, rfl, rfl, rfl, w1⟩ := open_int Try.underlying3 (hval 1 3 v1 rfl rfl) h1
  obtain ⟨a2, rfl, rfl, rfl, w2⟩ := open_int Try.underlying3 (hval 2 3 v2 rfl rfl) h2
  obtain ⟨a3, rfl, rfl, rfl, w3⟩ := open_int Try.underlying3 (hval 3 3 v3 rfl rfl) h3
  exact planParts_any a1 a2 a3 W hC

set_option maxRecDepth 100000 in
theorem planParts_lifted (os : Os) (started : os.Started) (H : Type) (enc : TypeId × Value → H) :
    ReturnsInHanded {} Try.checked os 3 .any (Rows.planPartsSpec.pre6 enc Try.prog Try.f3 Rows.planPartsRow.domain false) (Rows.planPartsSpec.post enc Try.prog Try.f3 false true false false) :=
  law_lifted (s := Rows.planPartsSpec) Try.func3 (by kernel_rfl) rfl (by kernel_rfl) (by kernel_rfl)
    (fun H ds h => by
      match ds, h with
      | [d0, d1, d2, d3], _ => rfl)
    planParts_walk os started H enc
    (ChangeSpec.witness6 (enc := enc) (C := Try.checked) false ⟨#[], #[.agg #[.int .i64 0, .int .i64 0, .int .i64 0, .slice none 0 0, .slice none 0 0, .slice none 0 0], .int .i64 0, .int .i64 0, .int .i64 0], []⟩ 8 (by kernel_rfl) (by kernel_rfl) (by kernel_rfl) (by kernel_rfl))

set_option maxRecDepth 100000 in
/-- THE STATEMENT. -/
theorem planParts_holds : Rows.PlanPartsSaid :=
  OpenClaim.holds_of_wide 3 Try.f3 rfl rfl rfl rfl rfl rfl rfl ⟨rfl, rfl, rfl, rfl, rfl⟩ rfl rfl rfl rfl rfl (by kernel_rfl) Try.func3 (by kernel_rfl)
    (of_decide_eq_true (by kernel_rfl)) (by unfold Func.isWrapper; first | (rw [if_pos (by decide +kernel)]; kernel_rfl) | (rw [if_neg (by decide +kernel)]; exact ⟨rfl, rfl⟩))
    (fun os started H enc _ => planParts_lifted os started H enc)
#print axioms planParts_holds
end Go.Proofs.Ytmbdimcjpdofoaa

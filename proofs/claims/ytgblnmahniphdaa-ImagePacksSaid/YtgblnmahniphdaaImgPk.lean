/- ImagePacks: the walk. -/
import Derived.Test.YtgblnmahniphdaaImgL0
namespace Go.Proofs.Ytgblnmahniphdaa
open Go.RowKit

/-- What Pack hands back is the call's own, whatever it is. -/
theorem ipack_own (e : Int) (m c : Nat) (ao : Option Addr) (xs : List Int) (w : World) (hs : Src w ao m c (u8s xs) 1) (hx : ∀ x ∈ xs, 0 ≤ x ∧ x < 256) (hm : m ≤ 1048576) :
    Calls Try.prog 19 #[.agg #[.int .i64 e, .slice ao m c]] w fun r w' => ∃ a2 n2 c2 zs, r = .returned (.tuple #[.slice a2 n2 c2, .int .i64 (chkI e m)]) ∧ Chg w w' (fun _ => False) ∧ w'.ownsRow w.heap.size 5 1 (.slice a2 n2 c2) n2 (u8s zs) ∧ n2 ≤ m + 16 ∧ (chkI e m = 0 → n2 = m + 16 ∧ zs = packB e xs) ∧ (¬ chkI e m = 0 → a2 = none ∧ n2 = 0 ∧ c2 = 0 ∧ zs = []) := by
  by_cases hc : chkI e m = 0
  · refine (ipack_ok e m c ao xs w hs hx hm hc).mono ?_
    rintro r w' ⟨a2, c2, rfl, O, C⟩
    exact ⟨a2, m + 16, c2, _, by rw [hc], C, O, Nat.le_refl _, fun _ => ⟨rfl, rfl⟩, fun h => absurd hc h⟩
  · refine (ipack_bad e m c ao w hc).mono ?_
    rintro r w' ⟨rfl, C⟩
    exact ⟨none, 0, 0, [], rfl, C, ⟨rfl, .inl ⟨rfl, rfl⟩⟩, by omega, fun h => absurd h hc, fun _ => ⟨rfl, rfl, rfl, rfl⟩⟩
theorem rpack_own (e : Int) (m c : Nat) (ao : Option Addr) (xs : List Int) (w : World) (hs : Src w ao m c (u8s xs) 1) (hx : ∀ x ∈ xs, 0 ≤ x ∧ x < 256) (hm : m ≤ 1048576) :
    Calls Try.prog 20 #[.agg #[.int .i64 e, .slice ao m c]] w fun r w' => ∃ a2 n2 c2 zs, r = .returned (.tuple #[.slice a2 n2 c2, .int .i64 (chkI e m)]) ∧ Chg w w' (fun _ => False) ∧ w'.ownsRow w.heap.size 5 1 (.slice a2 n2 c2) n2 (u8s zs) ∧ n2 ≤ m + 16 ∧ (chkI e m = 0 → n2 = m + 16 ∧ zs = packB e xs) ∧ (¬ chkI e m = 0 → a2 = none ∧ n2 = 0 ∧ c2 = 0 ∧ zs = []) := by
  by_cases hc : chkI e m = 0
  · refine (rpack_ok e m c ao xs w hs hx hm hc).mono ?_
    rintro r w' ⟨a2, c2, rfl, O, C⟩
    exact ⟨a2, m + 16, c2, _, by rw [hc], C, O, Nat.le_refl _, fun _ => ⟨rfl, rfl⟩, fun h => absurd hc h⟩
  · refine (rpack_bad e m c ao w hc).mono ?_
    rintro r w' ⟨rfl, C⟩
    exact ⟨none, 0, 0, [], rfl, C, ⟨rfl, .inl ⟨rfl, rfl⟩⟩, by omega, fun h => absurd h hc, fun _ => ⟨rfl, rfl, rfl, rfl⟩⟩

set_option maxRecDepth 100000 in
set_option maxHeartbeats 1600000 in
theorem packs_out (e f : Int) (m c n d : Nat) (ao bo : Option Addr) (w : World) (h : 20000 < m ∨ 20000 < n) :
    Calls Try.prog 7 #[.agg #[.int .i64 e, .slice ao m c], .agg #[.int .i64 f, .slice bo n d]] w fun r w' => r = .returned (.bool true) ∧ Below w.heap.size w w' := by
  by_cases h1 : 20000 < m
  · have d1 : decide ((20000 : Int) < (m : Int)) = true := decide_eq_true (by omega)
    clear h h1
    go_enter Try.func7, Try.ntmps7
    go_wp2_with fail
    refine (alive_any _).mono ?_
    rintro r w1 ⟨rfl, C1⟩
    have B1 := (((Box.new w 39 #[.int .i64 e, .slice ao m c]).alloc (.cells #[.int .i64 f, .slice bo n d] 39)).chg C1 (fun h => h)).cell 1
    go_wp2_with fail
    go_ret
    exact ⟨rfl, ((((Chg.refl w (fun _ => False)).alloc _).alloc _).trans C1).below (Nat.le_refl _) (fun _ _ h => h)⟩
  · have d1 : decide ((20000 : Int) < (m : Int)) = false := decide_eq_false (by omega)
    have d2 : decide ((20000 : Int) < (n : Int)) = true := decide_eq_true (by omega)
    clear h h1
    go_enter Try.func7, Try.ntmps7
    go_wp2_with fail
    refine (alive_any _).mono ?_
    rintro r w1 ⟨rfl, C1⟩
    have B1 := (((Box.new w 39 #[.int .i64 e, .slice ao m c]).alloc (.cells #[.int .i64 f, .slice bo n d] 39)).chg C1 (fun h => h)).cell 1
    have B2 := ((Box.new (w.alloc (.cells #[.int .i64 e, .slice ao m c] 39)) 39 #[.int .i64 f, .slice bo n d]).chg C1 (fun h => h)).cell 1
    rw [show (w.alloc (.cells #[.int .i64 e, .slice ao m c] 39)).heap.size = w.heap.size + 1 from by simp] at B2
    go_wp2_with fail
    go_ret
    exact ⟨rfl, ((((Chg.refl w (fun _ => False)).alloc _).alloc _).trans C1).below (Nat.le_refl _) (fun _ _ h => h)⟩

set_option maxRecDepth 100000 in
set_option maxHeartbeats 3200000 in
theorem packs_in (e f : Int) (m c n d : Nat) (ao bo : Option Addr) (xs ys : List Int) (w : World) (hL : Lst w ao m c (u8s xs) 1) (hx : ∀ x ∈ xs, 0 ≤ x ∧ x < 256) (hM : Lst w bo n d (u8s ys) 1) (hy : ∀ x ∈ ys, 0 ≤ x ∧ x < 256) (h1 : m ≤ 20000) (h2 : n ≤ 20000) :
    Calls Try.prog 7 #[.agg #[.int .i64 e, .slice ao m c], .agg #[.int .i64 f, .slice bo n d]] w fun r w' => r = .returned (.bool true) ∧ Below w.heap.size w w' := by
  have hl : xs.length = m := by have := hL.src.len; simpa [u8s] using this
  have d1 : decide ((20000 : Int) < (m : Int)) = false := decide_eq_false (by omega)
  have d2 : decide ((20000 : Int) < (n : Int)) = false := decide_eq_false (by omega)
  have HS := Lib.hid hL.src
  have HT := Lib.hid hM.src
  have HX := Lib.hid hx
  have HY := Lib.hid hy
  have HL := Lib.hid hl
  obtain ⟨i0, hi0, hz0, hz1, hz2⟩ := info_parts info_u8i
  clear hL hM hx hy hl
  go_enter Try.func7, Try.ntmps7
  go_wp2_with fail
  refine (alive_any _).mono ?_
  rintro r w1 ⟨rfl, C1⟩
  have B1 := ((Box.new w 39 #[.int .i64 e, .slice ao m c]).alloc (.cells #[.int .i64 f, .slice bo n d] 39)).chg C1 (fun h => h)
  have B2 := (Box.new (w.alloc (.cells #[.int .i64 e, .slice ao m c] 39)) 39 #[.int .i64 f, .slice bo n d]).chg C1 (fun h => h)
  rw [show (w.alloc (.cells #[.int .i64 e, .slice ao m c] 39)).heap.size = w.heap.size + 1 from by simp] at B2
  have CA : Chg w w1 (fun _ => False) := (((Chg.refl w _).alloc _).alloc _).trans C1
  clear C1
  obtain ⟨g, hg⟩ : ∃ g, w.heap.size = g := ⟨_, rfl⟩
  rw [hg] at B1 B2
  have hlt := B2.lt
  have HB1 := Lib.hid B1
  have HB2 := Lib.hid B2
  have y0 := B1.cell 0
  have y1 := B1.cell 1
  have y2 := B2.cell 0
  have y3 := B2.cell 1
  clear B1 B2
  go_wp2_with fail
  refine (icheck_any e m c ao _).mono ?_
  rintro r w2 ⟨rfl, C2⟩
  obtain ⟨k, hk⟩ : ∃ k, chkI e m = k := ⟨_, rfl⟩
  obtain ⟨q, hq⟩ : ∃ q, chkI f n = q := ⟨_, rfl⟩
  rw [hk]
  have y0 := C2.cell y0 (fun h => h)
  have y1 := C2.cell y1 (fun h => h)
  have y2 := C2.cell y2 (fun h => h)
  have y3 := C2.cell y3 (fun h => h)
  go_wp2_with fail
  refine (ipack_own e m c ao xs _ (HS.out.chg (CA.trans C2) (fun _ _ h => h)) HX.out (by omega)).mono ?_
  rintro r w3 ⟨a3, n3, c3, z3, rfl, C3, O3, hn3, ok3, no3⟩
  rw [hk] at ok3 no3 ⊢
  have y0 := C3.cell y0 (fun h => h)
  have y1 := C3.cell y1 (fun h => h)
  have y2 := C3.cell y2 (fun h => h)
  have y3 := C3.cell y3 (fun h => h)
  go_wp2_with fail
  refine (ipack_own f n d bo ys _ (HT.out.chg ((CA.trans C2).trans C3) (fun _ _ h => h)) HY.out (by omega)).mono ?_
  rintro r w4 ⟨a4, n4, c4, z4, rfl, C4, O4, hn4, _, _⟩
  rw [hq]
  have CX := ((CA.trans C2).trans C3).trans C4
  have y0 := C4.cell y0 (fun h => h)
  have y1 := C4.cell y1 (fun h => h)
  have O34 := own_chg O3 C4 (fun _ _ h => h)
  have HO3 := Lib.hid (fun b hb => (O3.lt b hb).2)
  have sz1 := CA.size
  have sz2 := C2.size
  have sz3 := C3.size
  have sz4 := C4.size
  have H3 := Lib.hid (And.intro ok3 no3)
  clear y2 y3 ok3 no3 O3
  go_wp2_with fail
  go_loopw [11] (fun i wx => ∃ j : Nat, j ≤ n4 ∧ i = .int .i64 j ∧ (∃ zs : List Int, wx.ownsRow w3.heap.size 5 1 (.slice a4 n4 c4) n4 (u8s zs)) ∧ Chg w4 wx (fun b => (Value.slice a4 n4 c4).ownBlock = some b)) (fun i _ => n4 - (intOf i).toNat)
  case atStart => exact ⟨0, by omega, rfl, ⟨z4, O4⟩, Chg.refl _ _⟩
  case round =>
    obtain ⟨j, hj, rfl, ⟨zs, Oj⟩, Cj⟩ := hrel
    by_cases hlt2 : j < n4
    · obtain ⟨b, cap, hv, hb1, hb2, hb3, hb4⟩ := own_block Oj (by omega)
      injection hv with e1 e2 e3
      subst e1 e3
      have hzl : zs.length = n4 := by have := Oj.1; simpa [u8s] using this
      have hcell := own_cells Oj j (.int .u8 (zs[j]'(by omega))) (by simp [u8s, show j < zs.length by omega])
      have hfz := own_frozen Oj j
      have j0 : (0 : Int) ≤ (j : Int) := by omega
      have j1 : (j : Int) < (n4 : Int) := by omega
      generalize zs[j]'(by omega) = x at hcell
      have OJ := Lib.hid Oj
      clear Oj
      go_wp2_with fail
      go_roundw
      case rel =>
        have O5 := own_setB OJ.out j (.int .u8 (bits .xor .u8 x 255))
        rw [u8s_set] at O5
        exact ⟨j + 1, by omega, by go_num, ⟨_, O5⟩, Cj.setCell (p := ⟨b, j, none⟩) (fun _ => rfl) _⟩
      case measure => simp [intOf]; omega
    · have hjn : j = n4 := by omega
      subst hjn
      have hob : ∀ b, (Value.slice a4 j c4).ownBlock = some b → w3.heap.size ≤ b := fun b hb => (Oj.lt b hb).1
      have y0 := Cj.cell y0 (fun h => by have : w3.heap.size ≤ g := hob _ h; omega)
      have y1 := Cj.cell y1 (fun h => by have : w3.heap.size ≤ g := hob _ h; omega)
      have O35 := own_chg O34 Cj (fun b hb hb2 => by have h6 := HO3.out b hb; have := hob b hb2; omega)
      have CY : Chg w wr (fun _ => False) := CX.trans' Cj (fun b hb h => by have := hob b h; omega)
      clear Oj Cj CX O34
      go_wp2_with fail
      refine (rpack_own e m c ao xs _ (HS.out.chg CY (fun _ _ h => h)) HX.out (by omega)).mono ?_
      rintro r w6 ⟨a6, n6, c6, z6, rfl, C6, O6, hn6, ok6, no6⟩
      rw [hk] at ok6 no6 ⊢
      have y0 := C6.cell y0 (fun h => h)
      have y1 := C6.cell y1 (fun h => h)
      have CZ := CY.trans C6
      have O36 := own_chg O35 C6 (fun _ _ h => h)
      have HZ6 := Lib.hid (show z6 = z3 from by
        by_cases h0 : k = 0
        · rw [(ok6 h0).2, (H3.out.1 h0).2]
        · rw [(no6 h0).2.2.2, (H3.out.2 h0).2.2.2])
      have S3 := Lib.hid (own_src O36)
      have S6 := Lib.hid (own_src O6)
      rw [HZ6.out] at S6
      obtain ⟨st, hst⟩ : ∃ st, strOfNums z3 = st := ⟨_, rfl⟩
      have K3 := Lib.hid (show ∀ w', Chg w6 w' (fun _ => False) → (convert 37 9 (.slice a3 n3 c3)).run Try.prog w' = .ok (.string st) w' from fun w' C => by rw [← hst]; exact conv_rule w' (S3.out.chg C (fun _ _ h => h)))
      have K6 := Lib.hid (show ∀ w', Chg w6 w' (fun _ => False) → (convert 37 9 (.slice a6 n6 c6)).run Try.prog w' = .ok (.string st) w' from fun w' C => by rw [← hst]; exact conv_rule w' (S6.out.chg C (fun _ _ h => h)))
      have HK := Lib.hid hk
      have Y0 := Lib.hid y0
      have Y1 := Lib.hid y1
      have OO := Lib.hid O36
      clear O35 O36 O6 hst hk y0 y1
      go_wp2_with fail
      refine wp_region_noPanic ?_
      refine seq_begin (fun w' => Chg w6 w' (fun _ => False)) (by kernel_rfl) ((Chg.refl w6 _).drew) ?_
      refine seq_op 0 (oi := ?oq0) (v := ?vq0) ?hq0 (by kernel_rfl) (by kernel_rfl) (by kernel_rfl) (fun _ _ _ h => h) ?wq0 (fun K wq hS hK => ?yq0) ?rq0
      case hq0 => simp only [List.getElem?_toArray, List.getElem?_cons_succ, List.getElem?_cons_zero]; rfl
      case wq0 => rfl
      case yq0 =>
        have HS := Lib.hid hS
        try dsimp only at hS
        go_simp
        exact hK.out _ HS.out
      try simp only [Act.put, List.setIfInBounds_toArray, List.set_cons_zero, List.set_cons_succ]
      refine seq_op 1 (oi := ?oq1) (v := ?vq1) ?hq1 (by kernel_rfl) (by kernel_rfl) (by kernel_rfl) (fun _ _ _ h => h) ?wq1 (fun K wq hS hK => ?yq1) ?rq1
      case hq1 => simp only [List.getElem?_toArray, List.getElem?_cons_succ, List.getElem?_cons_zero]; rfl
      case wq1 => rfl
      case yq1 =>
        go_simp
        refine (num_any _ _).mono ?_
        rintro r w7 ⟨rfl, rfl⟩
        have hS2 := hS
        exact hK.out _ hS2
      try simp only [Act.put, List.setIfInBounds_toArray, List.set_cons_zero, List.set_cons_succ]
      refine seq_op 2 (oi := ?oq2) (v := ?vq2) ?hq2 (by kernel_rfl) (by kernel_rfl) (by kernel_rfl) (fun _ _ _ h => h) ?wq2 (fun K wq hS hK => ?yq2) ?rq2
      case hq2 => simp only [List.getElem?_toArray, List.getElem?_cons_succ, List.getElem?_cons_zero]; rfl
      case wq2 => rfl
      case yq2 =>
        have HS2 := Lib.hid hS
        have y0 := hS.cell Y0.out (fun h => h)
        have y1 := hS.cell Y1.out (fun h => h)
        clear hS
        go_simp
        have hS2 := HS2.out
        exact hK.out _ hS2
      try simp only [Act.put, List.setIfInBounds_toArray, List.set_cons_zero, List.set_cons_succ]
      refine seq_op 3 (oi := ?oq3) (v := ?vq3) ?hq3 (by kernel_rfl) (by kernel_rfl) (by kernel_rfl) (fun _ _ _ h => h) ?wq3 (fun K wq hS hK => ?yq3) ?rq3
      case hq3 => simp only [List.getElem?_toArray, List.getElem?_cons_succ, List.getElem?_cons_zero]; rfl
      case wq3 => rfl
      case yq3 =>
        go_simp
        refine (rcheckI_any e m c ao _).mono ?_
        rintro r w7 ⟨rfl, C7⟩
        rw [HK.out]
        have hS2 := hS.trans C7
        exact hK.out _ hS2
      try simp only [Act.put, List.setIfInBounds_toArray, List.set_cons_zero, List.set_cons_succ]
      refine seq_op 4 (oi := ?oq4) (v := ?vq4) ?hq4 (by kernel_rfl) (by kernel_rfl) (by kernel_rfl) (fun _ _ _ h => h) ?wq4 (fun K wq hS hK => ?yq4) ?rq4
      case hq4 => simp only [List.getElem?_toArray, List.getElem?_cons_succ, List.getElem?_cons_zero]; rfl
      case wq4 => rfl
      case yq4 =>
        have HS := Lib.hid hS
        try dsimp only at hS
        go_simp
        exact hK.out _ HS.out
      try simp only [Act.put, List.setIfInBounds_toArray, List.set_cons_zero, List.set_cons_succ]
      refine seq_op 5 (oi := ?oq5) (v := ?vq5) ?hq5 (by kernel_rfl) (by kernel_rfl) (by kernel_rfl) (fun _ _ _ h => h) ?wq5 (fun K wq hS hK => ?yq5) ?rq5
      case hq5 => simp only [List.getElem?_toArray, List.getElem?_cons_succ, List.getElem?_cons_zero]; rfl
      case wq5 => rfl
      case yq5 =>
        have HS := Lib.hid hS
        try dsimp only at hS
        go_simp
        exact hK.out _ HS.out
      try simp only [Act.put, List.setIfInBounds_toArray, List.set_cons_zero, List.set_cons_succ]
      refine seq_op 6 (oi := ?oq6) (v := ?vq6) ?hq6 (by kernel_rfl) (by kernel_rfl) (by kernel_rfl) (fun _ _ _ h => h) ?wq6 (fun K wq hS hK => ?yq6) ?rq6
      case hq6 => simp only [List.getElem?_toArray, List.getElem?_cons_succ, List.getElem?_cons_zero]; rfl
      case wq6 => rfl
      case yq6 =>
        have HS := Lib.hid hS
        try dsimp only at hS
        go_simp
        exact hK.out _ HS.out
      try simp only [Act.put, List.setIfInBounds_toArray, List.set_cons_zero, List.set_cons_succ]
      refine seq_op 7 (oi := ?oq7) (v := ?vq7) ?hq7 (by kernel_rfl) (by kernel_rfl) (by kernel_rfl) (fun _ _ _ h => h) ?wq7 (fun K wq hS hK => ?yq7) ?rq7
      case hq7 => simp only [List.getElem?_toArray, List.getElem?_cons_succ, List.getElem?_cons_zero]; rfl
      case wq7 => rfl
      case yq7 =>
        go_simp
        refine (num_any _ _).mono ?_
        rintro r w7 ⟨rfl, rfl⟩
        have hS2 := hS
        exact hK.out _ hS2
      try simp only [Act.put, List.setIfInBounds_toArray, List.set_cons_zero, List.set_cons_succ]
      refine seq_op 8 (oi := ?oq8) (v := ?vq8) ?hq8 (by kernel_rfl) (by kernel_rfl) (by kernel_rfl) (fun _ _ _ h => h) ?wq8 (fun K wq hS hK => ?yq8) ?rq8
      case hq8 => simp only [List.getElem?_toArray, List.getElem?_cons_succ, List.getElem?_cons_zero]; rfl
      case wq8 => rfl
      case yq8 =>
        have HS := Lib.hid hS
        try dsimp only at hS
        go_simp
        exact hK.out _ HS.out
      try simp only [Act.put, List.setIfInBounds_toArray, List.set_cons_zero, List.set_cons_succ]
      refine seq_op 9 (oi := ?oq9) (v := ?vq9) ?hq9 (by kernel_rfl) (by kernel_rfl) (by kernel_rfl) (fun _ _ _ h => h) ?wq9 (fun K wq hS hK => ?yq9) ?rq9
      case hq9 => simp only [List.getElem?_toArray, List.getElem?_cons_succ, List.getElem?_cons_zero]; rfl
      case wq9 => rfl
      case yq9 =>
        have HS := Lib.hid hS
        try dsimp only at hS
        go_simp
        exact hK.out _ HS.out
      try simp only [Act.put, List.setIfInBounds_toArray, List.set_cons_zero, List.set_cons_succ]
      refine seq_op 10 (oi := ?oq10) (v := ?vq10) ?hq10 (by kernel_rfl) (by kernel_rfl) (by kernel_rfl) (fun _ _ _ h => h) ?wq10 (fun K wq hS hK => ?yq10) ?rq10
      case hq10 => simp only [List.getElem?_toArray, List.getElem?_cons_succ, List.getElem?_cons_zero]; rfl
      case wq10 => rfl
      case yq10 =>
        have HS := Lib.hid hS
        try dsimp only at hS
        go_simp
        exact hK.out _ HS.out
      try simp only [Act.put, List.setIfInBounds_toArray, List.set_cons_zero, List.set_cons_succ]
      refine seq_op 11 (oi := ?oq11) (v := ?vq11) ?hq11 (by kernel_rfl) (by kernel_rfl) (by kernel_rfl) (fun _ _ _ h => h) ?wq11 (fun K wq hS hK => ?yq11) ?rq11
      case hq11 => simp only [List.getElem?_toArray, List.getElem?_cons_succ, List.getElem?_cons_zero]; rfl
      case wq11 => rfl
      case yq11 =>
        have HS := Lib.hid hS
        try dsimp only at hS
        go_simp
        exact hK.out _ HS.out
      try simp only [Act.put, List.setIfInBounds_toArray, List.set_cons_zero, List.set_cons_succ]
      refine seq_op 12 (oi := ?oq12) (v := ?vq12) ?hq12 (by kernel_rfl) (by kernel_rfl) (by kernel_rfl) (fun _ _ _ h => h) ?wq12 (fun K wq hS hK => ?yq12) ?rq12
      case hq12 => simp only [List.getElem?_toArray, List.getElem?_cons_succ, List.getElem?_cons_zero]; rfl
      case wq12 => rfl
      case yq12 =>
        have HS := Lib.hid hS
        try dsimp only at hS
        go_simp
        exact hK.out _ HS.out
      try simp only [Act.put, List.setIfInBounds_toArray, List.set_cons_zero, List.set_cons_succ]
      refine seq_op 13 (oi := ?oq13) (v := ?vq13) ?hq13 (by kernel_rfl) (by kernel_rfl) (by kernel_rfl) (fun _ _ _ h => h) ?wq13 (fun K wq hS hK => ?yq13) ?rq13
      case hq13 => simp only [List.getElem?_toArray, List.getElem?_cons_succ, List.getElem?_cons_zero]; rfl
      case wq13 => rfl
      case yq13 =>
        have kc := K3.out _ hS
        have HS2 := Lib.hid hS
        clear hS
        go_simp
        have hS2 := HS2.out
        exact hK.out _ hS2
      try simp only [Act.put, List.setIfInBounds_toArray, List.set_cons_zero, List.set_cons_succ]
      refine seq_op 14 (oi := ?oq14) (v := ?vq14) ?hq14 (by kernel_rfl) (by kernel_rfl) (by kernel_rfl) (fun _ _ _ h => h) ?wq14 (fun K wq hS hK => ?yq14) ?rq14
      case hq14 => simp only [List.getElem?_toArray, List.getElem?_cons_succ, List.getElem?_cons_zero]; rfl
      case wq14 => rfl
      case yq14 =>
        have HS := Lib.hid hS
        try dsimp only at hS
        go_simp
        exact hK.out _ HS.out
      try simp only [Act.put, List.setIfInBounds_toArray, List.set_cons_zero, List.set_cons_succ]
      refine seq_op 15 (oi := ?oq15) (v := ?vq15) ?hq15 (by kernel_rfl) (by kernel_rfl) (by kernel_rfl) (fun _ _ _ h => h) ?wq15 (fun K wq hS hK => ?yq15) ?rq15
      case hq15 => simp only [List.getElem?_toArray, List.getElem?_cons_succ, List.getElem?_cons_zero]; rfl
      case wq15 => rfl
      case yq15 =>
        have kc := K6.out _ hS
        have HS2 := Lib.hid hS
        clear hS
        go_simp
        have hS2 := HS2.out
        exact hK.out _ hS2
      try simp only [Act.put, List.setIfInBounds_toArray, List.set_cons_zero, List.set_cons_succ]
      refine seq_op 16 (oi := ?oq16) (v := ?vq16) ?hq16 (by kernel_rfl) (by kernel_rfl) (by kernel_rfl) (fun _ _ _ h => h) ?wq16 (fun K wq hS hK => ?yq16) ?rq16
      case hq16 => simp only [List.getElem?_toArray, List.getElem?_cons_succ, List.getElem?_cons_zero]; rfl
      case wq16 => rfl
      case yq16 =>
        have HS := Lib.hid hS
        try dsimp only at hS
        go_simp
        exact hK.out _ HS.out
      try simp only [Act.put, List.setIfInBounds_toArray, List.set_cons_zero, List.set_cons_succ]
      refine seq_op 17 (oi := ?oq17) (v := ?vq17) ?hq17 (by kernel_rfl) (by kernel_rfl) (by kernel_rfl) (fun _ _ _ h => h) ?wq17 (fun K wq hS hK => ?yq17) ?rq17
      case hq17 => simp only [List.getElem?_toArray, List.getElem?_cons_succ, List.getElem?_cons_zero]; rfl
      case wq17 => rfl
      case yq17 =>
        have HS := Lib.hid hS
        try dsimp only at hS
        go_simp
        exact hK.out _ HS.out
      try simp only [Act.put, List.setIfInBounds_toArray, List.set_cons_zero, List.set_cons_succ]
      refine seq_done (by kernel_rfl) (fun wz hSz => ?_) _
      refine NoPanic.normal ?_
      have Z0 := Lib.hid (hSz.cell Y0.out (fun h => h))
      have Z1 := Lib.hid (hSz.cell Y1.out (fun h => h))
      have CW := CZ.trans hSz
      have OW := own_chg OO.out hSz (fun _ _ h => h)
      clear hSz
      by_cases h0 : k = 0
      case neg =>
        have hkn : (k != 0) = true := bne_iff_ne.2 h0
        clear h0
        go_wp2_with fail
        go_ret
        exact ⟨rfl, CW.below (Nat.le_refl _) (fun _ _ h => h)⟩
      subst h0
      obtain ⟨hn3, hz3⟩ := H3.out.1 rfl
      subst hz3
      have hn3b : n3 ≤ 20016 := by omega
      clear hn3
      have OH := Lib.hid OW
      have SW := own_src OW
      clear OW
      go_wp2_with (at_builtin; go_loud (refine wpList_append_src _ rfl (.const (.slice none 0 0)) (.tmp 84) _ rfl wz.heap.size 5 i0 _ 1 1 Try.underlying37 hi0 hz0 hz1 hz2 rfl (by omega) _ 0 [] rfl ⟨rfl, .inl ⟨rfl, rfl⟩⟩ _ n3 c3 _ rfl SW (u8s_one _) (by unfold maxLen; omega) (by omega) (Nat.le_refl _) ?_); go_loud (intro v8 w8 O8 hgr8); go_loud (rw [Nat.zero_add, List.nil_append] at O8); go_loud (obtain ⟨a8, c8, rfl, _⟩ := own_form O8))
      have C8 : Chg wz w8 (fun _ => False) := (Chg.refl wz _).grown hgr8 (fun k hk _ => by cases hk)
      refine (unpack_any w8 (own_lst O8) (packB_rng _ _ HX.out) (by omega)).mono ?_
      rintro r w9 ⟨e9, a9, n9, c9, q9, rfl, C9, hg9, _⟩
      have hgd : goodI (packB e xs) := good_packB e xs (by rw [HL.out]; exact HK.out)
      obtain ⟨hq9, he9, hn9, O9⟩ := hg9 hgd
      obtain ⟨hr0, hr1, _⟩ := chkI_rng HK.out
      rw [numB_packB e xs hr0 hr1] at he9
      subst hq9
      subst he9
      rw [midB_packB] at O9
      have C89 := C8.trans C9
      have u0 := C89.cell Z0.out (fun h => h)
      have u1 := C89.cell Z1.out (fun h => h)
      have BN := Box.new w9 39 #[.int .i64 e9, .slice a9 n9 c9]
      have CN : Chg w9 (w9.alloc (.cells #[.int .i64 e9, .slice a9 n9 c9] 39)) (fun _ => False) := (Chg.refl w9 _).alloc _
      have CE := (CW.trans C89).trans CN
      have v0 := CN.cell u0 (fun h => h)
      have v1 := CN.cell u1 (fun h => h)
      have v2 := BN.cell 0
      have v3 := BN.cell 1
      have kc1 := conv_rule _ (own_src (own_chg O9 CN (fun _ _ h => h)))
      have kc2 := conv_rule _ (HS.out.chg CE (fun _ _ h => h))
      generalize strOfNums xs = sx at kc1 kc2
      clear hg9 hgd hn9 O9 O8 SW u0 u1 hr0 hr1
      go_wp2_with (go_at_call 21; refine (num_any _ _).mono ?_; rintro e w' ⟨rfl, rfl⟩)
      go_ret
      exact ⟨by simp, CE.below (Nat.le_refl _) (fun _ _ h => h)⟩
end Go.Proofs.Ytgblnmahniphdaa

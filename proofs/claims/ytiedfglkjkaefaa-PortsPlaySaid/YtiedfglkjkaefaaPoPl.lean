/- PortsPlay: the walk (printed by gen_portsplay.py). -/
import Derived.Test.YtiedfglkjkaefaaPoPy
import Derived.Test.YtiedfglkjkaefaaOwn2
import Derived.Test.YtiedfglkjkaefaaApp
import Derived.Test.YtiedfglkjkaefaaTail
import Derived.Deep.DeepCutAuto
import Derived.Deep.CutBlock
import Derived.Deep.RegionHeld3
import Derived.BigRegion
namespace Go.Proofs.Ytiedfglkjkaefaa
open Go.RowKit Go.Deep

set_option maxRecDepth 100000 in
set_option maxHeartbeats 4000000 in
theorem plays_out {C : Cfg} {ap ac aw : Option Addr} {cp cc cw np nc nw : Nat} {pg mj sw : Int} {al : Option Addr} {L cl : Nat} (W : World) (A : CfgAt W C ap ac aw cp cc cw) (NA : NumsOf C pg mj sw np nc nw) (h : bigV C = true ∨ (bigV C = false ∧ 200 < L)) :
    Calls Try.prog 8 #[.agg #[.int .i64 pg, .int .i64 mj, .int .i64 sw, .slice ap np cp, .slice ac nc cc, .slice aw nw cw], .slice al L cl] W fun e w' => e = .returned (.bool true) ∧ Below W.heap.size W w' := by
  have HA := Lib.hid A
  have HNA := Lib.hid NA
  have BA := Box.new W 32 #[.int .i64 pg, .int .i64 mj, .int .i64 sw, .slice ap np cp, .slice ac nc cc, .slice aw nw cw]
  have HBA := Lib.hid BA
  have HC0 : Hid (Chg W (W.alloc (.cells #[.int .i64 pg, .int .i64 mj, .int .i64 sw, .slice ap np cp, .slice ac nc cc, .slice aw nw cw] 32)) (fun _ => False)) := (Chg.refl W _).alloc _
  clear A NA BA
  go_enter Try.func8, Try.ntmps8
  go_wp2_with fail
  refine (alive18 _).mono ?_
  rintro e w1 ⟨rfl, C1⟩
  have B1 := HBA.out.chg C1 (fun h => h)
  have x0 := B1.cell 0
  have x1 := B1.cell 1
  have x2 := B1.cell 2
  have x3 := B1.cell 3
  have x4 := B1.cell 4
  have x5 := B1.cell 5
  have HC1 := Lib.hid (HC0.out.trans C1)
  have HB1 := Lib.hid B1
  clear C1 B1
  rcases h with h | ⟨h, h'⟩
  · have HG := big_atk (HA.out.keep HC1.out) h HNA.out.h1 HNA.out.h2 HNA.out.h3 HNA.out.ha HNA.out.hb HNA.out.hc
    clear h
    go_wp2_with fail
    refine HG.mono ?_
    rintro e w2 ⟨rfl, C2⟩
    clear HG
    go_wp2_with fail
    go_ret
    exact ⟨rfl, (HC1.out.trans C2).below (Nat.le_refl _) (fun _ _ h => h)⟩
  · have HG := big_atk (HA.out.keep HC1.out) h HNA.out.h1 HNA.out.h2 HNA.out.h3 HNA.out.ha HNA.out.hb HNA.out.hc
    have d1 : decide ((200 : Int) < (L : Int)) = true := decide_eq_true (by omega)
    clear h h'
    go_wp2_with fail
    refine HG.mono ?_
    rintro e w2 ⟨rfl, C2⟩
    clear HG
    go_wp2_with fail
    go_ret
    exact ⟨rfl, (HC1.out.trans C2).below (Nat.le_refl _) (fun _ _ h => h)⟩

set_option maxRecDepth 100000 in
set_option maxHeartbeats 4000000 in
theorem plays_no {C : Cfg} {ap ac aw : Option Addr} {cp cc cw np nc nw : Nat} {pg mj sw : Int} {al : Option Addr} {L cl : Nat} (W : World) (A : CfgAt W C ap ac aw cp cc cw) (NA : NumsOf C pg mj sw np nc nw) (h : bigV C = false) (hL200 : L ≤ 200) (h0 : chk C ≠ 0) :
    Calls Try.prog 8 #[.agg #[.int .i64 pg, .int .i64 mj, .int .i64 sw, .slice ap np cp, .slice ac nc cc, .slice aw nw cw], .slice al L cl] W fun e w' => e = .returned (.bool true) ∧ Below W.heap.size W w' := by
  obtain ⟨k, hk⟩ : ∃ k, chk C = k := ⟨_, rfl⟩
  rw [hk] at h0
  have HKK := Lib.hid hk
  have HK0 := Lib.hid h0
  have hkn : (k != 0) = true := bne_iff_ne.2 h0
  clear hk h0
  have HA := Lib.hid A
  have HNA := Lib.hid NA
  have BA := Box.new W 32 #[.int .i64 pg, .int .i64 mj, .int .i64 sw, .slice ap np cp, .slice ac nc cc, .slice aw nw cw]
  have HBA := Lib.hid BA
  have HC0 : Hid (Chg W (W.alloc (.cells #[.int .i64 pg, .int .i64 mj, .int .i64 sw, .slice ap np cp, .slice ac nc cc, .slice aw nw cw] 32)) (fun _ => False)) := (Chg.refl W _).alloc _
  clear A NA BA
  go_enter Try.func8, Try.ntmps8
  go_wp2_with fail
  refine (alive18 _).mono ?_
  rintro e w1 ⟨rfl, C1⟩
  have B1 := HBA.out.chg C1 (fun h => h)
  have x0 := B1.cell 0
  have x1 := B1.cell 1
  have x2 := B1.cell 2
  have x3 := B1.cell 3
  have x4 := B1.cell 4
  have x5 := B1.cell 5
  have HC1 := Lib.hid (HC0.out.trans C1)
  have HB1 := Lib.hid B1
  clear C1 B1

  have HG := big_atk (HA.out.keep HC1.out) h HNA.out.h1 HNA.out.h2 HNA.out.h3 HNA.out.ha HNA.out.hb HNA.out.hc
  have d1 : decide ((200 : Int) < (L : Int)) = false := decide_eq_false (by omega)
  clear h hL200
  go_wp2_with fail
  refine HG.mono ?_
  rintro e w2 ⟨rfl, C2⟩
  clear HG
  have x0 := C2.cell x0 (fun h => h)
  have x1 := C2.cell x1 (fun h => h)
  have x2 := C2.cell x2 (fun h => h)
  have x3 := C2.cell x3 (fun h => h)
  have x4 := C2.cell x4 (fun h => h)
  have x5 := C2.cell x5 (fun h => h)
  have HC2 := Lib.hid (HC1.out.trans C2)
  clear C2
  have HN := new_no (HA.out.keep HC2.out) HKK.out HK0.out HNA.out.h1 HNA.out.h2 HNA.out.h3 HNA.out.ha HNA.out.hb HNA.out.hc
  go_wp2_with fail
  refine HN.mono ?_
  clear HN
  rintro e w3 ⟨rfl, C3⟩
  have x0 := C3.cell x0 (fun h => h)
  have x1 := C3.cell x1 (fun h => h)
  have x2 := C3.cell x2 (fun h => h)
  have x3 := C3.cell x3 (fun h => h)
  have x4 := C3.cell x4 (fun h => h)
  have x5 := C3.cell x5 (fun h => h)
  have HC3 := Lib.hid (HC2.out.trans C3)
  have KX := Lib.hid (And.intro x0 (And.intro x1 (And.intro x2 (And.intro x3 (And.intro x4 x5)))))
  clear C3 x0 x1 x2 x3 x4 x5
  go_wp2_with fail
  refine wp_region_noPanic ?_
  refine seq_begin (fun w' => Chg w3 w' (fun _ => False)) (by kernel_rfl) ((Chg.refl w3 _).drew) ?_
  refine seq_op 0 (oi := ?oq0) (v := ?vq0) ?hq0 (by kernel_rfl) (by kernel_rfl) (by kernel_rfl) (fun _ _ _ h => h) ?wq0 (fun K wq hS hK => ?yq0) ?rq0
  case hq0 => simp only [List.getElem?_toArray, List.getElem?_cons_succ, List.getElem?_cons_zero]; rfl
  case wq0 => rfl
  case yq0 =>
    have HS := Lib.hid hS
    try dsimp only at hS
    go_simp
    exact hK.out _ HS.out
  try simp only [Act.put, List.setIfInBounds_toArray, List.set_cons_zero, List.set_cons_succ]
  refine seq_op 1 (oi := ?oq1) (v := ?vq1) ?hq1 (by kernel_rfl) (by kernel_rfl) (by kernel_rfl) (fun _ _ _ h => h) ?wq1 (fun K wq hS hK => ?yq1) ?rq1
  case hq1 => simp only [List.getElem?_toArray, List.getElem?_cons_succ, List.getElem?_cons_zero]; rfl
  case wq1 => rfl
  case yq1 =>
    go_simp
    refine (num18_any _ _).mono ?_
    rintro r w7 ⟨rfl, rfl⟩
    have hS2 := hS
    exact hK.out _ hS2
  try simp only [Act.put, List.setIfInBounds_toArray, List.set_cons_zero, List.set_cons_succ]
  refine seq_op 2 (oi := ?oq2) (v := ?vq2) ?hq2 (by kernel_rfl) (by kernel_rfl) (by kernel_rfl) (fun _ _ _ h => h) ?wq2 (fun K wq hS hK => ?yq2) ?rq2
  case hq2 => simp only [List.getElem?_toArray, List.getElem?_cons_succ, List.getElem?_cons_zero]; rfl
  case wq2 => rfl
  case yq2 =>
    have HS2 := Lib.hid hS
    have x0 := hS.cell KX.out.1 (fun h => h)
    have x1 := hS.cell KX.out.2.1 (fun h => h)
    have x2 := hS.cell KX.out.2.2.1 (fun h => h)
    have x3 := hS.cell KX.out.2.2.2.1 (fun h => h)
    have x4 := hS.cell KX.out.2.2.2.2.1 (fun h => h)
    have x5 := hS.cell KX.out.2.2.2.2.2 (fun h => h)
    clear hS
    go_simp
    have hS2 := HS2.out
    exact hK.out _ hS2
  try simp only [Act.put, List.setIfInBounds_toArray, List.set_cons_zero, List.set_cons_succ]
  refine seq_op 3 (oi := ?oq3) (v := ?vq3) ?hq3 (by kernel_rfl) (by kernel_rfl) (by kernel_rfl) (fun _ _ _ h => h) ?wq3 (fun K wq hS hK => ?yq3) ?rq3
  case hq3 => simp only [List.getElem?_toArray, List.getElem?_cons_succ, List.getElem?_cons_zero]; rfl
  case wq3 => rfl
  case yq3 =>
    have HCK := rcheck_atk (HA.out.keep (HC3.out.trans hS)) HKK.out HNA.out.h1 HNA.out.h2 HNA.out.h3 HNA.out.ha HNA.out.hb HNA.out.hc
    have HS2 := Lib.hid hS
    clear hS
    go_simp
    refine HCK.mono ?_
    rintro r w7 ⟨rfl, C7⟩
    have hS2 := HS2.out.trans C7
    exact hK.out _ hS2
  try simp only [Act.put, List.setIfInBounds_toArray, List.set_cons_zero, List.set_cons_succ]
  refine seq_op 4 (oi := ?oq4) (v := ?vq4) ?hq4 (by kernel_rfl) (by kernel_rfl) (by kernel_rfl) (fun _ _ _ h => h) ?wq4 (fun K wq hS hK => ?yq4) ?rq4
  case hq4 => simp only [List.getElem?_toArray, List.getElem?_cons_succ, List.getElem?_cons_zero]; rfl
  case wq4 => rfl
  case yq4 =>
    have HS := Lib.hid hS
    try dsimp only at hS
    go_simp
    exact hK.out _ HS.out
  try simp only [Act.put, List.setIfInBounds_toArray, List.set_cons_zero, List.set_cons_succ]
  refine seq_op 5 (oi := ?oq5) (v := ?vq5) ?hq5 (by kernel_rfl) (by kernel_rfl) (by kernel_rfl) (fun _ _ _ h => h) ?wq5 (fun K wq hS hK => ?yq5) ?rq5
  case hq5 => simp only [List.getElem?_toArray, List.getElem?_cons_succ, List.getElem?_cons_zero]; rfl
  case wq5 => rfl
  case yq5 =>
    have HS := Lib.hid hS
    try dsimp only at hS
    go_simp
    exact hK.out _ HS.out
  try simp only [Act.put, List.setIfInBounds_toArray, List.set_cons_zero, List.set_cons_succ]
  refine seq_op 6 (oi := ?oq6) (v := ?vq6) ?hq6 (by kernel_rfl) (by kernel_rfl) (by kernel_rfl) (fun _ _ _ h => h) ?wq6 (fun K wq hS hK => ?yq6) ?rq6
  case hq6 => simp only [List.getElem?_toArray, List.getElem?_cons_succ, List.getElem?_cons_zero]; rfl
  case wq6 => rfl
  case yq6 =>
    have HS := Lib.hid hS
    try dsimp only at hS
    go_simp
    exact hK.out _ HS.out
  try simp only [Act.put, List.setIfInBounds_toArray, List.set_cons_zero, List.set_cons_succ]
  refine seq_op 7 (oi := ?oq7) (v := ?vq7) ?hq7 (by kernel_rfl) (by kernel_rfl) (by kernel_rfl) (fun _ _ _ h => h) ?wq7 (fun K wq hS hK => ?yq7) ?rq7
  case hq7 => simp only [List.getElem?_toArray, List.getElem?_cons_succ, List.getElem?_cons_zero]; rfl
  case wq7 => rfl
  case yq7 =>
    have HS := Lib.hid hS
    try dsimp only at hS
    go_simp
    exact hK.out _ HS.out
  try simp only [Act.put, List.setIfInBounds_toArray, List.set_cons_zero, List.set_cons_succ]
  refine seq_op 8 (oi := ?oq8) (v := ?vq8) ?hq8 (by kernel_rfl) (by kernel_rfl) (by kernel_rfl) (fun _ _ _ h => h) ?wq8 (fun K wq hS hK => ?yq8) ?rq8
  case hq8 => simp only [List.getElem?_toArray, List.getElem?_cons_succ, List.getElem?_cons_zero]; rfl
  case wq8 => rfl
  case yq8 =>
    have HS := Lib.hid hS
    try dsimp only at hS
    go_simp
    exact hK.out _ HS.out
  try simp only [Act.put, List.setIfInBounds_toArray, List.set_cons_zero, List.set_cons_succ]
  refine seq_op 9 (oi := ?oq9) (v := ?vq9) ?hq9 (by kernel_rfl) (by kernel_rfl) (by kernel_rfl) (fun _ _ _ h => h) ?wq9 (fun K wq hS hK => ?yq9) ?rq9
  case hq9 => simp only [List.getElem?_toArray, List.getElem?_cons_succ, List.getElem?_cons_zero]; rfl
  case wq9 => rfl
  case yq9 =>
    go_simp
    refine (num18_any _ _).mono ?_
    rintro r w7 ⟨rfl, rfl⟩
    have hS2 := hS
    exact hK.out _ hS2
  try simp only [Act.put, List.setIfInBounds_toArray, List.set_cons_zero, List.set_cons_succ]
  refine seq_op 10 (oi := ?oq10) (v := ?vq10) ?hq10 (by kernel_rfl) (by kernel_rfl) (by kernel_rfl) (fun _ _ _ h => h) ?wq10 (fun K wq hS hK => ?yq10) ?rq10
  case hq10 => simp only [List.getElem?_toArray, List.getElem?_cons_succ, List.getElem?_cons_zero]; rfl
  case wq10 => rfl
  case yq10 =>
    have HS := Lib.hid hS
    try dsimp only at hS
    go_simp
    exact hK.out _ HS.out
  try simp only [Act.put, List.setIfInBounds_toArray, List.set_cons_zero, List.set_cons_succ]
  refine seq_op 11 (oi := ?oq11) (v := ?vq11) ?hq11 (by kernel_rfl) (by kernel_rfl) (by kernel_rfl) (fun _ _ _ h => h) ?wq11 (fun K wq hS hK => ?yq11) ?rq11
  case hq11 => simp only [List.getElem?_toArray, List.getElem?_cons_succ, List.getElem?_cons_zero]; rfl
  case wq11 => rfl
  case yq11 =>
    have HS := Lib.hid hS
    try dsimp only at hS
    go_simp
    exact hK.out _ HS.out
  try simp only [Act.put, List.setIfInBounds_toArray, List.set_cons_zero, List.set_cons_succ]
  refine seq_op 12 (oi := ?oq12) (v := ?vq12) ?hq12 (by kernel_rfl) (by kernel_rfl) (by kernel_rfl) (fun _ _ _ h => h) ?wq12 (fun K wq hS hK => ?yq12) ?rq12
  case hq12 => simp only [List.getElem?_toArray, List.getElem?_cons_succ, List.getElem?_cons_zero]; rfl
  case wq12 => rfl
  case yq12 =>
    have HS := Lib.hid hS
    try dsimp only at hS
    go_simp
    exact hK.out _ HS.out
  try simp only [Act.put, List.setIfInBounds_toArray, List.set_cons_zero, List.set_cons_succ]
  refine seq_done (by kernel_rfl) (fun wz hSz => ?_) _
  refine NoPanic.normal ?_
  have HCZ := Lib.hid (HC3.out.trans hSz)
  clear hSz
  go_wp2_with fail
  go_ret
  exact ⟨rfl, HCZ.out.below (Nat.le_refl _) (fun _ _ h => h)⟩

set_option maxRecDepth 100000 in
set_option maxHeartbeats 32000000 in
theorem plays_in {C : Cfg} {ap ac aw : Option Addr} {cp cc cw np nc nw : Nat} {pg mj sw : Int} {al : Option Addr} {L cl : Nat} {l : List PAct} (W : World) (A : CfgAt W C ap ac aw cp cc cw) (NA : NumsOf C pg mj sw np nc nw) (hlm : L ≤ maxLen) (h : bigV C = false) (hL200 : L ≤ 200) (h0 : chk C = 0) (hL : l.length = L) (hl : Lst W al L cl (l.flatMap paCells) 9) (hold : ∀ ad, al = some ad → 0 < L → ad.block < W.heap.size) (hok : ∀ x ∈ l, PaOk W x) (ho : ∀ ad, ac = some ad → 0 < nc → ad.block < W.heap.size) :
    Calls Try.prog 8 #[.agg #[.int .i64 pg, .int .i64 mj, .int .i64 sw, .slice ap np cp, .slice ac nc cc, .slice aw nw cw], .slice al L cl] W fun e w' => e = .returned (.bool true) ∧ Below W.heap.size W w' := by
  have HKK := Lib.hid h0
  have HLL := Lib.hid hL
  have HL := Lib.hid hl
  have HOLD := Lib.hid hold
  have HOK := Lib.hid hok
  have HO := Lib.hid ho
  have HL2 := Lib.hid hL200
  clear h0 hL hl hold hok ho
  have HA := Lib.hid A
  have HNA := Lib.hid NA
  have BA := Box.new W 32 #[.int .i64 pg, .int .i64 mj, .int .i64 sw, .slice ap np cp, .slice ac nc cc, .slice aw nw cw]
  have HBA := Lib.hid BA
  have HC0 : Hid (Chg W (W.alloc (.cells #[.int .i64 pg, .int .i64 mj, .int .i64 sw, .slice ap np cp, .slice ac nc cc, .slice aw nw cw] 32)) (fun _ => False)) := (Chg.refl W _).alloc _
  clear A NA BA
  go_enter Try.func8, Try.ntmps8
  go_wp2_with fail
  refine (alive18 _).mono ?_
  rintro e w1 ⟨rfl, C1⟩
  have B1 := HBA.out.chg C1 (fun h => h)
  have x0 := B1.cell 0
  have x1 := B1.cell 1
  have x2 := B1.cell 2
  have x3 := B1.cell 3
  have x4 := B1.cell 4
  have x5 := B1.cell 5
  have HC1 := Lib.hid (HC0.out.trans C1)
  have HB1 := Lib.hid B1
  clear C1 B1

  have HG := big_atk (HA.out.keep HC1.out) h HNA.out.h1 HNA.out.h2 HNA.out.h3 HNA.out.ha HNA.out.hb HNA.out.hc
  have d1 : decide ((200 : Int) < (L : Int)) = false := decide_eq_false (by omega)
  clear h hL200
  go_wp2_with fail
  refine HG.mono ?_
  rintro e w2 ⟨rfl, C2⟩
  clear HG
  have x0 := C2.cell x0 (fun h => h)
  have x1 := C2.cell x1 (fun h => h)
  have x2 := C2.cell x2 (fun h => h)
  have x3 := C2.cell x3 (fun h => h)
  have x4 := C2.cell x4 (fun h => h)
  have x5 := C2.cell x5 (fun h => h)
  have HC2 := Lib.hid (HC1.out.trans C2)
  clear C2
  have HN := new_p (HA.out.keep HC2.out) HKK.out HNA.out.h1 HNA.out.h2 HNA.out.h3 HNA.out.ha HNA.out.hb HNA.out.hc
  go_wp2_with fail
  refine HN.mono ?_
  clear HN
  rintro e w3 ⟨n, rfl, N3, C3⟩
  have x0 := C3.cell x0 (fun h => h)
  have x1 := C3.cell x1 (fun h => h)
  have x2 := C3.cell x2 (fun h => h)
  have x3 := C3.cell x3 (fun h => h)
  have x4 := C3.cell x4 (fun h => h)
  have x5 := C3.cell x5 (fun h => h)
  have hs2 := HC2.out.size
  have HN3 : Hid (NetP w3 (fun k => k < w2.heap.size) n C.chans (fun _ => [])) := N3
  have HS2 := Lib.hid hs2
  have HC3 := Lib.hid (HC2.out.trans C3)
  have KX := Lib.hid (And.intro x0 (And.intro x1 (And.intro x2 (And.intro x3 (And.intro x4 x5)))))
  clear C3 N3 hs2 x0 x1 x2 x3 x4 x5
  go_wp2_with fail
  refine wp_region_noPanic ?_
  refine seq_begin (fun w' => Chg w3 w' (fun _ => False)) (by kernel_rfl) ((Chg.refl w3 _).drew) ?_
  refine seq_op 0 (oi := ?oq0) (v := ?vq0) ?hq0 (by kernel_rfl) (by kernel_rfl) (by kernel_rfl) (fun _ _ _ h => h) ?wq0 (fun K wq hS hK => ?yq0) ?rq0
  case hq0 => simp only [List.getElem?_toArray, List.getElem?_cons_succ, List.getElem?_cons_zero]; rfl
  case wq0 => rfl
  case yq0 =>
    have HS := Lib.hid hS
    try dsimp only at hS
    go_simp
    exact hK.out _ HS.out
  try simp only [Act.put, List.setIfInBounds_toArray, List.set_cons_zero, List.set_cons_succ]
  refine seq_op 1 (oi := ?oq1) (v := ?vq1) ?hq1 (by kernel_rfl) (by kernel_rfl) (by kernel_rfl) (fun _ _ _ h => h) ?wq1 (fun K wq hS hK => ?yq1) ?rq1
  case hq1 => simp only [List.getElem?_toArray, List.getElem?_cons_succ, List.getElem?_cons_zero]; rfl
  case wq1 => rfl
  case yq1 =>
    go_simp
    refine (num18_any _ _).mono ?_
    rintro r w7 ⟨rfl, rfl⟩
    have hS2 := hS
    exact hK.out _ hS2
  try simp only [Act.put, List.setIfInBounds_toArray, List.set_cons_zero, List.set_cons_succ]
  refine seq_op 2 (oi := ?oq2) (v := ?vq2) ?hq2 (by kernel_rfl) (by kernel_rfl) (by kernel_rfl) (fun _ _ _ h => h) ?wq2 (fun K wq hS hK => ?yq2) ?rq2
  case hq2 => simp only [List.getElem?_toArray, List.getElem?_cons_succ, List.getElem?_cons_zero]; rfl
  case wq2 => rfl
  case yq2 =>
    have HS2 := Lib.hid hS
    have x0 := hS.cell KX.out.1 (fun h => h)
    have x1 := hS.cell KX.out.2.1 (fun h => h)
    have x2 := hS.cell KX.out.2.2.1 (fun h => h)
    have x3 := hS.cell KX.out.2.2.2.1 (fun h => h)
    have x4 := hS.cell KX.out.2.2.2.2.1 (fun h => h)
    have x5 := hS.cell KX.out.2.2.2.2.2 (fun h => h)
    clear hS
    go_simp
    have hS2 := HS2.out
    exact hK.out _ hS2
  try simp only [Act.put, List.setIfInBounds_toArray, List.set_cons_zero, List.set_cons_succ]
  refine seq_op 3 (oi := ?oq3) (v := ?vq3) ?hq3 (by kernel_rfl) (by kernel_rfl) (by kernel_rfl) (fun _ _ _ h => h) ?wq3 (fun K wq hS hK => ?yq3) ?rq3
  case hq3 => simp only [List.getElem?_toArray, List.getElem?_cons_succ, List.getElem?_cons_zero]; rfl
  case wq3 => rfl
  case yq3 =>
    have HCK := rcheck_atk (HA.out.keep (HC3.out.trans hS)) HKK.out HNA.out.h1 HNA.out.h2 HNA.out.h3 HNA.out.ha HNA.out.hb HNA.out.hc
    have HS2 := Lib.hid hS
    clear hS
    go_simp
    refine HCK.mono ?_
    rintro r w7 ⟨rfl, C7⟩
    have hS2 := HS2.out.trans C7
    exact hK.out _ hS2
  try simp only [Act.put, List.setIfInBounds_toArray, List.set_cons_zero, List.set_cons_succ]
  refine seq_op 4 (oi := ?oq4) (v := ?vq4) ?hq4 (by kernel_rfl) (by kernel_rfl) (by kernel_rfl) (fun _ _ _ h => h) ?wq4 (fun K wq hS hK => ?yq4) ?rq4
  case hq4 => simp only [List.getElem?_toArray, List.getElem?_cons_succ, List.getElem?_cons_zero]; rfl
  case wq4 => rfl
  case yq4 =>
    have HS := Lib.hid hS
    try dsimp only at hS
    go_simp
    exact hK.out _ HS.out
  try simp only [Act.put, List.setIfInBounds_toArray, List.set_cons_zero, List.set_cons_succ]
  refine seq_op 5 (oi := ?oq5) (v := ?vq5) ?hq5 (by kernel_rfl) (by kernel_rfl) (by kernel_rfl) (fun _ _ _ h => h) ?wq5 (fun K wq hS hK => ?yq5) ?rq5
  case hq5 => simp only [List.getElem?_toArray, List.getElem?_cons_succ, List.getElem?_cons_zero]; rfl
  case wq5 => rfl
  case yq5 =>
    have HS := Lib.hid hS
    try dsimp only at hS
    go_simp
    exact hK.out _ HS.out
  try simp only [Act.put, List.setIfInBounds_toArray, List.set_cons_zero, List.set_cons_succ]
  refine seq_op 6 (oi := ?oq6) (v := ?vq6) ?hq6 (by kernel_rfl) (by kernel_rfl) (by kernel_rfl) (fun _ _ _ h => h) ?wq6 (fun K wq hS hK => ?yq6) ?rq6
  case hq6 => simp only [List.getElem?_toArray, List.getElem?_cons_succ, List.getElem?_cons_zero]; rfl
  case wq6 => rfl
  case yq6 =>
    have HS := Lib.hid hS
    try dsimp only at hS
    go_simp
    exact hK.out _ HS.out
  try simp only [Act.put, List.setIfInBounds_toArray, List.set_cons_zero, List.set_cons_succ]
  refine seq_op 7 (oi := ?oq7) (v := ?vq7) ?hq7 (by kernel_rfl) (by kernel_rfl) (by kernel_rfl) (fun _ _ _ h => h) ?wq7 (fun K wq hS hK => ?yq7) ?rq7
  case hq7 => simp only [List.getElem?_toArray, List.getElem?_cons_succ, List.getElem?_cons_zero]; rfl
  case wq7 => rfl
  case yq7 =>
    have HS := Lib.hid hS
    try dsimp only at hS
    go_simp
    exact hK.out _ HS.out
  try simp only [Act.put, List.setIfInBounds_toArray, List.set_cons_zero, List.set_cons_succ]
  refine seq_op 8 (oi := ?oq8) (v := ?vq8) ?hq8 (by kernel_rfl) (by kernel_rfl) (by kernel_rfl) (fun _ _ _ h => h) ?wq8 (fun K wq hS hK => ?yq8) ?rq8
  case hq8 => simp only [List.getElem?_toArray, List.getElem?_cons_succ, List.getElem?_cons_zero]; rfl
  case wq8 => rfl
  case yq8 =>
    have HS := Lib.hid hS
    try dsimp only at hS
    go_simp
    exact hK.out _ HS.out
  try simp only [Act.put, List.setIfInBounds_toArray, List.set_cons_zero, List.set_cons_succ]
  refine seq_op 9 (oi := ?oq9) (v := ?vq9) ?hq9 (by kernel_rfl) (by kernel_rfl) (by kernel_rfl) (fun _ _ _ h => h) ?wq9 (fun K wq hS hK => ?yq9) ?rq9
  case hq9 => simp only [List.getElem?_toArray, List.getElem?_cons_succ, List.getElem?_cons_zero]; rfl
  case wq9 => rfl
  case yq9 =>
    go_simp
    refine (num18_any _ _).mono ?_
    rintro r w7 ⟨rfl, rfl⟩
    have hS2 := hS
    exact hK.out _ hS2
  try simp only [Act.put, List.setIfInBounds_toArray, List.set_cons_zero, List.set_cons_succ]
  refine seq_op 10 (oi := ?oq10) (v := ?vq10) ?hq10 (by kernel_rfl) (by kernel_rfl) (by kernel_rfl) (fun _ _ _ h => h) ?wq10 (fun K wq hS hK => ?yq10) ?rq10
  case hq10 => simp only [List.getElem?_toArray, List.getElem?_cons_succ, List.getElem?_cons_zero]; rfl
  case wq10 => rfl
  case yq10 =>
    have HS := Lib.hid hS
    try dsimp only at hS
    go_simp
    exact hK.out _ HS.out
  try simp only [Act.put, List.setIfInBounds_toArray, List.set_cons_zero, List.set_cons_succ]
  refine seq_op 11 (oi := ?oq11) (v := ?vq11) ?hq11 (by kernel_rfl) (by kernel_rfl) (by kernel_rfl) (fun _ _ _ h => h) ?wq11 (fun K wq hS hK => ?yq11) ?rq11
  case hq11 => simp only [List.getElem?_toArray, List.getElem?_cons_succ, List.getElem?_cons_zero]; rfl
  case wq11 => rfl
  case yq11 =>
    have HS := Lib.hid hS
    try dsimp only at hS
    go_simp
    exact hK.out _ HS.out
  try simp only [Act.put, List.setIfInBounds_toArray, List.set_cons_zero, List.set_cons_succ]
  refine seq_op 12 (oi := ?oq12) (v := ?vq12) ?hq12 (by kernel_rfl) (by kernel_rfl) (by kernel_rfl) (fun _ _ _ h => h) ?wq12 (fun K wq hS hK => ?yq12) ?rq12
  case hq12 => simp only [List.getElem?_toArray, List.getElem?_cons_succ, List.getElem?_cons_zero]; rfl
  case wq12 => rfl
  case yq12 =>
    have HS := Lib.hid hS
    try dsimp only at hS
    go_simp
    exact hK.out _ HS.out
  try simp only [Act.put, List.setIfInBounds_toArray, List.set_cons_zero, List.set_cons_succ]
  refine seq_done (by kernel_rfl) (fun wz hSz => ?_) _
  refine NoPanic.normal ?_
  have HCZ := Lib.hid hSz
  have x0 := hSz.cell KX.out.1 (fun h => h)
  have x1 := hSz.cell KX.out.2.1 (fun h => h)
  have x2 := hSz.cell KX.out.2.2.1 (fun h => h)
  have x3 := hSz.cell KX.out.2.2.2.1 (fun h => h)
  have x4 := hSz.cell KX.out.2.2.2.2.1 (fun h => h)
  have x5 := hSz.cell KX.out.2.2.2.2.2 (fun h => h)
  have HRN := rnew_net (pg := pg) (mj := mj) (sw := sw) (np := np) (nw := nw) (base := W.heap.size) (HA.out.keep (HC3.out.trans hSz)) HKK.out HNA.out.hb HO.out (HC3.out.trans hSz).size
  clear hSz
  go_wp2_with fail
  refine HRN.mono ?_
  clear HRN
  rintro e w5 ⟨D, hDl, hDb, rfl, R5, C5⟩
  have HR5 := Lib.hid R5
  have HC5 := Lib.hid C5
  have HDl := Lib.hid hDl
  have HDb := Lib.hid hDb
  obtain ⟨rn, hrn⟩ : ∃ rn, D.n = rn := ⟨_, rfl⟩
  have HRN := Lib.hid hrn
  rw [hrn]
  clear R5 C5 hDl hDb hrn x0 x1 x2 x3 x4 x5
  go_wp2_with fail
  refine (new_at 1 4096 pgN_one _).mono ?_
  rintro e w6 ⟨a, b, M6⟩
  have hr6 := M6.ret
  subst hr6
  have HM6 := Lib.hid M6
  clear M6
  have hpg : pgN 1 = 4096 := pgN_one
  go_wp2_with fail
  refine (rnew_any 1 _).mono ?_
  rintro e w7 ⟨va, vb, M7⟩
  rw [hpg] at M7
  have hr7 := M7.ret
  subst hr7
  have HP0 : Hid (Play W w7 (fun k => k < W.heap.size) n rn C.chans a b va vb (fun _ => []) (fun _ => []) (fun _ => 0) (fun _ => 0)) := by
    have := play_start (W := W) HN3.out (fun k hk => Nat.lt_of_lt_of_le hk HS2.out) HC3.out HCZ.out HR5.out HDb.out HDl.out HC5.out (Chg.refl w5 _) HM6.out M7
    rw [HRN.out] at this
    exact this
  clear M7 hpg HN3 HS2 HC3 HCZ HR5 HC5 HDl HDb HRN HM6 KX HA HBA HC0 HC1 HB1 HC2
  obtain ⟨cs, hcs⟩ : ∃ cs, C.chans = cs := ⟨_, rfl⟩
  rw [hcs] at HP0
  clear hcs HKK HNA HO
  go_wp2_with fail
  go_loopg [12] L (fun g s12 wr => ∃ (i : Nat) (Q : Que) (f : Nat → Int), g + i = L ∧ s12 = .int .i64 i ∧ Hid (Play W wr (fun k => k < W.heap.size) n rn cs a b va vb Q Q f f))
  case atStart => exact ⟨0, _, _, rfl, rfl, HP0⟩
  case round =>
    obtain ⟨i, Q, f, hi, rfl, HPi⟩ := hrel
    by_cases hlt : i < L
    · have hlt2 : i < l.length := by rw [HLL.out]; exact hlt
      have S0 := HL.out.chg HPi.out.chg (fun ad e hn => hn (HOLD.out ad e (by omega)))
      obtain ⟨gl, ol, rfl⟩ := HL.out.pos (by omega)
      have c0 := Lst.cell0 (n := 9) (l := l) (f := paCells) (fun _ => rfl) S0 i (by decide) hlt2 rfl
      have c1 := Lst.cell (n := 9) (l := l) (f := paCells) (fun _ => rfl) S0 i 1 (by decide) hlt2 rfl
      have c2 := Lst.cell (n := 9) (l := l) (f := paCells) (fun _ => rfl) S0 i 2 (by decide) hlt2 rfl
      have c3 := Lst.cell (n := 9) (l := l) (f := paCells) (fun _ => rfl) S0 i 3 (by decide) hlt2 rfl
      have c4 := Lst.cell (n := 9) (l := l) (f := paCells) (fun _ => rfl) S0 i 4 (by decide) hlt2 rfl
      have c5 := Lst.cell (n := 9) (l := l) (f := paCells) (fun _ => rfl) S0 i 5 (by decide) hlt2 rfl
      have c6 := Lst.cell (n := 9) (l := l) (f := paCells) (fun _ => rfl) S0 i 6 (by decide) hlt2 rfl
      have c7 := Lst.cell (n := 9) (l := l) (f := paCells) (fun _ => rfl) S0 i 7 (by decide) hlt2 rfl
      have c8 := Lst.cell (n := 9) (l := l) (f := paCells) (fun _ => rfl) S0 i 8 (by decide) hlt2 rfl
      have hak := HOK.out _ (List.getElem_mem hlt2)
      obtain ⟨x, hx⟩ : ∃ x, l[i] = x := ⟨_, rfl⟩
      rw [hx] at c0 c1 c2 c3 c4 c5 c6 c7 c8 hak
      obtain ⟨aw, pt, po, mx, op, z0, z1, z2, bo, bm, bc, xs⟩ := x
      have HPA : Hid (Arg W bo bm bc xs) := hak.arg
      have HMX : Hid (bm ≤ maxLen) := hak.mx
      have HPO : Hid (-9223372036854775808 ≤ po ∧ po ≤ 9223372036854775807) := ⟨hak.p1, hak.p2⟩
      have BA := Box.new wr 62 #[.int .i64 aw, .int .i64 pt, .int .i64 po, .int .i64 mx, .int .i64 op, .int .i64 z0, .int .i64 z1, .int .i64 z2, .slice bo bm bc]
      have PA := Lib.hid (HPi.out.adopt (X' := fun k => k < W.heap.size ∨ k = wr.heap.size) ((Chg.refl wr (fun _ => False)).alloc (.cells #[.int .i64 aw, .int .i64 pt, .int .i64 po, .int .i64 mx, .int .i64 op, .int .i64 z0, .int .i64 z1, .int .i64 z2, .slice bo bm bc] 62)) (fun _ h => h.elim) (fun k hk => hk.imp id (fun h => ⟨by omega, by simp; omega⟩)) (fun k hk => .inl hk))
      have HGT := Lib.hid HPi.out.size
      have hj0 : (0 : Int) ≤ (i : Int) := by omega
      have hj1 : (i : Int) < (L : Int) := by omega
      have y8 := BA.cell 8
      have HBA := Lib.hid BA
      have hbm0 : bm ≤ 9223372036854775807 := HMX.out
      have HI := Lib.hid hi
      clear S0 hx hak hi BA
      go_upto_block 1 with fail
      go_cut [13] (fun s wx => ∃ (Q' : Que) (f' : Nat → Int), Hid (Play W wx (fun k => k < W.heap.size) n rn cs a b va vb (Q') (Q') (f') (f')))
      case first =>
        by_cases hb1 : 1000 < bm
        case pos =>
          have d0 : decide ((1000 : Int) < (bm : Int)) = true := decide_eq_true (by omega)
          clear hb1
          go_wp2_with fail
          go_ret
          exact ⟨rfl, PA.out.chg.below (Nat.le_refl _) (fun j hj h => h hj)⟩
        have d0 : decide ((1000 : Int) < (bm : Int)) = false := decide_eq_false (by omega)
        have hbm : bm ≤ 1000 := by omega
        clear hb1
        go_upto_block 2 with fail
        obtain ⟨ag, hag⟩ : ∃ ag, wr.heap.size = ag := ⟨_, rfl⟩
        rw [hag] at HBA PA HGT ⊢
        generalize wr.alloc (.cells #[.int .i64 aw, .int .i64 pt, .int .i64 po, .int .i64 mx, .int .i64 op, .int .i64 z0, .int .i64 z1, .int .i64 z2, .slice bo bm bc] 62) = w4 at HBA PA ⊢
        clear hag c0 c1 c2 c3 c4 c5 c6 c7 c8 y8 HPi d0
        have HS4 : Hid (Src w4 bo bm bc (u8s xs) 1) := src_chg0 HPA.out.src PA.out.chg (fun ad e h0 hn => hn (HPA.out.old ad e h0))
        have hagl := HBA.out.lt
        have y0 := HBA.out.cell 0
        have y1 := HBA.out.cell 1
        have y2 := HBA.out.cell 2
        have y3 := HBA.out.cell 3
        have y4 := HBA.out.cell 4
        have y5 := HBA.out.cell 5
        have y6 := HBA.out.cell 6
        have y7 := HBA.out.cell 7
        have y8 := HBA.out.cell 8
        by_cases e0 : aw = 0
        · skip
          as_aux_lemma =>
            have g0 : (aw == 0) = true := beq_iff_eq.2 e0
            clear e0
            obtain ⟨i0, hi0, hz0, hz1, hz2⟩ := info_parts info_u8
            go_upto_region 24 with fail
            go_cut [14] (fun s wx => ∃ g d, s = .slice (some ⟨g, 0, none⟩) bm d ∧ Hid (wx.ownsRow w4.heap.size 5 1 (.slice (some ⟨g, 0, none⟩) (bm + 1) d) (bm + 1) (u8s xs ++ [.int .u8 7])) ∧ Hid (Chg w4 wx (fun _ => False)) ∧ bm + 1 ≤ d)
            case first =>
              refine wp_region_noPanic ?_
              refine wp_region_L 8 (fun w' => w'.cell? ⟨ag, 8, none⟩ = some (.slice bo bm bc)) (by kernel_rfl) (y8) (fun hHeld => ?_)
              refine wpAnyL_take (i := 0) (oi := ?oia0) (v := ?va0) ?hia0 (by kernel_rfl) (by kernel_rfl) (by kernel_rfl) (by kernel_rfl) (fun _ _ _ h => h) (Or.inl ⟨?hwa0, ?hya0⟩) (by assumption) ?hra0
              case hia0 => simp only [List.getElem?_toArray, List.getElem?_cons_succ, List.getElem?_cons_zero]; rfl
              case hwa0 => rfl
              case hya0 => intro wq hSq; (try dsimp only at hSq); go_simp; (try with_reducible rfl)
              try simp only [Act.put, List.setIfInBounds_toArray, List.set_cons_zero, List.set_cons_succ]
              refine wpAnyL_take (i := 1) (oi := ?oia1) (v := ?va1) ?hia1 (by kernel_rfl) (by kernel_rfl) (by kernel_rfl) (by kernel_rfl) (fun _ _ _ h => h) (Or.inl ⟨?hwa1, ?hya1⟩) (by assumption) ?hra1
              case hia1 => simp only [List.getElem?_toArray, List.getElem?_cons_succ, List.getElem?_cons_zero]; rfl
              case hwa1 => rfl
              case hya1 => intro wq hSq; (try dsimp only at hSq); go_simp; (try with_reducible rfl)
              try simp only [Act.put, List.setIfInBounds_toArray, List.set_cons_zero, List.set_cons_succ]
              refine wpAnyL_take (i := 5) (oi := ?oia5) (v := ?va5) ?hia5 (by kernel_rfl) (by kernel_rfl) (by kernel_rfl) (by kernel_rfl) (fun _ _ _ h => h) (Or.inl ⟨?hwa5, ?hya5⟩) (by assumption) ?hra5
              case hia5 => simp only [List.getElem?_toArray, List.getElem?_cons_succ, List.getElem?_cons_zero]; rfl
              case hwa5 => rfl
              case hya5 => intro wq hSq; (try dsimp only at hSq); go_simp; (try with_reducible rfl)
              try simp only [Act.put, List.setIfInBounds_toArray, List.set_cons_zero, List.set_cons_succ]
              refine wpAnyL_take (i := 6) (oi := ?oia6) (v := ?va6) ?hia6 (by kernel_rfl) (by kernel_rfl) (by kernel_rfl) (by kernel_rfl) (fun _ _ _ h => h) (Or.inl ⟨?hwa6, ?hya6⟩) (by assumption) ?hra6
              case hia6 => simp only [List.getElem?_toArray, List.getElem?_cons_succ, List.getElem?_cons_zero]; rfl
              case hwa6 => rfl
              case hya6 => intro wq hSq; (try dsimp only at hSq); go_simp; (try with_reducible rfl)
              try simp only [Act.put, List.setIfInBounds_toArray, List.set_cons_zero, List.set_cons_succ]
              refine wpAnyL_take (i := 7) (oi := ?oia7) (v := ?va7) ?hia7 (by kernel_rfl) (by kernel_rfl) (by kernel_rfl) (by kernel_rfl) (fun _ _ _ h => h) (Or.inl ⟨?hwa7, ?hya7⟩) (by assumption) ?hra7
              case hia7 => simp only [List.getElem?_toArray, List.getElem?_cons_succ, List.getElem?_cons_zero]; rfl
              case hwa7 => rfl
              case hya7 => intro wq hSq; (try dsimp only at hSq); go_simp; (try with_reducible rfl)
              try simp only [Act.put, List.setIfInBounds_toArray, List.set_cons_zero, List.set_cons_succ]
              refine wpAnyL_ready (rs := [2, 3]) (by kernel_rfl) (by simp) ?_
              refine AllReadyL.cons rfl (fun K hK => ?_) (AllReadyL.cons rfl (fun K hK => ?_) AllReadyL.nil)
              · skip
                refine op_append_src (.const (.slice none 0 0)) (.tmp 111) _ rfl w4.heap.size 5 i0 _ 1 1 Try.underlying22 hi0 hz0 hz1 hz2 rfl (by omega) (.slice none 0 0) 0 [] rfl (World.ownsRow_nil _ _ _ _) bo bm bc (u8s xs) rfl (HS4.out.drew) (u8s_one _) (by unfold maxLen; omega) (by omega) (Nat.le_refl _) ?_
                intro v1 w1 O1x g1x
                rw [Nat.zero_add, List.nil_append] at O1x
                have C1x : Chg w4 w1 (fun _ => False) := ((Chg.refl w4 _).drew).grown g1x (fun j hj _ => by cases hj)
                obtain ⟨a1, c1, rfl, -⟩ := own_form O1x
                change K (Act.put _ (some 112) _) _
                simp only [Act.put, List.setIfInBounds_toArray, List.set_cons_zero, List.set_cons_succ]
                refine hK.out _ _ (.inl (C1x.cell y8 (fun h => h))) (fun hHeld => ?_)
                replace hHeld := SOr.stands hHeld (by kernel_rfl)
                clear hK K
                try simp only [Act.put, List.setIfInBounds_toArray, List.set_cons_zero, List.set_cons_succ]
                refine wpAnyL_ready (rs := [3]) (by kernel_rfl) (by simp) ?_
                refine AllReadyL.cons rfl (fun K hK => ?_) AllReadyL.nil
                go_simp
                have C2x : Chg w1 (w1.alloc (.cells #[.int .u8 7] 5)) (fun _ => False) := (Chg.refl w1 _).alloc _
                have SB := (Box.new w1 5 #[.int .u8 7]).src 1 1 1 [.int .u8 7] rfl rfl
                have OX := own_alloc O1x (.cells #[.int .u8 7] 5)
                refine hK.out _ _ (.inl ((C1x.trans C2x).cell y8 (fun h => h))) (fun hHeld => ?_)
                replace hHeld := SOr.stands hHeld (by kernel_rfl)
                clear hK K
                try simp only [Act.put, List.setIfInBounds_toArray, List.set_cons_zero, List.set_cons_succ]
                refine wpAnyL_ready (rs := [4]) (by kernel_rfl) (by simp) ?_
                refine AllReadyL.cons rfl (fun K hK => ?_) AllReadyL.nil
                refine op_append_src (.tmp 112) (.tmp 113) _ rfl w4.heap.size 5 i0 _ 1 1 Try.underlying22 hi0 hz0 hz1 hz2 rfl (by omega) _ bm (u8s xs) rfl OX (some ⟨w1.heap.size, 0, none⟩) 1 1 [.int .u8 7] rfl SB (by intro u hu; simp only [List.mem_cons, List.not_mem_nil, or_false] at hu; rcases hu with rfl; rfl) (by unfold maxLen; omega) (by omega) (by have := C1x.size; have := C2x.size; omega) ?_
                intro v2 wz O2 g2x
                have CX : Chg w4 wz (fun _ => False) := (C1x.trans C2x).grown g2x (fun j hj h => by have := (OX.lt j hj).1; omega)
                obtain ⟨g, d, rfl, hg0, hg1, hgc, hgm⟩ := own_block O2 (by omega)
                change K (Act.put _ (some 114) _) _
                simp only [Act.put, List.setIfInBounds_toArray, List.set_cons_zero, List.set_cons_succ]
                refine hK.out _ _ (.inl (CX.cell y8 (fun h => h))) (fun hHeld => ?_)
                replace hHeld := SOr.stands hHeld (by kernel_rfl)
                clear hK K
                try simp only [Act.put, List.setIfInBounds_toArray, List.set_cons_zero, List.set_cons_succ]
                refine wpAnyL_tail (l := [9]) (by kernel_rfl) (by kernel_rfl) ?_
                simp only [tailOps, List.filterMap_cons, List.filterMap_nil, List.getElem?_toArray, List.getElem?_cons_succ, List.getElem?_cons_zero]
                clear hHeld y8
                have hgn : (bm : Int) ≤ (d : Int) := by omega
                have hgn0 : (0 : Int) ≤ (bm : Int) := by omega
                have HO := Lib.hid O2
                have HCX := Lib.hid CX
                clear O2 CX
                go_wp2_with fail
                refine NoPanic.normal ?_
                go_wp2_with fail
                go_meet
                exact ⟨g, d, rfl, HO, HCX, by omega⟩
              · skip
                go_simp
                have C1x : Chg w4 (w4.alloc (.cells #[.int .u8 7] 5)).drew (fun _ => False) := ((Chg.refl w4 _).alloc _).drew
                have SB := ((Box.new w4 5 #[.int .u8 7]).src 1 1 1 [.int .u8 7] rfl rfl).drew
                refine hK.out _ _ (.inl (C1x.cell y8 (fun h => h))) (fun hHeld => ?_)
                replace hHeld := SOr.stands hHeld (by kernel_rfl)
                clear hK K
                try simp only [Act.put, List.setIfInBounds_toArray, List.set_cons_zero, List.set_cons_succ]
                refine wpAnyL_ready (rs := [2]) (by kernel_rfl) (by simp) ?_
                refine AllReadyL.cons rfl (fun K hK => ?_) AllReadyL.nil
                refine op_append_src (.const (.slice none 0 0)) (.tmp 111) _ rfl w4.heap.size 5 i0 _ 1 1 Try.underlying22 hi0 hz0 hz1 hz2 rfl (by omega) (.slice none 0 0) 0 [] rfl (World.ownsRow_nil _ _ _ _) bo bm bc (u8s xs) rfl (HS4.out.chg C1x (fun _ _ h => h)) (u8s_one _) (by unfold maxLen; omega) (by omega) (C1x.size) ?_
                intro v1 w1 O1x g1x
                rw [Nat.zero_add, List.nil_append] at O1x
                have C2x : Chg (w4.alloc (.cells #[.int .u8 7] 5)).drew w1 (fun _ => False) := (Chg.refl _ _).grown g1x (fun j hj _ => by cases hj)
                obtain ⟨a1, c1, rfl, -⟩ := own_form O1x
                change K (Act.put _ (some 112) _) _
                simp only [Act.put, List.setIfInBounds_toArray, List.set_cons_zero, List.set_cons_succ]
                refine hK.out _ _ (.inl (C2x.cell (C1x.cell y8 (fun h => h)) (fun h => h))) (fun hHeld => ?_)
                replace hHeld := SOr.stands hHeld (by kernel_rfl)
                clear hK K
                try simp only [Act.put, List.setIfInBounds_toArray, List.set_cons_zero, List.set_cons_succ]
                refine wpAnyL_ready (rs := [4]) (by kernel_rfl) (by simp) ?_
                refine AllReadyL.cons rfl (fun K hK => ?_) AllReadyL.nil
                refine op_append_src (.tmp 112) (.tmp 113) _ rfl w4.heap.size 5 i0 _ 1 1 Try.underlying22 hi0 hz0 hz1 hz2 rfl (by omega) _ bm (u8s xs) rfl O1x (some ⟨w4.heap.size, 0, none⟩) 1 1 [.int .u8 7] rfl (SB.chg C2x (fun _ _ h => h)) (by intro u hu; simp only [List.mem_cons, List.not_mem_nil, or_false] at hu; rcases hu with rfl; rfl) (by unfold maxLen; omega) (by omega) (by have := C1x.size; have := C2x.size; omega) ?_
                intro v2 wz O2 g2x
                have CX : Chg w4 wz (fun _ => False) := (C1x.trans C2x).grown g2x (fun j hj h => by have := (O1x.lt j hj).1; omega)
                obtain ⟨g, d, rfl, hg0, hg1, hgc, hgm⟩ := own_block O2 (by omega)
                change K (Act.put _ (some 114) _) _
                simp only [Act.put, List.setIfInBounds_toArray, List.set_cons_zero, List.set_cons_succ]
                refine hK.out _ _ (.inl (CX.cell y8 (fun h => h))) (fun hHeld => ?_)
                replace hHeld := SOr.stands hHeld (by kernel_rfl)
                clear hK K
                try simp only [Act.put, List.setIfInBounds_toArray, List.set_cons_zero, List.set_cons_succ]
                refine wpAnyL_tail (l := [9]) (by kernel_rfl) (by kernel_rfl) ?_
                simp only [tailOps, List.filterMap_cons, List.filterMap_nil, List.getElem?_toArray, List.getElem?_cons_succ, List.getElem?_cons_zero]
                clear hHeld y8
                have hgn : (bm : Int) ≤ (d : Int) := by omega
                have hgn0 : (0 : Int) ≤ (bm : Int) := by omega
                have HO := Lib.hid O2
                have HCX := Lib.hid CX
                clear O2 CX
                go_wp2_with fail
                refine NoPanic.normal ?_
                go_wp2_with fail
                go_meet
                exact ⟨g, d, rfl, HO, HCX, by omega⟩
            case rest =>
              obtain ⟨g, d, rfl, HO5, HC5, hgd⟩ := hcut
              have hg := HO5.out.lt g rfl
              have hgw : W.heap.size ≤ g := by have := PA.out.size; omega
              have hgag : ag ≠ g := by omega
              have HP5 := Lib.hid (PA.out.adopt (X' := fun k => (k < W.heap.size ∨ k = ag) ∨ k = g) HC5.out (fun _ h => h.elim) (fun k hk => hk.imp id (fun h => ⟨by omega, by omega⟩)) (fun k hk => .inl (.inl hk)))
              have HB5 := Lib.hid (HBA.out.chg HC5.out (fun h => h))
              have HS5 := Lib.hid (HS4.out.chg HC5.out (fun _ _ h => h))
              have HSO : Hid (Src wc (some ⟨g, 0, none⟩) bm d (u8s xs) 1) := ⟨by rw [u8s_length, HPA.out.len, Nat.mul_one], fun h => (by cases h), fun ad e j u hu => (own_src HO5.out).get ad e j u (by rw [List.getElem?_append_left (List.getElem?_eq_some_iff.1 hu).1]; exact hu)⟩
              clear y0 y1 y2 y3 y4 y5 y6 y7 y8 hi0 hz0 hz1 hz2
              have y1 := HB5.out.cell 1
              have y2 := HB5.out.cell 2
              have y8 := HB5.out.cell 8
              have HW := play_write HP5.out pt po HPO.out.1 HPO.out.2 bm HPA.out.len HSO.out HPA.out.byt hbm0
              obtain ⟨r, hr⟩ : ∃ r, wrC cs Q pt po bm = r := ⟨_, rfl⟩
              rw [hr] at HW
              have HR := Lib.hid hr
              clear hr
              go_wp2_with fail
              refine HW.mono ?_
              clear HW
              rintro e w6 ⟨rfl, P6, C6⟩
              have HP6 := Lib.hid P6
              have HB6 := Lib.hid (HB5.out.chg C6 (fun h => h (.inl (.inr rfl))))
              have HO6 := Lib.hid (own_chg HO5.out C6 (fun k hk h => h (.inr (by injection hk with hk; exact hk.symm))))
              have HS6 := Lib.hid (src_chg0 HS5.out C6 (fun ad e h0 hn => hn (.inl (.inl (HPA.out.old ad e h0)))))
              clear P6 C6 y1 y2 y8
              go_wp2_with fail
              go_loopw [16] (fun i wx => ∃ q : Nat, q ≤ bm ∧ i = .int .i64 q ∧ (∃ zs : List Int, Hid (zs.length = bm + 1) ∧ Hid (wx.ownsRow w4.heap.size 5 1 (.slice (some ⟨g, 0, none⟩) (bm + 1) d) (bm + 1) (u8s zs))) ∧ Hid (Chg w6 wx (fun k => k = g))) (fun i _ => bm - (intOf i).toNat)
              case atStart => exact ⟨0, by omega, rfl, ⟨xs ++ [7], by show (xs ++ [7]).length = bm + 1; rw [List.length_append, HPA.out.len]; rfl, by have := HO6.out; rw [show u8s xs ++ [.int .u8 7] = u8s (xs ++ [7]) from by simp [u8s]] at this; exact this⟩, Chg.refl _ _⟩
              case round =>
                obtain ⟨q, hq, rfl, ⟨zs, HZ, HOq⟩, HCq⟩ := hrel
                by_cases hlq : q < bm
                case neg =>
                  have hql : q = bm := by omega
                  subst hql
                  have HP7 := Lib.hid (HP6.out.adopt HCq.out (fun k h => ⟨.inr h, by omega⟩) (fun k hk => .inl hk) (fun k hk => .inl (.inl hk)))
                  have HB7 := Lib.hid (HB6.out.chg HCq.out (fun h => hgag h))
                  have HS7 := Lib.hid (src_chg0 HS6.out HCq.out (fun ad e h0 hn => by have := HPA.out.old ad e h0; omega))
                  have HW := rplay_write HP7.out pt po q HPA.out.len HS7.out HPA.out.byt hbm0
                  rw [HR.out] at HW
                  have y1 := HB7.out.cell 1
                  have y2 := HB7.out.cell 2
                  have y8 := HB7.out.cell 8
                  have qr : (r != r) = false := by simp
                  clear HOq HCq
                  go_wp2_with fail
                  refine HW.mono ?_
                  clear HW
                  rintro e w8 ⟨rfl, P8, C8⟩
                  go_wp2_with fail
                  go_meet
                  exact ⟨_, _, P8.mono (fun k hk => .inl (.inl hk)) (fun _ h => h)⟩
                have d4 : decide ((q : Int) < (bm : Int)) = true := decide_eq_true (by omega)
                have hq0 : (0 : Int) ≤ (q : Int) := by omega
                have hq1 : (q : Int) < (bm : Int) := by omega
                have hzl : q < zs.length := by rw [HZ.out]; omega
                have dd : wr.cell? ⟨g, q, none⟩ = some (.int .u8 zs[q]) := own_cells HOq.out _ _ (by simp [u8s, hzl])
                have ff := own_frozen HOq.out q
                have hgl := (HOq.out.lt g rfl).2
                obtain ⟨zq, hzq⟩ : ∃ z, zs[q] = z := ⟨_, rfl⟩
                rw [hzq] at dd
                clear hzq
                go_wp2_with fail
                go_roundw
                case rel => exact ⟨q + 1, by omega, by go_num, ⟨zs.set q (bits .xor .u8 zq 255), by show (zs.set q _).length = _; rw [List.length_set]; exact HZ.out, by have := own_setB HOq.out q (.int .u8 (bits .xor .u8 zq 255)); rw [u8s_set] at this; exact this⟩, (HCq.out).setCell (p := ⟨g, q, none⟩) (fun _ => rfl) _⟩
                case measure => simp [intOf]; omega
        by_cases e1 : aw = 1
        · skip
          as_aux_lemma =>
            have g0 : (aw == 0) = false := beq_eq_false_iff_ne.2 e0
            have g1 : (aw == 1) = true := beq_iff_eq.2 e1
            clear e0 e1
            have HR1 := play_read PA.out pt po mx HPO.out.1 HPO.out.2
            obtain ⟨ys, hys⟩ : ∃ ys, rdB cs Q pt po mx = ys := ⟨_, rfl⟩
            obtain ⟨r, hr⟩ : ∃ r, rdC cs Q pt po mx = r := ⟨_, rfl⟩
            obtain ⟨Q1, hQ1⟩ : ∃ q, rdQ cs Q pt po mx = q := ⟨_, rfl⟩
            obtain ⟨m, hm⟩ : ∃ m, ys.length = m := ⟨_, rfl⟩
            obtain ⟨st, hst⟩ : ∃ st, strOfNums ys = st := ⟨_, rfl⟩
            have HY := Lib.hid (And.intro hys (And.intro hr (And.intro hQ1 (And.intro hm hst))))
            rw [hys, hr, hQ1] at HR1
            clear hys hr hQ1 hm hst
            go_wp2_with fail
            refine HR1.mono ?_
            clear HR1
            rintro e w6 ⟨a6, d, rfl, O6, P6, C6⟩
            rw [HY.out.2.2.2.1] at O6 P6 ⊢
            have HO6 := Lib.hid O6
            have HP6 := Lib.hid P6
            have HB6 := Lib.hid (HBA.out.chg C6 (fun h => h (.inr rfl)))
            clear O6 P6 C6 y0 y1 y2 y3 y4 y5 y6 y7 y8
            have y1 := HB6.out.cell 1
            have y2 := HB6.out.cell 2
            have y3 := HB6.out.cell 3
            have HR2 := rplay_read HP6.out pt po mx
            rw [HY.out.1, HY.out.2.1, HY.out.2.2.1] at HR2
            go_wp2_with fail
            refine HR2.mono ?_
            clear HR2
            rintro e w8 ⟨a8, c8, rfl, O8, P8, C8⟩
            rw [HY.out.2.2.2.1] at O8 P8 ⊢
            have HO7 := Lib.hid (own_chg HO6.out C8 (fun k hk h => h (.inr hk)))
            have HP8 := Lib.hid P8
            have k6 : (convert 22 9 (.slice a6 m d)).run Try.prog w8 = .ok (.string st) w8 := by rw [← HY.out.2.2.2.2]; exact conv_rule2 w8 (own_src HO7.out)
            have k8 : (convert 22 9 (.slice a8 m c8)).run Try.prog w8 = .ok (.string st) w8 := by rw [← HY.out.2.2.2.2]; exact conv_rule2 w8 (own_src O8)
            have qr : (r != r) = false := by simp
            have hml : ys.length = m := HY.out.2.2.2.1
            have HML := Lib.hid hml
            clear P8 C8 O8 y1 y2 y3 hml
            go_wp2_with fail
            go_loopw [21] (fun i wx => ∃ q : Nat, q ≤ m ∧ i = .int .i64 q ∧ (∃ zs : List Int, Hid (zs.length = m) ∧ Hid (wx.ownsRow w4.heap.size 5 1 (.slice a6 m d) m (u8s zs))) ∧ Hid (Chg w8 wx (fun k => (Value.slice a6 m d).ownBlock = some k))) (fun i _ => m - (intOf i).toNat)
            case atStart => exact ⟨0, by omega, rfl, ⟨ys, HML, HO7⟩, Chg.refl _ _⟩
            case round =>
              obtain ⟨q, hq, rfl, ⟨zs, HZ, HOq⟩, HCq⟩ := hrel
              by_cases hlq : q < m
              case neg =>
                have hql : q = m := by omega
                subst hql
                have HP9 := Lib.hid (HP8.out.adopt HCq.out (fun k h => ⟨.inl (.inr h), by have := (HO7.out.lt k h).1; have := PA.out.size; omega⟩) (fun k hk => .inl hk) (fun k hk => .inl (.inl (.inl hk))))
                clear k6 k8
                go_wp2_with fail
                go_meet
                exact ⟨_, _, HP9.out.mono (fun k hk => .inl (.inl (.inl hk))) (fun _ h => h)⟩
              obtain ⟨g, d', hv, hg1, hg2, hg3, hg4⟩ := own_block HOq.out (by omega)
              unfold maxLen at hg4
              injection hv with e1 e2 e3
              subst e1 e3
              have d4 : decide ((q : Int) < (m : Int)) = true := decide_eq_true (by omega)
              have hq0 : (0 : Int) ≤ (q : Int) := by omega
              have hq1 : (q : Int) < (m : Int) := by omega
              have hzl : q < zs.length := by rw [HZ.out]; omega
              have dd : wr.cell? ⟨g, q, none⟩ = some (.int .u8 zs[q]) := own_cells HOq.out _ _ (by simp [u8s, hzl])
              have ff := own_frozen HOq.out q
              obtain ⟨zq, hzq⟩ : ∃ z, zs[q] = z := ⟨_, rfl⟩
              rw [hzq] at dd
              clear hzq k6 k8
              go_wp2_with fail
              go_roundw
              case rel => exact ⟨q + 1, by omega, by go_num, ⟨zs.set q (bits .xor .u8 zq 255), by show (zs.set q _).length = _; rw [List.length_set]; exact HZ.out, by have := own_setB HOq.out q (.int .u8 (bits .xor .u8 zq 255)); rw [u8s_set] at this; exact this⟩, (HCq.out).setCell (p := ⟨g, q, none⟩) (fun _ => rfl) _⟩
              case measure => simp [intOf]; omega
        by_cases e2 : aw = 2
        · skip
          as_aux_lemma =>
            have g0 : (aw == 0) = false := beq_eq_false_iff_ne.2 e0
            have g1 : (aw == 1) = false := beq_eq_false_iff_ne.2 e1
            have g2 : (aw == 2) = true := beq_iff_eq.2 e2
            clear e0 e1 e2 y1 y2 y3 y4 y5 y6 y7 y8
            go_wp2_with fail
            refine wp_region_noPanic ?_
            refine seq_begin (fun w' => Chg w4 w' (fun _ => False)) (by kernel_rfl) ((Chg.refl w4 _).drew) ?_
            refine seq_op 0 (oi := ?os0) (v := ?vs0) ?hs0 (by kernel_rfl) (by kernel_rfl) (by kernel_rfl) (fun _ _ _ h => h) ?ws0 (fun K wq hS hK => ?ys0) ?rs0
            case hs0 => simp only [List.getElem?_toArray, List.getElem?_cons_succ, List.getElem?_cons_zero]; rfl
            case ws0 => rfl
            case ys0 =>
              have HS := Lib.hid hS
              try dsimp only at hS
              go_simp
              exact hK.out _ HS.out
            try simp only [Act.put, List.setIfInBounds_toArray, List.set_cons_zero, List.set_cons_succ]
            refine seq_op 1 (oi := ?os1) (v := ?vs1) ?hs1 (by kernel_rfl) (by kernel_rfl) (by kernel_rfl) (fun _ _ _ h => h) ?ws1 (fun K wq hS hK => ?ys1) ?rs1
            case hs1 => simp only [List.getElem?_toArray, List.getElem?_cons_succ, List.getElem?_cons_zero]; rfl
            case ws1 => rfl
            case ys1 =>
              have HS := Lib.hid hS
              try dsimp only at hS
              go_simp
              exact hK.out _ HS.out
            try simp only [Act.put, List.setIfInBounds_toArray, List.set_cons_zero, List.set_cons_succ]
            refine seq_op 2 (oi := ?os2) (v := ?vs2) ?hs2 (by kernel_rfl) (by kernel_rfl) (by kernel_rfl) (fun _ _ _ h => h) ?ws2 (fun K wq hS hK => ?ys2) ?rs2
            case hs2 => simp only [List.getElem?_toArray, List.getElem?_cons_succ, List.getElem?_cons_zero]; rfl
            case ws2 => rfl
            case ys2 =>
              have HS2 := Lib.hid hS
              have yy := (HBA.out.chg hS (fun h => h)).cell 1
              clear hS
              go_simp
              have hS2 := HS2.out
              exact hK.out _ hS2
            try simp only [Act.put, List.setIfInBounds_toArray, List.set_cons_zero, List.set_cons_succ]
            refine seq_op 3 (oi := ?os3) (v := ?vs3) ?hs3 (by kernel_rfl) (by kernel_rfl) (by kernel_rfl) (fun _ _ _ h => h) ?ws3 (fun K wq hS hK => ?ys3) ?rs3
            case hs3 => simp only [List.getElem?_toArray, List.getElem?_cons_succ, List.getElem?_cons_zero]; rfl
            case ws3 => rfl
            case ys3 =>
              have HS := Lib.hid hS
              try dsimp only at hS
              go_simp
              exact hK.out _ HS.out
            try simp only [Act.put, List.setIfInBounds_toArray, List.set_cons_zero, List.set_cons_succ]
            refine seq_op 4 (oi := ?os4) (v := ?vs4) ?hs4 (by kernel_rfl) (by kernel_rfl) (by kernel_rfl) (fun _ _ _ h => h) ?ws4 (fun K wq hS hK => ?ys4) ?rs4
            case hs4 => simp only [List.getElem?_toArray, List.getElem?_cons_succ, List.getElem?_cons_zero]; rfl
            case ws4 => rfl
            case ys4 =>
              have HS2 := Lib.hid hS
              have yy := (HBA.out.chg hS (fun h => h)).cell 2
              clear hS
              go_simp
              have hS2 := HS2.out
              exact hK.out _ hS2
            try simp only [Act.put, List.setIfInBounds_toArray, List.set_cons_zero, List.set_cons_succ]
            refine seq_op 5 (oi := ?os5) (v := ?vs5) ?hs5 (by kernel_rfl) (by kernel_rfl) (by kernel_rfl) (fun _ _ _ h => h) ?ws5 (fun K wq hS hK => ?ys5) ?rs5
            case hs5 => simp only [List.getElem?_toArray, List.getElem?_cons_succ, List.getElem?_cons_zero]; rfl
            case ws5 => rfl
            case ys5 =>
              have HCK := play_status (PA.out.keep hS) pt po HPO.out.1 HPO.out.2
              have HS2 := Lib.hid hS
              clear hS
              go_simp
              refine HCK.mono ?_
              rintro r w7 ⟨rfl, C7⟩
              have hS2 := HS2.out.trans C7
              exact hK.out _ hS2
            try simp only [Act.put, List.setIfInBounds_toArray, List.set_cons_zero, List.set_cons_succ]
            refine seq_op 6 (oi := ?os6) (v := ?vs6) ?hs6 (by kernel_rfl) (by kernel_rfl) (by kernel_rfl) (fun _ _ _ h => h) ?ws6 (fun K wq hS hK => ?ys6) ?rs6
            case hs6 => simp only [List.getElem?_toArray, List.getElem?_cons_succ, List.getElem?_cons_zero]; rfl
            case ws6 => rfl
            case ys6 =>
              have HS := Lib.hid hS
              try dsimp only at hS
              go_simp
              exact hK.out _ HS.out
            try simp only [Act.put, List.setIfInBounds_toArray, List.set_cons_zero, List.set_cons_succ]
            refine seq_op 7 (oi := ?os7) (v := ?vs7) ?hs7 (by kernel_rfl) (by kernel_rfl) (by kernel_rfl) (fun _ _ _ h => h) ?ws7 (fun K wq hS hK => ?ys7) ?rs7
            case hs7 => simp only [List.getElem?_toArray, List.getElem?_cons_succ, List.getElem?_cons_zero]; rfl
            case ws7 => rfl
            case ys7 =>
              have HS := Lib.hid hS
              try dsimp only at hS
              go_simp
              exact hK.out _ HS.out
            try simp only [Act.put, List.setIfInBounds_toArray, List.set_cons_zero, List.set_cons_succ]
            refine seq_op 8 (oi := ?os8) (v := ?vs8) ?hs8 (by kernel_rfl) (by kernel_rfl) (by kernel_rfl) (fun _ _ _ h => h) ?ws8 (fun K wq hS hK => ?ys8) ?rs8
            case hs8 => simp only [List.getElem?_toArray, List.getElem?_cons_succ, List.getElem?_cons_zero]; rfl
            case ws8 => rfl
            case ys8 =>
              have HS2 := Lib.hid hS
              have yy := (HBA.out.chg hS (fun h => h)).cell 1
              clear hS
              go_simp
              have hS2 := HS2.out
              exact hK.out _ hS2
            try simp only [Act.put, List.setIfInBounds_toArray, List.set_cons_zero, List.set_cons_succ]
            refine seq_op 9 (oi := ?os9) (v := ?vs9) ?hs9 (by kernel_rfl) (by kernel_rfl) (by kernel_rfl) (fun _ _ _ h => h) ?ws9 (fun K wq hS hK => ?ys9) ?rs9
            case hs9 => simp only [List.getElem?_toArray, List.getElem?_cons_succ, List.getElem?_cons_zero]; rfl
            case ws9 => rfl
            case ys9 =>
              have HS := Lib.hid hS
              try dsimp only at hS
              go_simp
              exact hK.out _ HS.out
            try simp only [Act.put, List.setIfInBounds_toArray, List.set_cons_zero, List.set_cons_succ]
            refine seq_op 10 (oi := ?os10) (v := ?vs10) ?hs10 (by kernel_rfl) (by kernel_rfl) (by kernel_rfl) (fun _ _ _ h => h) ?ws10 (fun K wq hS hK => ?ys10) ?rs10
            case hs10 => simp only [List.getElem?_toArray, List.getElem?_cons_succ, List.getElem?_cons_zero]; rfl
            case ws10 => rfl
            case ys10 =>
              have HS2 := Lib.hid hS
              have yy := (HBA.out.chg hS (fun h => h)).cell 2
              clear hS
              go_simp
              have hS2 := HS2.out
              exact hK.out _ hS2
            try simp only [Act.put, List.setIfInBounds_toArray, List.set_cons_zero, List.set_cons_succ]
            refine seq_op 11 (oi := ?os11) (v := ?vs11) ?hs11 (by kernel_rfl) (by kernel_rfl) (by kernel_rfl) (fun _ _ _ h => h) ?ws11 (fun K wq hS hK => ?ys11) ?rs11
            case hs11 => simp only [List.getElem?_toArray, List.getElem?_cons_succ, List.getElem?_cons_zero]; rfl
            case ws11 => rfl
            case ys11 =>
              have HCK := rplay_status (PA.out.keep hS) pt po
              have HS2 := Lib.hid hS
              clear hS
              go_simp
              refine HCK.mono ?_
              rintro r w7 ⟨rfl, C7⟩
              have hS2 := HS2.out.trans C7
              exact hK.out _ hS2
            try simp only [Act.put, List.setIfInBounds_toArray, List.set_cons_zero, List.set_cons_succ]
            refine seq_op 12 (oi := ?os12) (v := ?vs12) ?hs12 (by kernel_rfl) (by kernel_rfl) (by kernel_rfl) (fun _ _ _ h => h) ?ws12 (fun K wq hS hK => ?ys12) ?rs12
            case hs12 => simp only [List.getElem?_toArray, List.getElem?_cons_succ, List.getElem?_cons_zero]; rfl
            case ws12 => rfl
            case ys12 =>
              have HS := Lib.hid hS
              try dsimp only at hS
              go_simp
              exact hK.out _ HS.out
            try simp only [Act.put, List.setIfInBounds_toArray, List.set_cons_zero, List.set_cons_succ]
            refine seq_done (by kernel_rfl) (fun wz hSz => ?_) _
            refine NoPanic.normal ?_
            have HP9 := Lib.hid (PA.out.keep hSz)
            obtain ⟨r, hr⟩ : ∃ r, stC cs Q pt po = r := ⟨_, rfl⟩
            rw [hr]
            have qr : (r != r) = false := by simp
            clear hSz hr
            go_wp2_with fail
            go_meet
            exact ⟨_, _, HP9.out.mono (fun k hk => .inl hk) (fun _ h => h)⟩
        by_cases e3 : aw = 3
        · skip
          as_aux_lemma =>
            have g0 : (aw == 0) = false := beq_eq_false_iff_ne.2 e0
            have g1 : (aw == 1) = false := beq_eq_false_iff_ne.2 e1
            have g2 : (aw == 2) = false := beq_eq_false_iff_ne.2 e2
            have g3 : (aw == 3) = true := beq_iff_eq.2 e3
            clear e0 e1 e2 e3 y1 y2 y3 y4 y5 y6 y7 y8
            go_wp2_with fail
            refine wp_region_noPanic ?_
            refine seq_begin (fun w' => Chg w4 w' (fun _ => False)) (by kernel_rfl) ((Chg.refl w4 _).drew) ?_
            refine seq_op 0 (oi := ?ot0) (v := ?vt0) ?ht0 (by kernel_rfl) (by kernel_rfl) (by kernel_rfl) (fun _ _ _ h => h) ?wt0 (fun K wq hS hK => ?yt0) ?rt0
            case ht0 => simp only [List.getElem?_toArray, List.getElem?_cons_succ, List.getElem?_cons_zero]; rfl
            case wt0 => rfl
            case yt0 =>
              have HS := Lib.hid hS
              try dsimp only at hS
              go_simp
              exact hK.out _ HS.out
            try simp only [Act.put, List.setIfInBounds_toArray, List.set_cons_zero, List.set_cons_succ]
            refine seq_op 1 (oi := ?ot1) (v := ?vt1) ?ht1 (by kernel_rfl) (by kernel_rfl) (by kernel_rfl) (fun _ _ _ h => h) ?wt1 (fun K wq hS hK => ?yt1) ?rt1
            case ht1 => simp only [List.getElem?_toArray, List.getElem?_cons_succ, List.getElem?_cons_zero]; rfl
            case wt1 => rfl
            case yt1 =>
              have HS := Lib.hid hS
              try dsimp only at hS
              go_simp
              exact hK.out _ HS.out
            try simp only [Act.put, List.setIfInBounds_toArray, List.set_cons_zero, List.set_cons_succ]
            refine seq_op 2 (oi := ?ot2) (v := ?vt2) ?ht2 (by kernel_rfl) (by kernel_rfl) (by kernel_rfl) (fun _ _ _ h => h) ?wt2 (fun K wq hS hK => ?yt2) ?rt2
            case ht2 => simp only [List.getElem?_toArray, List.getElem?_cons_succ, List.getElem?_cons_zero]; rfl
            case wt2 => rfl
            case yt2 =>
              have HS2 := Lib.hid hS
              have yy := (HBA.out.chg hS (fun h => h)).cell 1
              clear hS
              go_simp
              have hS2 := HS2.out
              exact hK.out _ hS2
            try simp only [Act.put, List.setIfInBounds_toArray, List.set_cons_zero, List.set_cons_succ]
            refine seq_op 3 (oi := ?ot3) (v := ?vt3) ?ht3 (by kernel_rfl) (by kernel_rfl) (by kernel_rfl) (fun _ _ _ h => h) ?wt3 (fun K wq hS hK => ?yt3) ?rt3
            case ht3 => simp only [List.getElem?_toArray, List.getElem?_cons_succ, List.getElem?_cons_zero]; rfl
            case wt3 => rfl
            case yt3 =>
              have HCK := play_messages (PA.out.keep hS) pt
              have HS2 := Lib.hid hS
              clear hS
              go_simp
              refine HCK.mono ?_
              rintro r w7 ⟨rfl, C7⟩
              have hS2 := HS2.out.trans C7
              exact hK.out _ hS2
            try simp only [Act.put, List.setIfInBounds_toArray, List.set_cons_zero, List.set_cons_succ]
            refine seq_op 4 (oi := ?ot4) (v := ?vt4) ?ht4 (by kernel_rfl) (by kernel_rfl) (by kernel_rfl) (fun _ _ _ h => h) ?wt4 (fun K wq hS hK => ?yt4) ?rt4
            case ht4 => simp only [List.getElem?_toArray, List.getElem?_cons_succ, List.getElem?_cons_zero]; rfl
            case wt4 => rfl
            case yt4 =>
              have HS := Lib.hid hS
              try dsimp only at hS
              go_simp
              exact hK.out _ HS.out
            try simp only [Act.put, List.setIfInBounds_toArray, List.set_cons_zero, List.set_cons_succ]
            refine seq_op 5 (oi := ?ot5) (v := ?vt5) ?ht5 (by kernel_rfl) (by kernel_rfl) (by kernel_rfl) (fun _ _ _ h => h) ?wt5 (fun K wq hS hK => ?yt5) ?rt5
            case ht5 => simp only [List.getElem?_toArray, List.getElem?_cons_succ, List.getElem?_cons_zero]; rfl
            case wt5 => rfl
            case yt5 =>
              have HS := Lib.hid hS
              try dsimp only at hS
              go_simp
              exact hK.out _ HS.out
            try simp only [Act.put, List.setIfInBounds_toArray, List.set_cons_zero, List.set_cons_succ]
            refine seq_op 6 (oi := ?ot6) (v := ?vt6) ?ht6 (by kernel_rfl) (by kernel_rfl) (by kernel_rfl) (fun _ _ _ h => h) ?wt6 (fun K wq hS hK => ?yt6) ?rt6
            case ht6 => simp only [List.getElem?_toArray, List.getElem?_cons_succ, List.getElem?_cons_zero]; rfl
            case wt6 => rfl
            case yt6 =>
              have HS2 := Lib.hid hS
              have yy := (HBA.out.chg hS (fun h => h)).cell 1
              clear hS
              go_simp
              have hS2 := HS2.out
              exact hK.out _ hS2
            try simp only [Act.put, List.setIfInBounds_toArray, List.set_cons_zero, List.set_cons_succ]
            refine seq_op 7 (oi := ?ot7) (v := ?vt7) ?ht7 (by kernel_rfl) (by kernel_rfl) (by kernel_rfl) (fun _ _ _ h => h) ?wt7 (fun K wq hS hK => ?yt7) ?rt7
            case ht7 => simp only [List.getElem?_toArray, List.getElem?_cons_succ, List.getElem?_cons_zero]; rfl
            case wt7 => rfl
            case yt7 =>
              have HCK := rplay_messages (PA.out.keep hS) pt
              have HS2 := Lib.hid hS
              clear hS
              go_simp
              refine HCK.mono ?_
              rintro r w7 ⟨rfl, C7⟩
              have hS2 := HS2.out.trans C7
              exact hK.out _ hS2
            try simp only [Act.put, List.setIfInBounds_toArray, List.set_cons_zero, List.set_cons_succ]
            refine seq_op 8 (oi := ?ot8) (v := ?vt8) ?ht8 (by kernel_rfl) (by kernel_rfl) (by kernel_rfl) (fun _ _ _ h => h) ?wt8 (fun K wq hS hK => ?yt8) ?rt8
            case ht8 => simp only [List.getElem?_toArray, List.getElem?_cons_succ, List.getElem?_cons_zero]; rfl
            case wt8 => rfl
            case yt8 =>
              have HS := Lib.hid hS
              try dsimp only at hS
              go_simp
              exact hK.out _ HS.out
            try simp only [Act.put, List.setIfInBounds_toArray, List.set_cons_zero, List.set_cons_succ]
            refine seq_done (by kernel_rfl) (fun wz hSz => ?_) _
            refine NoPanic.normal ?_
            have HP9 := Lib.hid (PA.out.keep hSz)
            obtain ⟨r, hr⟩ : ∃ r, msK cs Q pt cs.length = r := ⟨_, rfl⟩
            rw [hr]
            have qr : (r != r) = false := by simp
            clear hSz hr
            go_wp2_with fail
            go_meet
            exact ⟨_, _, HP9.out.mono (fun k hk => .inl hk) (fun _ h => h)⟩
        as_aux_lemma =>
          have g0 : (aw == 0) = false := beq_eq_false_iff_ne.2 e0
          have g1 : (aw == 1) = false := beq_eq_false_iff_ne.2 e1
          have g2 : (aw == 2) = false := beq_eq_false_iff_ne.2 e2
          have g3 : (aw == 3) = false := beq_eq_false_iff_ne.2 e3
          clear e0 e1 e2 e3
          go_upto_region 20 with fail
          obtain ⟨r0, hr0⟩ : ∃ r, z0 % 4294967296 = r := ⟨_, rfl⟩
          obtain ⟨r1, hr1⟩ : ∃ r, z1 % 4294967296 = r := ⟨_, rfl⟩
          obtain ⟨r2, hr2⟩ : ∃ r, z2 % 4294967296 = r := ⟨_, rfl⟩
          have HB0 : Hid ((0 ≤ r0 ∧ r0 ≤ 4294967295) ∧ (0 ≤ r1 ∧ r1 ≤ 4294967295) ∧ (0 ≤ r2 ∧ r2 ≤ 4294967295)) := ⟨by omega, by omega, by omega⟩
          go_cut [22] (fun s wx => s = .pointer (some ⟨w4.heap.size, 0, none⟩) ∧ Hid (Box wx w4.heap.size 50 #[.int .i64 r0, .int .i64 r1, .int .i64 r2]) ∧ Hid (Chg w4 wx (fun _ => False)))
          case first =>
            clear HB0
            subst hr0 hr1 hr2
            refine wp_region_noPanic ?_
            refine wp_region_L 14 (fun w' => w'.cell? ⟨ag, 5, none⟩ = some (.int .i64 z0) ∧ w'.cell? ⟨ag, 6, none⟩ = some (.int .i64 z1) ∧ w'.cell? ⟨ag, 7, none⟩ = some (.int .i64 z2)) (by kernel_rfl) (⟨y5, y6, y7⟩) (fun hHeld => ?_)
            refine wpAnyL_take (i := 0) (oi := ?oiv0) (v := ?vv0) ?hiv0 (by kernel_rfl) (by kernel_rfl) (by kernel_rfl) (by kernel_rfl) (fun _ _ _ h => h) (Or.inl ⟨?hwv0, ?hyv0⟩) (by assumption) ?hrv0
            case hiv0 => simp only [List.getElem?_toArray, List.getElem?_cons_succ, List.getElem?_cons_zero]; rfl
            case hwv0 => rfl
            case hyv0 => intro wq hSq; (try dsimp only at hSq); go_simp; (try with_reducible rfl)
            try simp only [Act.put, List.setIfInBounds_toArray, List.set_cons_zero, List.set_cons_succ]
            refine wpAnyL_take (i := 1) (oi := ?oiv1) (v := ?vv1) ?hiv1 (by kernel_rfl) (by kernel_rfl) (by kernel_rfl) (by kernel_rfl) (fun _ _ _ h => h) (Or.inl ⟨?hwv1, ?hyv1⟩) (by assumption) ?hrv1
            case hiv1 => simp only [List.getElem?_toArray, List.getElem?_cons_succ, List.getElem?_cons_zero]; rfl
            case hwv1 => rfl
            case hyv1 => intro wq hSq; (try dsimp only at hSq); go_simp; (try with_reducible rfl)
            try simp only [Act.put, List.setIfInBounds_toArray, List.set_cons_zero, List.set_cons_succ]
            refine wpAnyL_take (i := 2) (oi := ?oiv2) (v := ?vv2) ?hiv2 (by kernel_rfl) (by kernel_rfl) (by kernel_rfl) (by kernel_rfl) (fun _ _ _ h => h) (Or.inl ⟨?hwv2, ?hyv2⟩) (by assumption) ?hrv2
            case hiv2 => simp only [List.getElem?_toArray, List.getElem?_cons_succ, List.getElem?_cons_zero]; rfl
            case hwv2 => rfl
            case hyv2 => intro wq hSq; (try dsimp only at hSq); go_simp; (try with_reducible rfl)
            try simp only [Act.put, List.setIfInBounds_toArray, List.set_cons_zero, List.set_cons_succ]
            refine wpAnyL_take (i := 4) (oi := ?oiv4) (v := ?vv4) ?hiv4 (by kernel_rfl) (by kernel_rfl) (by kernel_rfl) (by kernel_rfl) (fun _ _ _ h => h) (Or.inl ⟨?hwv4, ?hyv4⟩) (by assumption) ?hrv4
            case hiv4 => simp only [List.getElem?_toArray, List.getElem?_cons_succ, List.getElem?_cons_zero]; rfl
            case hwv4 => rfl
            case hyv4 => intro wq hSq; (try dsimp only at hSq); go_simp; (try with_reducible rfl)
            try simp only [Act.put, List.setIfInBounds_toArray, List.set_cons_zero, List.set_cons_succ]
            refine wpAnyL_take (i := 5) (oi := ?oiv5) (v := ?vv5) ?hiv5 (by kernel_rfl) (by kernel_rfl) (by kernel_rfl) (by kernel_rfl) (fun _ _ _ h => h) (Or.inl ⟨?hwv5, ?hyv5⟩) (by assumption) ?hrv5
            case hiv5 => simp only [List.getElem?_toArray, List.getElem?_cons_succ, List.getElem?_cons_zero]; rfl
            case hwv5 => rfl
            case hyv5 => intro wq hSq; (try dsimp only at hSq); go_simp; (try with_reducible rfl)
            try simp only [Act.put, List.setIfInBounds_toArray, List.set_cons_zero, List.set_cons_succ]
            refine wpAnyL_take (i := 6) (oi := ?oiv6) (v := ?vv6) ?hiv6 (by kernel_rfl) (by kernel_rfl) (by kernel_rfl) (by kernel_rfl) (fun _ _ _ h => h) (Or.inl ⟨?hwv6, ?hyv6⟩) (by assumption) ?hrv6
            case hiv6 => simp only [List.getElem?_toArray, List.getElem?_cons_succ, List.getElem?_cons_zero]; rfl
            case hwv6 => rfl
            case hyv6 => intro wq hSq; (try dsimp only at hSq); go_simp; (try with_reducible rfl)
            try simp only [Act.put, List.setIfInBounds_toArray, List.set_cons_zero, List.set_cons_succ]
            refine wpAnyL_take (i := 8) (oi := ?oiv8) (v := ?vv8) ?hiv8 (by kernel_rfl) (by kernel_rfl) (by kernel_rfl) (by kernel_rfl) (fun _ _ _ h => h) (Or.inl ⟨?hwv8, ?hyv8⟩) (by assumption) ?hrv8
            case hiv8 => simp only [List.getElem?_toArray, List.getElem?_cons_succ, List.getElem?_cons_zero]; rfl
            case hwv8 => rfl
            case hyv8 => intro wq hSq; (try dsimp only at hSq); go_simp; (try with_reducible rfl)
            try simp only [Act.put, List.setIfInBounds_toArray, List.set_cons_zero, List.set_cons_succ]
            refine wpAnyL_take (i := 9) (oi := ?oiv9) (v := ?vv9) ?hiv9 (by kernel_rfl) (by kernel_rfl) (by kernel_rfl) (by kernel_rfl) (fun _ _ _ h => h) (Or.inl ⟨?hwv9, ?hyv9⟩) (by assumption) ?hrv9
            case hiv9 => simp only [List.getElem?_toArray, List.getElem?_cons_succ, List.getElem?_cons_zero]; rfl
            case hwv9 => rfl
            case hyv9 => intro wq hSq; (try dsimp only at hSq); go_simp; (try with_reducible rfl)
            try simp only [Act.put, List.setIfInBounds_toArray, List.set_cons_zero, List.set_cons_succ]
            refine wpAnyL_take (i := 10) (oi := ?oiv10) (v := ?vv10) ?hiv10 (by kernel_rfl) (by kernel_rfl) (by kernel_rfl) (by kernel_rfl) (fun _ _ _ h => h) (Or.inl ⟨?hwv10, ?hyv10⟩) (by assumption) ?hrv10
            case hiv10 => simp only [List.getElem?_toArray, List.getElem?_cons_succ, List.getElem?_cons_zero]; rfl
            case hwv10 => rfl
            case hyv10 => intro wq hSq; (try dsimp only at hSq); go_simp; (try with_reducible rfl)
            try simp only [Act.put, List.setIfInBounds_toArray, List.set_cons_zero, List.set_cons_succ]
            refine wpAnyL_ready (rs := [3, 13]) (by kernel_rfl) (by simp) ?_
            refine AllReadyL.cons rfl (fun K hK => ?_) (AllReadyL.cons rfl (fun K hK => ?_) AllReadyL.nil)
            · skip
              go_simp
              refine (w_any _ _).mono ?_
              rintro e wv ⟨rfl, rfl⟩
              refine hK.out _ _ (.inl (⟨y5, y6, y7⟩)) (fun hHeld => ?_)
              replace hHeld := SOr.stands hHeld (by kernel_rfl)
              clear hK K
              try simp only [Act.put, List.setIfInBounds_toArray, List.set_cons_zero, List.set_cons_succ]
              refine wpAnyL_ready (rs := [7, 13]) (by kernel_rfl) (by simp) ?_
              refine AllReadyL.cons rfl (fun K hK => ?_) (AllReadyL.cons rfl (fun K hK => ?_) AllReadyL.nil)
              · skip
                go_simp
                refine (w_any _ _).mono ?_
                rintro e wv ⟨rfl, rfl⟩
                refine hK.out _ _ (.inl (⟨y5, y6, y7⟩)) (fun hHeld => ?_)
                replace hHeld := SOr.stands hHeld (by kernel_rfl)
                clear hK K
                try simp only [Act.put, List.setIfInBounds_toArray, List.set_cons_zero, List.set_cons_succ]
                refine wpAnyL_ready (rs := [11, 13]) (by kernel_rfl) (by simp) ?_
                refine AllReadyL.cons rfl (fun K hK => ?_) (AllReadyL.cons rfl (fun K hK => ?_) AllReadyL.nil)
                · skip
                  go_simp
                  refine (w_any _ _).mono ?_
                  rintro e wv ⟨rfl, rfl⟩
                  refine hK.out _ _ (.inl (⟨y5, y6, y7⟩)) (fun hHeld => ?_)
                  replace hHeld := SOr.stands hHeld (by kernel_rfl)
                  clear hK K
                  try simp only [Act.put, List.setIfInBounds_toArray, List.set_cons_zero, List.set_cons_succ]
                  refine wpAnyL_take (i := 12) (oi := ?oiu1_12) (v := ?vu1_12) ?hiu1_12 (by kernel_rfl) (by kernel_rfl) (by kernel_rfl) (by kernel_rfl) (fun _ _ _ h => h) (Or.inl ⟨?hwu1_12, ?hyu1_12⟩) (by assumption) ?hru1_12
                  case hiu1_12 => simp only [List.getElem?_toArray, List.getElem?_cons_succ, List.getElem?_cons_zero]; rfl
                  case hwu1_12 => rfl
                  case hyu1_12 => intro wq hSq; (try dsimp only at hSq); go_simp; (try with_reducible rfl)
                  try simp only [Act.put, List.setIfInBounds_toArray, List.set_cons_zero, List.set_cons_succ]
                  refine wpAnyL_ready (rs := [13]) (by kernel_rfl) (by simp) ?_
                  refine AllReadyL.cons rfl (fun K hK => ?_) AllReadyL.nil
                  go_simp
                  have CA : Chg w4 (w4.alloc (.cells #[.int .i64 0, .int .i64 0, .int .i64 0] 50)).drew (fun _ => False) := ((Chg.refl w4 _).alloc _).drew
                  refine hK.out _ _ (.inl (⟨CA.cell y5 (fun h => h), CA.cell y6 (fun h => h), CA.cell y7 (fun h => h)⟩)) (fun hHeld => ?_)
                  replace hHeld := SOr.stands hHeld (by kernel_rfl)
                  clear hK K
                  try simp only [Act.put, List.setIfInBounds_toArray, List.set_cons_zero, List.set_cons_succ]
                  refine wpAnyL_tail (l := []) (by kernel_rfl) (by kernel_rfl) ?_
                  simp only [tailOps, List.filterMap_cons, List.filterMap_nil, List.getElem?_toArray, List.getElem?_cons_succ, List.getElem?_cons_zero]
                  clear hHeld
                  go_wp2_with fail
                  refine NoPanic.normal ?_
                  go_wp2_with fail
                  go_meet
                  exact ⟨rfl, ((Box.new w4 50 _).drew), ((Chg.refl w4 _).alloc _).drew⟩
                · skip
                  go_simp
                  have CA : Chg w4 (w4.alloc (.cells #[.int .i64 0, .int .i64 0, .int .i64 0] 50)).drew (fun _ => False) := ((Chg.refl w4 _).alloc _).drew
                  refine hK.out _ _ (.inl (⟨CA.cell y5 (fun h => h), CA.cell y6 (fun h => h), CA.cell y7 (fun h => h)⟩)) (fun hHeld => ?_)
                  replace hHeld := SOr.stands hHeld (by kernel_rfl)
                  clear hK K
                  try simp only [Act.put, List.setIfInBounds_toArray, List.set_cons_zero, List.set_cons_succ]
                  refine wpAnyL_ready (rs := [11]) (by kernel_rfl) (by simp) ?_
                  refine AllReadyL.cons rfl (fun K hK => ?_) AllReadyL.nil
                  go_simp
                  refine (w_any _ _).mono ?_
                  rintro e wv ⟨rfl, rfl⟩
                  refine hK.out _ _ (.inl (⟨CA.cell y5 (fun h => h), CA.cell y6 (fun h => h), CA.cell y7 (fun h => h)⟩)) (fun hHeld => ?_)
                  replace hHeld := SOr.stands hHeld (by kernel_rfl)
                  clear hK K
                  try simp only [Act.put, List.setIfInBounds_toArray, List.set_cons_zero, List.set_cons_succ]
                  refine wpAnyL_take (i := 12) (oi := ?oiu2_12) (v := ?vu2_12) ?hiu2_12 (by kernel_rfl) (by kernel_rfl) (by kernel_rfl) (by kernel_rfl) (fun _ _ _ h => h) (Or.inl ⟨?hwu2_12, ?hyu2_12⟩) (by assumption) ?hru2_12
                  case hiu2_12 => simp only [List.getElem?_toArray, List.getElem?_cons_succ, List.getElem?_cons_zero]; rfl
                  case hwu2_12 => rfl
                  case hyu2_12 => intro wq hSq; (try dsimp only at hSq); go_simp; (try with_reducible rfl)
                  try simp only [Act.put, List.setIfInBounds_toArray, List.set_cons_zero, List.set_cons_succ]
                  refine wpAnyL_tail (l := []) (by kernel_rfl) (by kernel_rfl) ?_
                  simp only [tailOps, List.filterMap_cons, List.filterMap_nil, List.getElem?_toArray, List.getElem?_cons_succ, List.getElem?_cons_zero]
                  clear hHeld
                  go_wp2_with fail
                  refine NoPanic.normal ?_
                  go_wp2_with fail
                  go_meet
                  exact ⟨rfl, ((Box.new w4 50 _).drew), ((Chg.refl w4 _).alloc _).drew⟩
              · skip
                go_simp
                have CA : Chg w4 (w4.alloc (.cells #[.int .i64 0, .int .i64 0, .int .i64 0] 50)).drew (fun _ => False) := ((Chg.refl w4 _).alloc _).drew
                refine hK.out _ _ (.inl (⟨CA.cell y5 (fun h => h), CA.cell y6 (fun h => h), CA.cell y7 (fun h => h)⟩)) (fun hHeld => ?_)
                replace hHeld := SOr.stands hHeld (by kernel_rfl)
                clear hK K
                try simp only [Act.put, List.setIfInBounds_toArray, List.set_cons_zero, List.set_cons_succ]
                refine wpAnyL_ready (rs := [7]) (by kernel_rfl) (by simp) ?_
                refine AllReadyL.cons rfl (fun K hK => ?_) AllReadyL.nil
                go_simp
                refine (w_any _ _).mono ?_
                rintro e wv ⟨rfl, rfl⟩
                refine hK.out _ _ (.inl (⟨CA.cell y5 (fun h => h), CA.cell y6 (fun h => h), CA.cell y7 (fun h => h)⟩)) (fun hHeld => ?_)
                replace hHeld := SOr.stands hHeld (by kernel_rfl)
                clear hK K
                try simp only [Act.put, List.setIfInBounds_toArray, List.set_cons_zero, List.set_cons_succ]
                refine wpAnyL_ready (rs := [11]) (by kernel_rfl) (by simp) ?_
                refine AllReadyL.cons rfl (fun K hK => ?_) AllReadyL.nil
                go_simp
                refine (w_any _ _).mono ?_
                rintro e wv ⟨rfl, rfl⟩
                refine hK.out _ _ (.inl (⟨CA.cell y5 (fun h => h), CA.cell y6 (fun h => h), CA.cell y7 (fun h => h)⟩)) (fun hHeld => ?_)
                replace hHeld := SOr.stands hHeld (by kernel_rfl)
                clear hK K
                try simp only [Act.put, List.setIfInBounds_toArray, List.set_cons_zero, List.set_cons_succ]
                refine wpAnyL_take (i := 12) (oi := ?oiu3_12) (v := ?vu3_12) ?hiu3_12 (by kernel_rfl) (by kernel_rfl) (by kernel_rfl) (by kernel_rfl) (fun _ _ _ h => h) (Or.inl ⟨?hwu3_12, ?hyu3_12⟩) (by assumption) ?hru3_12
                case hiu3_12 => simp only [List.getElem?_toArray, List.getElem?_cons_succ, List.getElem?_cons_zero]; rfl
                case hwu3_12 => rfl
                case hyu3_12 => intro wq hSq; (try dsimp only at hSq); go_simp; (try with_reducible rfl)
                try simp only [Act.put, List.setIfInBounds_toArray, List.set_cons_zero, List.set_cons_succ]
                refine wpAnyL_tail (l := []) (by kernel_rfl) (by kernel_rfl) ?_
                simp only [tailOps, List.filterMap_cons, List.filterMap_nil, List.getElem?_toArray, List.getElem?_cons_succ, List.getElem?_cons_zero]
                clear hHeld
                go_wp2_with fail
                refine NoPanic.normal ?_
                go_wp2_with fail
                go_meet
                exact ⟨rfl, ((Box.new w4 50 _).drew), ((Chg.refl w4 _).alloc _).drew⟩
            · skip
              go_simp
              have CA : Chg w4 (w4.alloc (.cells #[.int .i64 0, .int .i64 0, .int .i64 0] 50)).drew (fun _ => False) := ((Chg.refl w4 _).alloc _).drew
              refine hK.out _ _ (.inl (⟨CA.cell y5 (fun h => h), CA.cell y6 (fun h => h), CA.cell y7 (fun h => h)⟩)) (fun hHeld => ?_)
              replace hHeld := SOr.stands hHeld (by kernel_rfl)
              clear hK K
              try simp only [Act.put, List.setIfInBounds_toArray, List.set_cons_zero, List.set_cons_succ]
              refine wpAnyL_ready (rs := [3]) (by kernel_rfl) (by simp) ?_
              refine AllReadyL.cons rfl (fun K hK => ?_) AllReadyL.nil
              go_simp
              refine (w_any _ _).mono ?_
              rintro e wv ⟨rfl, rfl⟩
              refine hK.out _ _ (.inl (⟨CA.cell y5 (fun h => h), CA.cell y6 (fun h => h), CA.cell y7 (fun h => h)⟩)) (fun hHeld => ?_)
              replace hHeld := SOr.stands hHeld (by kernel_rfl)
              clear hK K
              try simp only [Act.put, List.setIfInBounds_toArray, List.set_cons_zero, List.set_cons_succ]
              refine wpAnyL_ready (rs := [7]) (by kernel_rfl) (by simp) ?_
              refine AllReadyL.cons rfl (fun K hK => ?_) AllReadyL.nil
              go_simp
              refine (w_any _ _).mono ?_
              rintro e wv ⟨rfl, rfl⟩
              refine hK.out _ _ (.inl (⟨CA.cell y5 (fun h => h), CA.cell y6 (fun h => h), CA.cell y7 (fun h => h)⟩)) (fun hHeld => ?_)
              replace hHeld := SOr.stands hHeld (by kernel_rfl)
              clear hK K
              try simp only [Act.put, List.setIfInBounds_toArray, List.set_cons_zero, List.set_cons_succ]
              refine wpAnyL_ready (rs := [11]) (by kernel_rfl) (by simp) ?_
              refine AllReadyL.cons rfl (fun K hK => ?_) AllReadyL.nil
              go_simp
              refine (w_any _ _).mono ?_
              rintro e wv ⟨rfl, rfl⟩
              refine hK.out _ _ (.inl (⟨CA.cell y5 (fun h => h), CA.cell y6 (fun h => h), CA.cell y7 (fun h => h)⟩)) (fun hHeld => ?_)
              replace hHeld := SOr.stands hHeld (by kernel_rfl)
              clear hK K
              try simp only [Act.put, List.setIfInBounds_toArray, List.set_cons_zero, List.set_cons_succ]
              refine wpAnyL_take (i := 12) (oi := ?oiu4_12) (v := ?vu4_12) ?hiu4_12 (by kernel_rfl) (by kernel_rfl) (by kernel_rfl) (by kernel_rfl) (fun _ _ _ h => h) (Or.inl ⟨?hwu4_12, ?hyu4_12⟩) (by assumption) ?hru4_12
              case hiu4_12 => simp only [List.getElem?_toArray, List.getElem?_cons_succ, List.getElem?_cons_zero]; rfl
              case hwu4_12 => rfl
              case hyu4_12 => intro wq hSq; (try dsimp only at hSq); go_simp; (try with_reducible rfl)
              try simp only [Act.put, List.setIfInBounds_toArray, List.set_cons_zero, List.set_cons_succ]
              refine wpAnyL_tail (l := []) (by kernel_rfl) (by kernel_rfl) ?_
              simp only [tailOps, List.filterMap_cons, List.filterMap_nil, List.getElem?_toArray, List.getElem?_cons_succ, List.getElem?_cons_zero]
              clear hHeld
              go_wp2_with fail
              refine NoPanic.normal ?_
              go_wp2_with fail
              go_meet
              exact ⟨rfl, ((Box.new w4 50 _).drew), ((Chg.refl w4 _).alloc _).drew⟩
          case rest =>
            obtain ⟨rfl, HB5, HC5⟩ := hcut
            obtain ⟨gq, hgq⟩ : ∃ g, w4.heap.size = g := ⟨_, rfl⟩
            rw [hgq] at HB5 hagl ⊢
            have hgql := HB5.out.lt
            have HP5 := Lib.hid (PA.out.adopt (X' := fun k => (k < W.heap.size ∨ k = ag) ∨ k = gq) HC5.out (fun _ h => h.elim) (fun k hk => hk.imp id (fun h => ⟨by omega, by omega⟩)) (fun k hk => .inl (.inl hk)))
            have BX := HBA.out.chg HC5.out (fun h => h)
            have HSV := Lib.hid (show (wc.drew.cell? ⟨ag, 1, none⟩ = some (.int .i64 pt) ∧ wc.drew.cell? ⟨ag, 4, none⟩ = some (.int .i64 op)) ∧ wc.drew.cell? ⟨gq, 0, none⟩ = some (.int .i64 r0) ∧ wc.drew.cell? ⟨gq, 1, none⟩ = some (.int .i64 r1) ∧ wc.drew.cell? ⟨gq, 2, none⟩ = some (.int .i64 r2) from ⟨⟨BX.drew.cell 1, BX.drew.cell 4⟩, HB5.out.drew.cell 0, HB5.out.drew.cell 1, HB5.out.drew.cell 2⟩)
            clear BX hr0 hr1 hr2 hgq y0 y1 y2 y3 y4 y5 y6 y7 y8
            go_wp2_with fail
            refine wp_region_noPanic ?_
            refine wp_region_held_drew (S := fun w' => (w'.cell? ⟨ag, 1, none⟩ = some (.int .i64 pt) ∧ w'.cell? ⟨ag, 4, none⟩ = some (.int .i64 op)) ∧ w'.cell? ⟨gq, 0, none⟩ = some (.int .i64 r0) ∧ w'.cell? ⟨gq, 1, none⟩ = some (.int .i64 r1) ∧ w'.cell? ⟨gq, 2, none⟩ = some (.int .i64 r2)) (by kernel_rfl) (HSV.out) (fun hHeld => ?_)
            refine wpAnyH_take (i := 0) (oi := ?oix0) (v := ?vx0) ?hix0 (by kernel_rfl) (by kernel_rfl) (by kernel_rfl) (fun _ _ _ h => h) (Or.inl ⟨?hwx0, ?hyx0⟩) (by assumption) ?hrx0
            case hix0 => simp only [List.getElem?_toArray, List.getElem?_cons_succ, List.getElem?_cons_zero]; rfl
            case hwx0 => rfl
            case hyx0 => intro wq hSq; (try dsimp only at hSq); go_simp; (try with_reducible rfl)
            try simp only [Act.put, List.setIfInBounds_toArray, List.set_cons_zero, List.set_cons_succ]
            refine wpAnyH_take (i := 1) (oi := ?oix1) (v := ?vx1) ?hix1 (by kernel_rfl) (by kernel_rfl) (by kernel_rfl) (fun _ _ _ h => h) (Or.inl ⟨?hwx1, ?hyx1⟩) (by assumption) ?hrx1
            case hix1 => simp only [List.getElem?_toArray, List.getElem?_cons_succ, List.getElem?_cons_zero]; rfl
            case hwx1 => rfl
            case hyx1 => intro wq hSq; (try dsimp only at hSq); go_simp; (try with_reducible rfl)
            try simp only [Act.put, List.setIfInBounds_toArray, List.set_cons_zero, List.set_cons_succ]
            refine wpAnyH_take (i := 2) (oi := ?oix2) (v := ?vx2) ?hix2 (by kernel_rfl) (by kernel_rfl) (by kernel_rfl) (fun _ _ _ h => h) (Or.inl ⟨?hwx2, ?hyx2⟩) (by assumption) ?hrx2
            case hix2 => simp only [List.getElem?_toArray, List.getElem?_cons_succ, List.getElem?_cons_zero]; rfl
            case hwx2 => rfl
            case hyx2 => intro wq hSq; (try dsimp only at hSq); go_simp; (try with_reducible rfl)
            try simp only [Act.put, List.setIfInBounds_toArray, List.set_cons_zero, List.set_cons_succ]
            refine wpAnyH_take (i := 3) (oi := ?oix3) (v := ?vx3) ?hix3 (by kernel_rfl) (by kernel_rfl) (by kernel_rfl) (fun _ _ _ h => h) (Or.inl ⟨?hwx3, ?hyx3⟩) (by assumption) ?hrx3
            case hix3 => simp only [List.getElem?_toArray, List.getElem?_cons_succ, List.getElem?_cons_zero]; rfl
            case hwx3 => rfl
            case hyx3 => intro wq hSq; (try dsimp only at hSq); go_simp; (try with_reducible rfl)
            try simp only [Act.put, List.setIfInBounds_toArray, List.set_cons_zero, List.set_cons_succ]
            refine wpAnyH_take (i := 4) (oi := ?oix4) (v := ?vx4) ?hix4 (by kernel_rfl) (by kernel_rfl) (by kernel_rfl) (fun _ _ _ h => h) (Or.inl ⟨?hwx4, ?hyx4⟩) (by assumption) ?hrx4
            case hix4 => simp only [List.getElem?_toArray, List.getElem?_cons_succ, List.getElem?_cons_zero]; rfl
            case hwx4 => rfl
            case hyx4 => intro wq hSq; (try dsimp only at hSq); go_simp; (try with_reducible rfl)
            try simp only [Act.put, List.setIfInBounds_toArray, List.set_cons_zero, List.set_cons_succ]
            refine wpAnyH_take (i := 5) (oi := ?oix5) (v := ?vx5) ?hix5 (by kernel_rfl) (by kernel_rfl) (by kernel_rfl) (fun _ _ _ h => h) (Or.inl ⟨?hwx5, ?hyx5⟩) (by assumption) ?hrx5
            case hix5 => simp only [List.getElem?_toArray, List.getElem?_cons_succ, List.getElem?_cons_zero]; rfl
            case hwx5 => rfl
            case hyx5 => intro wq hSq; (try dsimp only at hSq); go_simp; (try with_reducible rfl)
            try simp only [Act.put, List.setIfInBounds_toArray, List.set_cons_zero, List.set_cons_succ]
            refine wpAnyH_take (i := 6) (oi := ?oix6) (v := ?vx6) ?hix6 (by kernel_rfl) (by kernel_rfl) (by kernel_rfl) (fun _ _ _ h => h) (Or.inl ⟨?hwx6, ?hyx6⟩) (by assumption) ?hrx6
            case hix6 => simp only [List.getElem?_toArray, List.getElem?_cons_succ, List.getElem?_cons_zero]; rfl
            case hwx6 => rfl
            case hyx6 => intro wq hSq; (try dsimp only at hSq); go_simp; (try with_reducible rfl)
            try simp only [Act.put, List.setIfInBounds_toArray, List.set_cons_zero, List.set_cons_succ]
            refine wpAnyH_take (i := 7) (oi := ?oix7) (v := ?vx7) ?hix7 (by kernel_rfl) (by kernel_rfl) (by kernel_rfl) (fun _ _ _ h => h) (Or.inl ⟨?hwx7, ?hyx7⟩) (by assumption) ?hrx7
            case hix7 => simp only [List.getElem?_toArray, List.getElem?_cons_succ, List.getElem?_cons_zero]; rfl
            case hwx7 => rfl
            case hyx7 => intro wq hSq; (try dsimp only at hSq); go_simp; (try with_reducible rfl)
            try simp only [Act.put, List.setIfInBounds_toArray, List.set_cons_zero, List.set_cons_succ]
            refine wpAnyH_take (i := 9) (oi := ?oix9) (v := ?vx9) ?hix9 (by kernel_rfl) (by kernel_rfl) (by kernel_rfl) (fun _ _ _ h => h) (Or.inl ⟨?hwx9, ?hyx9⟩) (by assumption) ?hrx9
            case hix9 => simp only [List.getElem?_toArray, List.getElem?_cons_succ, List.getElem?_cons_zero]; rfl
            case hwx9 => rfl
            case hyx9 => intro wq hSq; (try dsimp only at hSq); go_simp; (try with_reducible rfl)
            try simp only [Act.put, List.setIfInBounds_toArray, List.set_cons_zero, List.set_cons_succ]
            refine wpAnyH_take (i := 10) (oi := ?oix10) (v := ?vx10) ?hix10 (by kernel_rfl) (by kernel_rfl) (by kernel_rfl) (fun _ _ _ h => h) (Or.inl ⟨?hwx10, ?hyx10⟩) (by assumption) ?hrx10
            case hix10 => simp only [List.getElem?_toArray, List.getElem?_cons_succ, List.getElem?_cons_zero]; rfl
            case hwx10 => rfl
            case hyx10 => intro wq hSq; (try dsimp only at hSq); go_simp; (try with_reducible rfl)
            try simp only [Act.put, List.setIfInBounds_toArray, List.set_cons_zero, List.set_cons_succ]
            refine wpAnyH_take (i := 11) (oi := ?oix11) (v := ?vx11) ?hix11 (by kernel_rfl) (by kernel_rfl) (by kernel_rfl) (fun _ _ _ h => h) (Or.inl ⟨?hwx11, ?hyx11⟩) (by assumption) ?hrx11
            case hix11 => simp only [List.getElem?_toArray, List.getElem?_cons_succ, List.getElem?_cons_zero]; rfl
            case hwx11 => rfl
            case hyx11 => intro wq hSq; (try dsimp only at hSq); go_simp; (try with_reducible rfl)
            try simp only [Act.put, List.setIfInBounds_toArray, List.set_cons_zero, List.set_cons_succ]
            refine wpAnyH_take (i := 12) (oi := ?oix12) (v := ?vx12) ?hix12 (by kernel_rfl) (by kernel_rfl) (by kernel_rfl) (fun _ _ _ h => h) (Or.inl ⟨?hwx12, ?hyx12⟩) (by assumption) ?hrx12
            case hix12 => simp only [List.getElem?_toArray, List.getElem?_cons_succ, List.getElem?_cons_zero]; rfl
            case hwx12 => rfl
            case hyx12 => intro wq hSq; (try dsimp only at hSq); go_simp; (try with_reducible rfl)
            try simp only [Act.put, List.setIfInBounds_toArray, List.set_cons_zero, List.set_cons_succ]
            refine wpAnyH_take (i := 13) (oi := ?oix13) (v := ?vx13) ?hix13 (by kernel_rfl) (by kernel_rfl) (by kernel_rfl) (fun _ _ _ h => h) (Or.inl ⟨?hwx13, ?hyx13⟩) (by assumption) ?hrx13
            case hix13 => simp only [List.getElem?_toArray, List.getElem?_cons_succ, List.getElem?_cons_zero]; rfl
            case hwx13 => rfl
            case hyx13 => intro wq hSq; (try dsimp only at hSq); go_simp; (try with_reducible rfl)
            try simp only [Act.put, List.setIfInBounds_toArray, List.set_cons_zero, List.set_cons_succ]
            refine wpAnyH_take (i := 14) (oi := ?oix14) (v := ?vx14) ?hix14 (by kernel_rfl) (by kernel_rfl) (by kernel_rfl) (fun _ _ _ h => h) (Or.inl ⟨?hwx14, ?hyx14⟩) (by assumption) ?hrx14
            case hix14 => simp only [List.getElem?_toArray, List.getElem?_cons_succ, List.getElem?_cons_zero]; rfl
            case hwx14 => rfl
            case hyx14 => intro wq hSq; (try dsimp only at hSq); go_simp; (try with_reducible rfl)
            try simp only [Act.put, List.setIfInBounds_toArray, List.set_cons_zero, List.set_cons_succ]
            refine wpAnyH_take (i := 15) (oi := ?oix15) (v := ?vx15) ?hix15 (by kernel_rfl) (by kernel_rfl) (by kernel_rfl) (fun _ _ _ h => h) (Or.inl ⟨?hwx15, ?hyx15⟩) (by assumption) ?hrx15
            case hix15 => simp only [List.getElem?_toArray, List.getElem?_cons_succ, List.getElem?_cons_zero]; rfl
            case hwx15 => rfl
            case hyx15 => intro wq hSq; (try dsimp only at hSq); go_simp; (try with_reducible rfl)
            try simp only [Act.put, List.setIfInBounds_toArray, List.set_cons_zero, List.set_cons_succ]
            refine wpAnyH_ready (rs := [8]) (by kernel_rfl) (by simp) ?_
            refine AllReadyH.cons rfl (fun K hK => ?_) AllReadyH.nil
            go_simp
            refine (play_call (HP5.out.keep ((Chg.refl wc _).drew)) pt op r0 r1 r2 HB0.out.1 HB0.out.2.1 HB0.out.2.2).mono ?_
            rintro e w8 ⟨rfl, P8, C8⟩
            have HP8 := Lib.hid P8
            clear P8
            have hHeld2 : (fun (w' : World) => ((w'.cell? ⟨ag, 1, none⟩ = some (.int .i64 pt) ∧ w'.cell? ⟨ag, 4, none⟩ = some (.int .i64 op)) ∧ w'.cell? ⟨gq, 0, none⟩ = some (.int .i64 r0) ∧ w'.cell? ⟨gq, 1, none⟩ = some (.int .i64 r1) ∧ w'.cell? ⟨gq, 2, none⟩ = some (.int .i64 r2)) ∧ True) _ := ⟨⟨⟨C8.cell HSV.out.1.1 (fun h => h (.inl (.inr rfl))), C8.cell HSV.out.1.2 (fun h => h (.inl (.inr rfl)))⟩, C8.cell HSV.out.2.1 (fun h => h (.inr rfl)), C8.cell HSV.out.2.2.1 (fun h => h (.inr rfl)), C8.cell HSV.out.2.2.2 (fun h => h (.inr rfl))⟩, trivial⟩
            refine hK.out _ _ hHeld2.1 (fun _ => wpAnyH_mono (S2 := fun (w' : World) => ((w'.cell? ⟨ag, 1, none⟩ = some (.int .i64 pt) ∧ w'.cell? ⟨ag, 4, none⟩ = some (.int .i64 op)) ∧ w'.cell? ⟨gq, 0, none⟩ = some (.int .i64 r0) ∧ w'.cell? ⟨gq, 1, none⟩ = some (.int .i64 r1) ∧ w'.cell? ⟨gq, 2, none⟩ = some (.int .i64 r2)) ∧ True) (fun _ h => h.1) _ _ _ _ ?_)
            clear hK K hHeld
            try simp only [Act.put, List.setIfInBounds_toArray, List.set_cons_zero, List.set_cons_succ]
            have HV8 := hHeld2
            clear hHeld2
            refine wpAnyH_ready (rs := [16]) (by kernel_rfl) (by simp) ?_
            refine AllReadyH.cons rfl (fun K hK => ?_) AllReadyH.nil
            go_simp
            refine (rplay_call HP8.out pt op r0 r1 r2 HB0.out.2.2).mono ?_
            rintro e w9 ⟨rfl, P9, C9⟩
            have HP9 := Lib.hid P9
            clear P9
            have hHeld3 : (fun (w' : World) => (((w'.cell? ⟨ag, 1, none⟩ = some (.int .i64 pt) ∧ w'.cell? ⟨ag, 4, none⟩ = some (.int .i64 op)) ∧ w'.cell? ⟨gq, 0, none⟩ = some (.int .i64 r0) ∧ w'.cell? ⟨gq, 1, none⟩ = some (.int .i64 r1) ∧ w'.cell? ⟨gq, 2, none⟩ = some (.int .i64 r2)) ∧ True) ∧ True) _ := ⟨⟨⟨⟨C9.cell HV8.1.1.1 (fun h => h (.inl (.inr rfl))), C9.cell HV8.1.1.2 (fun h => h (.inl (.inr rfl)))⟩, C9.cell HV8.1.2.1 (fun h => h (.inr rfl)), C9.cell HV8.1.2.2.1 (fun h => h (.inr rfl)), C9.cell HV8.1.2.2.2 (fun h => h (.inr rfl))⟩, trivial⟩, trivial⟩
            refine hK.out _ _ hHeld3.1 (fun _ => wpAnyH_mono (S2 := fun (w' : World) => (((w'.cell? ⟨ag, 1, none⟩ = some (.int .i64 pt) ∧ w'.cell? ⟨ag, 4, none⟩ = some (.int .i64 op)) ∧ w'.cell? ⟨gq, 0, none⟩ = some (.int .i64 r0) ∧ w'.cell? ⟨gq, 1, none⟩ = some (.int .i64 r1) ∧ w'.cell? ⟨gq, 2, none⟩ = some (.int .i64 r2)) ∧ True) ∧ True) (fun _ h => h.1) _ _ _ _ ?_)
            clear hK K HV8
            try simp only [Act.put, List.setIfInBounds_toArray, List.set_cons_zero, List.set_cons_succ]
            refine wpAnyH_take (i := 17) (oi := ?oix17) (v := ?vx17) ?hix17 (by kernel_rfl) (by kernel_rfl) (by kernel_rfl) (fun _ _ _ h => h) (Or.inl ⟨?hwx17, ?hyx17⟩) (by assumption) ?hrx17
            case hix17 => simp only [List.getElem?_toArray, List.getElem?_cons_succ, List.getElem?_cons_zero]; rfl
            case hwx17 => rfl
            case hyx17 => intro wq hSq; (try dsimp only at hSq); go_simp; (try with_reducible rfl)
            try simp only [Act.put, List.setIfInBounds_toArray, List.set_cons_zero, List.set_cons_succ]
            refine wpAnyH_done (by kernel_rfl) ?_ _
            refine NoPanic.normal ?_
            go_wp2_with fail
            go_meet
            exact ⟨_, _, HP9.out.mono (fun k hk => .inl (.inl hk)) (fun _ h => h)⟩
      case rest =>
        obtain ⟨Q', f', HP'⟩ := hcut
        have hi := HI.out
        have hL2 := HL2.out
        clear hbm0 hlm
        go_wp2_with fail
        go_roundg (gk - 1)
        case rel => exact ⟨i + 1, Q', f', by omega, by go_num, HP'⟩
        case measure => omega
    · skip
      as_aux_lemma =>
        have hil : i = L := by omega
        subst hil
        obtain ⟨M1, M2⟩ := play_get (HPi.out.keep ((Chg.refl wr (fun _ => False)).drew))
        have M2' := (play_get HPi.out).2
        obtain ⟨ys, hys⟩ : ∃ ys, sl f 0 4096 = ys := ⟨_, rfl⟩
        have G := get_any M1 0 4096
        rw [show getN 4096 0 4096 = 4096 from rfl, show (0 : Int).toNat = 0 from rfl, hys] at G
        have HG := Lib.hid G
        have e7 := fun wx => conv_rule2 (ao := some ⟨vb, 0, none⟩) (m := 4096) (c := 4096) (xs := ys) wx
        obtain ⟨st, hst⟩ : ∃ st, strOfNums ys = st := ⟨_, rfl⟩
        rw [hst] at e7
        have HW1 := Lib.hid hst
        have sr : Src wr (some ⟨vb, 0, none⟩) 4096 4096 (u8s ys) 1 := by rw [← hys]; exact mem_src M2' 0 4096 4096 (by omega)
        have HSV := Lib.hid (show Src wr.drew (some ⟨vb, 0, none⟩) 4096 4096 (u8s ys) 1 ∧ wr.drew.cell? ⟨va, 0, none⟩ = some (.slice (some ⟨vb, 0, none⟩) 4096 4096) from ⟨sr.drew, M2'.cell0⟩)
        clear G hys hst sr M1 M2 M2'
        go_wp2_with fail
        refine wp_region_noPanic ?_
        refine wp_region_held_drew (S := fun w' => Src w' (some ⟨vb, 0, none⟩) 4096 4096 (u8s ys) 1 ∧ w'.cell? ⟨va, 0, none⟩ = some (.slice (some ⟨vb, 0, none⟩) 4096 4096)) (by kernel_rfl) (HSV.out) (fun hHeld => ?_)
        refine wpAnyH_take (i := 0) (oi := ?oie0) (v := ?ve0) ?hie0 (by kernel_rfl) (by kernel_rfl) (by kernel_rfl) (fun _ _ _ h => h) (Or.inl ⟨?hwe0, ?hye0⟩) (by assumption) ?hre0
        case hie0 => simp only [List.getElem?_toArray, List.getElem?_cons_succ, List.getElem?_cons_zero]; rfl
        case hwe0 => rfl
        case hye0 => intro wq hSq; (try dsimp only at hSq); go_simp; (try with_reducible rfl)
        try simp only [Act.put, List.setIfInBounds_toArray, List.set_cons_zero, List.set_cons_succ]
        refine wpAnyH_take (i := 3) (oi := ?oie3) (v := ?ve3) ?hie3 (by kernel_rfl) (by kernel_rfl) (by kernel_rfl) (fun _ _ _ h => h) (Or.inl ⟨?hwe3, ?hye3⟩) (by assumption) ?hre3
        case hie3 => simp only [List.getElem?_toArray, List.getElem?_cons_succ, List.getElem?_cons_zero]; rfl
        case hwe3 => rfl
        case hye3 => intro wq hSq; (try dsimp only at hSq); go_simp; (try with_reducible rfl)
        try simp only [Act.put, List.setIfInBounds_toArray, List.set_cons_zero, List.set_cons_succ]
        refine wpAnyH_take (i := 4) (oi := ?oie4) (v := ?ve4) ?hie4 (by kernel_rfl) (by kernel_rfl) (by kernel_rfl) (fun _ _ _ h => h) (Or.inl ⟨?hwe4, ?hye4⟩) (by assumption) ?hre4
        case hie4 => simp only [List.getElem?_toArray, List.getElem?_cons_succ, List.getElem?_cons_zero]; rfl
        case hwe4 => rfl
        case hye4 => intro wq hSq; (try dsimp only at hSq); go_simp; (try with_reducible rfl)
        try simp only [Act.put, List.setIfInBounds_toArray, List.set_cons_zero, List.set_cons_succ]
        refine wpAnyH_take (i := 5) (oi := ?oie5) (v := ?ve5) ?hie5 (by kernel_rfl) (by kernel_rfl) (by kernel_rfl) (fun _ _ _ h => h) (Or.inl ⟨?hwe5, ?hye5⟩) (by assumption) ?hre5
        case hie5 => simp only [List.getElem?_toArray, List.getElem?_cons_succ, List.getElem?_cons_zero]; rfl
        case hwe5 => rfl
        case hye5 => intro wq hSq; (try dsimp only at hSq); go_simp; (try with_reducible rfl)
        try simp only [Act.put, List.setIfInBounds_toArray, List.set_cons_zero, List.set_cons_succ]
        refine wpAnyH_take (i := 6) (oi := ?oie6) (v := ?ve6) ?hie6 (by kernel_rfl) (by kernel_rfl) (by kernel_rfl) (fun _ _ _ h => h) (Or.inl ⟨?hwe6, ?hye6⟩) (by assumption) ?hre6
        case hie6 => simp only [List.getElem?_toArray, List.getElem?_cons_succ, List.getElem?_cons_zero]; rfl
        case hwe6 => rfl
        case hye6 => intro wq hSq; (try dsimp only at hSq); go_simp; (try with_reducible rfl)
        try simp only [Act.put, List.setIfInBounds_toArray, List.set_cons_zero, List.set_cons_succ]
        refine wpAnyH_take (i := 7) (oi := ?oie7) (v := ?ve7) ?hie7 (by kernel_rfl) (by kernel_rfl) (by kernel_rfl) (fun _ _ _ h => h) (Or.inl ⟨?hwe7, ?hye7⟩) (by assumption) ?hre7
        case hie7 => simp only [List.getElem?_toArray, List.getElem?_cons_succ, List.getElem?_cons_zero]; rfl
        case hwe7 => rfl
        case hye7 => intro wq hSq; (try dsimp only at hSq); go_simp; (try with_reducible rfl)
        try simp only [Act.put, List.setIfInBounds_toArray, List.set_cons_zero, List.set_cons_succ]
        refine wpAnyH_ready (rs := [1]) (by kernel_rfl) (by simp) ?_
        refine AllReadyH.cons rfl (fun K hK => ?_) AllReadyH.nil
        go_simp
        refine HG.out.mono ?_
        rintro e w8 ⟨a8, c8, rfl, O8, C8⟩
        have e8 := fun wx => conv_rule2 (ao := a8) (m := 4096) (c := c8) (xs := ys) wx
        rw [HW1.out] at e8
        have hHeld2 : (fun w' => (Src w' (some ⟨vb, 0, none⟩) 4096 4096 (u8s ys) 1 ∧ w'.cell? ⟨va, 0, none⟩ = some (.slice (some ⟨vb, 0, none⟩) 4096 4096)) ∧ Src w' a8 4096 c8 (u8s ys) 1) _ := ⟨⟨HSV.out.1.chg C8 (fun _ _ h => h), C8.cell HSV.out.2 (fun h => h)⟩, own_src O8⟩
        refine hK.out _ _ hHeld2.1 (fun _ => wpAnyH_mono (S2 := fun w' => (Src w' (some ⟨vb, 0, none⟩) 4096 4096 (u8s ys) 1 ∧ w'.cell? ⟨va, 0, none⟩ = some (.slice (some ⟨vb, 0, none⟩) 4096 4096)) ∧ Src w' a8 4096 c8 (u8s ys) 1) (fun _ h => h.1) _ _ _ _ ?_)
        clear hK K hHeld
        try simp only [Act.put, List.setIfInBounds_toArray, List.set_cons_zero, List.set_cons_succ]
        refine wpAnyH_take (i := 2) (oi := ?oie2) (v := ?ve2) ?hie2 (by kernel_rfl) (by kernel_rfl) (by kernel_rfl) (fun _ _ _ h => h) (Or.inl ⟨?hwe2, ?hye2⟩) (by assumption) ?hre2
        case hie2 => simp only [List.getElem?_toArray, List.getElem?_cons_succ, List.getElem?_cons_zero]; rfl
        case hwe2 => rfl
        case hye2 => intro wq hSq; (try dsimp only at hSq); go_simp; (try with_reducible rfl)
        try simp only [Act.put, List.setIfInBounds_toArray, List.set_cons_zero, List.set_cons_succ]
        refine wpAnyH_take (i := 8) (oi := ?oie8) (v := ?ve8) ?hie8 (by kernel_rfl) (by kernel_rfl) (by kernel_rfl) (fun _ _ _ h => h) (Or.inl ⟨?hwe8, ?hye8⟩) (by assumption) ?hre8
        case hie8 => simp only [List.getElem?_toArray, List.getElem?_cons_succ, List.getElem?_cons_zero]; rfl
        case hwe8 => rfl
        case hye8 => intro wq hSq; (try dsimp only at hSq); go_simp; (try with_reducible rfl)
        try simp only [Act.put, List.setIfInBounds_toArray, List.set_cons_zero, List.set_cons_succ]
        refine wpAnyH_take (i := 9) (oi := ?oie9) (v := ?ve9) ?hie9 (by kernel_rfl) (by kernel_rfl) (by kernel_rfl) (fun _ _ _ h => h) (Or.inl ⟨?hwe9, ?hye9⟩) (by assumption) ?hre9
        case hie9 => simp only [List.getElem?_toArray, List.getElem?_cons_succ, List.getElem?_cons_zero]; rfl
        case hwe9 => rfl
        case hye9 => intro wq hSq; (try dsimp only at hSq); go_simp; (try with_reducible rfl)
        try simp only [Act.put, List.setIfInBounds_toArray, List.set_cons_zero, List.set_cons_succ]
        refine wpAnyH_done (by kernel_rfl) ?_ _
        refine NoPanic.normal ?_
        have HCZ := Lib.hid ((HPi.out.chg.trans ((Chg.refl wr (fun j => ¬ j < W.heap.size)).drew)).trans (C8.mono (fun _ _ h => h.elim)))
        go_wp2_with fail
        all_goals
          go_ret
          exact ⟨by simp, HCZ.out.below (Nat.le_refl _) (fun j hj h => h hj)⟩
end Go.Proofs.Ytiedfglkjkaefaa

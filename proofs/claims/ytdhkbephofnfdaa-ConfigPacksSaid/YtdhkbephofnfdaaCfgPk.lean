/- ConfigPacks: the walk (printed by gen_cpacks.py). -/
import Derived.Test.YtdhkbephofnfdaaCStay
import Derived.Test.YtdhkbephofnfdaaCRNum
import Derived.Test.YtdhkbephofnfdaaCUnp2
import Derived.Test.YtdhkbephofnfdaaCLaw
import Derived.Test.YtdhkbephofnfdaaCStr
import Derived.Test.YtdhkbephofnfdaaLaw14
import Derived.Test.YtdhkbephofnfdaaBig
import Derived.Test.YtdhkbephofnfdaaRChk
import Derived.Test.YtdhkbephofnfdaaRead
namespace Go.Proofs.Ytdhkbephofnfdaa
open Go.RowKit

/-- The bytes of a configuration; none of one that may not be. -/
def pkB (C : Cfg) : List Int := if chk C = 0 then packC C else []
def PackR (w w' : World) (C : Cfg) (k : Int) (m : Nat) (xs : List Int) (e : Ending) : Prop := ∃ ao cap, e = .returned (.tuple #[.slice ao m cap, .int .i64 k]) ∧ w'.ownsRow w.heap.size 5 1 (.slice ao m cap) m (u8s xs) ∧ Chg w w' (fun _ => False)
section
variable {C : Cfg} {ap ac aw : Option Addr} {cp cc cw : Nat} {w : World} {pg mj sw k : Int} {np nc nw m : Nat} {xs : List Int}
theorem pack_at (h : CfgAt w C ap ac aw cp cc cw) (hk : chk C = k) (hx : pkB C = xs) (hm : xs.length = m) (h1 : C.pages = pg) (h2 : C.major = mj) (h3 : C.switch = sw) (ha : C.parts.length = np) (hb : C.chans.length = nc) (hc : C.wins.length = nw) :
    Calls Try.prog 36 #[.agg #[.int .i64 pg, .int .i64 mj, .int .i64 sw, .slice ap np cp, .slice ac nc cc, .slice aw nw cw]] w fun e w' => PackR w w' C k m xs e := by
  subst h1 h2 h3 ha hb hc
  by_cases h0 : chk C = 0
  · have e1 : pkB C = packC C := if_pos h0
    refine (pack_ok w h h0).mono ?_
    rintro e w' ⟨ao, cap, rfl, O, C1⟩
    rw [← e1, hx, hm] at O ⊢
    rw [← hk, h0]
    exact ⟨ao, cap, rfl, O, C1⟩
  · have e1 : pkB C = [] := if_neg h0
    rw [hx] at e1
    subst e1
    subst hm
    refine (pack_bad w h h0).mono ?_
    rintro e w' ⟨rfl, C1⟩
    rw [hk]
    exact ⟨none, 0, rfl, World.ownsRow_nil _ _ _ _, C1⟩
theorem rpack_at (h : CfgAt w C ap ac aw cp cc cw) (hk : chk C = k) (hx : pkB C = xs) (hm : xs.length = m) (h1 : C.pages = pg) (h2 : C.major = mj) (h3 : C.switch = sw) (ha : C.parts.length = np) (hb : C.chans.length = nc) (hc : C.wins.length = nw) :
    Calls Try.prog 37 #[.agg #[.int .i64 pg, .int .i64 mj, .int .i64 sw, .slice ap np cp, .slice ac nc cc, .slice aw nw cw]] w fun e w' => PackR w w' C k m xs e := by
  subst h1 h2 h3 ha hb hc
  by_cases h0 : chk C = 0
  · have e1 : pkB C = packC C := if_pos h0
    refine (rcpack_ok w h h0).mono ?_
    rintro e w' ⟨ao, cap, rfl, O, C1⟩
    rw [← e1, hx, hm] at O ⊢
    rw [← hk, h0]
    exact ⟨ao, cap, rfl, O, C1⟩
  · have e1 : pkB C = [] := if_neg h0
    rw [hx] at e1
    subst e1
    subst hm
    refine (rcpack_bad w h h0).mono ?_
    rintro e w' ⟨rfl, C1⟩
    rw [hk]
    exact ⟨none, 0, rfl, World.ownsRow_nil _ _ _ _, C1⟩
theorem check_atk (h : CfgAt w C ap ac aw cp cc cw) (hk : chk C = k) (h1 : C.pages = pg) (h2 : C.major = mj) (h3 : C.switch = sw) (ha : C.parts.length = np) (hb : C.chans.length = nc) (hc : C.wins.length = nw) :
    Calls Try.prog 17 #[.agg #[.int .i64 pg, .int .i64 mj, .int .i64 sw, .slice ap np cp, .slice ac nc cc, .slice aw nw cw]] w fun e w' => e = .returned (.int .i64 k) ∧ Chg w w' (fun _ => False) := by
  subst hk h1 h2 h3 ha hb hc
  exact check_any w h
theorem rcheck_atk (h : CfgAt w C ap ac aw cp cc cw) (hk : chk C = k) (h1 : C.pages = pg) (h2 : C.major = mj) (h3 : C.switch = sw) (ha : C.parts.length = np) (hb : C.chans.length = nc) (hc : C.wins.length = nw) :
    Calls Try.prog 18 #[.agg #[.int .i64 pg, .int .i64 mj, .int .i64 sw, .slice ap np cp, .slice ac nc cc, .slice aw nw cw]] w fun e w' => e = .returned (.int .i64 k) ∧ Chg w w' (fun _ => False) := by
  subst hk h1 h2 h3 ha hb hc
  exact rcheck_any w h
theorem big_atk (h : CfgAt w C ap ac aw cp cc cw) {b : Bool} (hk : bigV C = b) (h1 : C.pages = pg) (h2 : C.major = mj) (h3 : C.switch = sw) (ha : C.parts.length = np) (hb : C.chans.length = nc) (hc : C.wins.length = nw) :
    Calls Try.prog 20 #[.agg #[.int .i64 pg, .int .i64 mj, .int .i64 sw, .slice ap np cp, .slice ac nc cc, .slice aw nw cw]] w fun e w' => e = .returned (.bool b) ∧ Chg w w' (fun _ => False) := by
  subst hk h1 h2 h3 ha hb hc
  exact big_any w h
end
/-- A configuration by its numbers. -/
structure NumsOf (C : Cfg) (pg mj sw : Int) (np nc nw : Nat) : Prop where
  h1 : C.pages = pg
  h2 : C.major = mj
  h3 : C.switch = sw
  ha : C.parts.length = np
  hb : C.chans.length = nc
  hc : C.wins.length = nw
theorem pkB_byte (C : Cfg) : bytesOk (pkB C) := by
  unfold pkB
  split
  · exact rngB_append (rngB_head C) (fourB_rng _)
  · intro x hx; cases hx
theorem pkB_len (C : Cfg) : (pkB C).length ≤ 20000 := by
  unfold pkB
  split
  · rename_i h
    obtain ⟨s1, s2, s3, s4, s5⟩ := chk_small h
    have h1 := partsB_len C.parts s3
    have h2 := chansB_len C.chans
    have h3 := winsB_len C.wins
    unfold packC summed headC magic
    simp only [List.length_append, nums_len, List.length_cons, List.length_nil, fourB_len]
    omega
  · simp
theorem u8s_set (xs : List Int) (j : Nat) (y : Int) : (u8s xs).set j (.int .u8 y) = u8s (xs.set j y) := by simp [u8s]

set_option maxRecDepth 100000 in
set_option maxHeartbeats 4000000 in
theorem packs_out {C O : Cfg} {ap ac aw ap' ac' aw' : Option Addr} {cp cc cw cp' cc' cw' np nc nw np' nc' nw' : Nat} {pg mj sw pg' mj' sw' : Int} (W : World) (A : CfgAt W C ap ac aw cp cc cw) (B : CfgAt W O ap' ac' aw' cp' cc' cw') (NA : NumsOf C pg mj sw np nc nw) (NB : NumsOf O pg' mj' sw' np' nc' nw') (h : bigV C = true ∨ (bigV C = false ∧ bigV O = true)) :
    Calls Try.prog 12 #[.agg #[.int .i64 pg, .int .i64 mj, .int .i64 sw, .slice ap np cp, .slice ac nc cc, .slice aw nw cw], .agg #[.int .i64 pg', .int .i64 mj', .int .i64 sw', .slice ap' np' cp', .slice ac' nc' cc', .slice aw' nw' cw']] W fun e w' => e = .returned (.bool true) ∧ Below W.heap.size W w' := by
  have HA := Lib.hid A
  have HB := Lib.hid B
  have HNA := Lib.hid NA
  have HNB := Lib.hid NB
  have BA := (Box.new W 27 #[.int .i64 pg, .int .i64 mj, .int .i64 sw, .slice ap np cp, .slice ac nc cc, .slice aw nw cw]).alloc (.cells #[.int .i64 pg', .int .i64 mj', .int .i64 sw', .slice ap' np' cp', .slice ac' nc' cc', .slice aw' nw' cw'] 27)
  have BB := Box.new (W.alloc (.cells #[.int .i64 pg, .int .i64 mj, .int .i64 sw, .slice ap np cp, .slice ac nc cc, .slice aw nw cw] 27)) 27 #[.int .i64 pg', .int .i64 mj', .int .i64 sw', .slice ap' np' cp', .slice ac' nc' cc', .slice aw' nw' cw']
  rw [show (W.alloc (.cells #[.int .i64 pg, .int .i64 mj, .int .i64 sw, .slice ap np cp, .slice ac nc cc, .slice aw nw cw] 27)).heap.size = W.heap.size + 1 from by simp] at BB
  have C0 : Chg W ((W.alloc (.cells #[.int .i64 pg, .int .i64 mj, .int .i64 sw, .slice ap np cp, .slice ac nc cc, .slice aw nw cw] 27)).alloc (.cells #[.int .i64 pg', .int .i64 mj', .int .i64 sw', .slice ap' np' cp', .slice ac' nc' cc', .slice aw' nw' cw'] 27)) (fun _ => False) := ((Chg.refl W _).alloc _).alloc _
  have HBA := Lib.hid BA
  have HBB := Lib.hid BB
  have HC0 := Lib.hid C0
  clear A B NA NB BA BB C0
  go_enter Try.func12, Try.ntmps12
  go_wp2_with fail
  refine (alive_any _).mono ?_
  rintro e w1 ⟨rfl, C1⟩
  have B1 := HBA.out.chg C1 (fun h => h)
  have D1 := HBB.out.chg C1 (fun h => h)
  have hdl := D1.lt
  have x0 := B1.cell 0
  have x1 := B1.cell 1
  have x2 := B1.cell 2
  have x3 := B1.cell 3
  have x4 := B1.cell 4
  have x5 := B1.cell 5
  have y0 := D1.cell 0
  have y1 := D1.cell 1
  have y2 := D1.cell 2
  have y3 := D1.cell 3
  have y4 := D1.cell 4
  have y5 := D1.cell 5
  have HC1 := Lib.hid (HC0.out.trans C1)
  have HB1 := Lib.hid B1
  have HD1 := Lib.hid D1
  clear C1 B1 D1
  rcases h with h | ⟨h, h'⟩
  · have HG := big_atk (HA.out.keep HC1.out) h HNA.out.h1 HNA.out.h2 HNA.out.h3 HNA.out.ha HNA.out.hb HNA.out.hc
    clear h
    go_wp2_with fail
    refine HG.mono ?_
    rintro e w2 ⟨rfl, C2⟩
    clear HG
    go_wp2_with fail
    go_ret
    exact ⟨rfl, (HC1.out.trans C2).below (Nat.le_refl _) (fun _ _ h => h)⟩
  · have HG := big_atk (HA.out.keep HC1.out) h HNA.out.h1 HNA.out.h2 HNA.out.h3 HNA.out.ha HNA.out.hb HNA.out.hc
    have HH' := Lib.hid h'
    clear h h'
    go_wp2_with fail
    refine HG.mono ?_
    rintro e w2 ⟨rfl, C2⟩
    clear HG
    have HG := big_atk (HB.out.keep (HC1.out.trans C2)) HH'.out HNB.out.h1 HNB.out.h2 HNB.out.h3 HNB.out.ha HNB.out.hb HNB.out.hc
    have y0 := C2.cell y0 (fun h => h)
    have y1 := C2.cell y1 (fun h => h)
    have y2 := C2.cell y2 (fun h => h)
    have y3 := C2.cell y3 (fun h => h)
    have y4 := C2.cell y4 (fun h => h)
    have y5 := C2.cell y5 (fun h => h)
    go_wp2_with fail
    refine HG.mono ?_
    rintro e w3 ⟨rfl, C3⟩
    clear HG
    go_wp2_with fail
    go_ret
    exact ⟨rfl, ((HC1.out.trans C2).trans C3).below (Nat.le_refl _) (fun _ _ h => h)⟩

set_option maxRecDepth 100000 in
set_option maxHeartbeats 16000000 in
theorem packs_in {C O : Cfg} {ap ac aw ap' ac' aw' : Option Addr} {cp cc cw cp' cc' cw' np nc nw np' nc' nw' : Nat} {pg mj sw pg' mj' sw' : Int} (W : World) (A : CfgAt W C ap ac aw cp cc cw) (B : CfgAt W O ap' ac' aw' cp' cc' cw') (NA : NumsOf C pg mj sw np nc nw) (NB : NumsOf O pg' mj' sw' np' nc' nw') (h : bigV C = false) (h' : bigV O = false) (l1 : np ≤ 20) (l2 : nc ≤ 40) (l3 : nw ≤ 60) :
    Calls Try.prog 12 #[.agg #[.int .i64 pg, .int .i64 mj, .int .i64 sw, .slice ap np cp, .slice ac nc cc, .slice aw nw cw], .agg #[.int .i64 pg', .int .i64 mj', .int .i64 sw', .slice ap' np' cp', .slice ac' nc' cc', .slice aw' nw' cw']] W fun e w' => e = .returned (.bool true) ∧ Below W.heap.size W w' := by
  obtain ⟨i0, hi0, hz0, hz1, hz2⟩ := info_parts info_u8i
  obtain ⟨k, hk⟩ : ∃ k, chk C = k := ⟨_, rfl⟩
  obtain ⟨ko, hko⟩ : ∃ k, chk O = k := ⟨_, rfl⟩
  obtain ⟨xs, hxs⟩ : ∃ x, pkB C = x := ⟨_, rfl⟩
  obtain ⟨ys, hys⟩ : ∃ x, pkB O = x := ⟨_, rfl⟩
  obtain ⟨m, hm⟩ : ∃ x, xs.length = x := ⟨_, rfl⟩
  obtain ⟨mo, hmo⟩ : ∃ x, ys.length = x := ⟨_, rfl⟩
  have hm2 : m ≤ 20000 := by rw [← hm, ← hxs]; exact pkB_len C
  have hmo2 : mo ≤ 20000 := by rw [← hmo, ← hys]; exact pkB_len O
  have HKK := Lib.hid hk
  have HKO := Lib.hid hko
  have HXS := Lib.hid hxs
  have HYS := Lib.hid hys
  have HM := Lib.hid hm
  have HMO := Lib.hid hmo
  have HBG := Lib.hid h
  have HBG' := Lib.hid h'
  have HLL := Lib.hid (And.intro l1 (And.intro l2 l3))
  clear hk hko hxs hys hm hmo h h' l1 l2 l3
  have HA := Lib.hid A
  have HB := Lib.hid B
  have HNA := Lib.hid NA
  have HNB := Lib.hid NB
  have BA := (Box.new W 27 #[.int .i64 pg, .int .i64 mj, .int .i64 sw, .slice ap np cp, .slice ac nc cc, .slice aw nw cw]).alloc (.cells #[.int .i64 pg', .int .i64 mj', .int .i64 sw', .slice ap' np' cp', .slice ac' nc' cc', .slice aw' nw' cw'] 27)
  have BB := Box.new (W.alloc (.cells #[.int .i64 pg, .int .i64 mj, .int .i64 sw, .slice ap np cp, .slice ac nc cc, .slice aw nw cw] 27)) 27 #[.int .i64 pg', .int .i64 mj', .int .i64 sw', .slice ap' np' cp', .slice ac' nc' cc', .slice aw' nw' cw']
  rw [show (W.alloc (.cells #[.int .i64 pg, .int .i64 mj, .int .i64 sw, .slice ap np cp, .slice ac nc cc, .slice aw nw cw] 27)).heap.size = W.heap.size + 1 from by simp] at BB
  have C0 : Chg W ((W.alloc (.cells #[.int .i64 pg, .int .i64 mj, .int .i64 sw, .slice ap np cp, .slice ac nc cc, .slice aw nw cw] 27)).alloc (.cells #[.int .i64 pg', .int .i64 mj', .int .i64 sw', .slice ap' np' cp', .slice ac' nc' cc', .slice aw' nw' cw'] 27)) (fun _ => False) := ((Chg.refl W _).alloc _).alloc _
  have HBA := Lib.hid BA
  have HBB := Lib.hid BB
  have HC0 := Lib.hid C0
  clear A B NA NB BA BB C0
  go_enter Try.func12, Try.ntmps12
  go_wp2_with fail
  refine (alive_any _).mono ?_
  rintro e w1 ⟨rfl, C1⟩
  have B1 := HBA.out.chg C1 (fun h => h)
  have D1 := HBB.out.chg C1 (fun h => h)
  have hdl := D1.lt
  have x0 := B1.cell 0
  have x1 := B1.cell 1
  have x2 := B1.cell 2
  have x3 := B1.cell 3
  have x4 := B1.cell 4
  have x5 := B1.cell 5
  have y0 := D1.cell 0
  have y1 := D1.cell 1
  have y2 := D1.cell 2
  have y3 := D1.cell 3
  have y4 := D1.cell 4
  have y5 := D1.cell 5
  have HC1 := Lib.hid (HC0.out.trans C1)
  have HB1 := Lib.hid B1
  have HD1 := Lib.hid D1
  clear C1 B1 D1
  have HG := big_atk (HA.out.keep HC1.out) HBG.out HNA.out.h1 HNA.out.h2 HNA.out.h3 HNA.out.ha HNA.out.hb HNA.out.hc
  go_wp2_with fail
  refine HG.mono ?_
  rintro e w2 ⟨rfl, C2⟩
  clear HG
  have HG := big_atk (HB.out.keep (HC1.out.trans C2)) HBG'.out HNB.out.h1 HNB.out.h2 HNB.out.h3 HNB.out.ha HNB.out.hb HNB.out.hc
  have y0 := C2.cell y0 (fun h => h)
  have y1 := C2.cell y1 (fun h => h)
  have y2 := C2.cell y2 (fun h => h)
  have y3 := C2.cell y3 (fun h => h)
  have y4 := C2.cell y4 (fun h => h)
  have y5 := C2.cell y5 (fun h => h)
  have x0 := C2.cell x0 (fun h => h)
  have x1 := C2.cell x1 (fun h => h)
  have x2 := C2.cell x2 (fun h => h)
  have x3 := C2.cell x3 (fun h => h)
  have x4 := C2.cell x4 (fun h => h)
  have x5 := C2.cell x5 (fun h => h)
  go_wp2_with fail
  refine HG.mono ?_
  rintro e w3 ⟨rfl, C3⟩
  clear HG
  have x0 := C3.cell x0 (fun h => h)
  have x1 := C3.cell x1 (fun h => h)
  have x2 := C3.cell x2 (fun h => h)
  have x3 := C3.cell x3 (fun h => h)
  have x4 := C3.cell x4 (fun h => h)
  have x5 := C3.cell x5 (fun h => h)
  have y0 := C3.cell y0 (fun h => h)
  have y1 := C3.cell y1 (fun h => h)
  have y2 := C3.cell y2 (fun h => h)
  have y3 := C3.cell y3 (fun h => h)
  have y4 := C3.cell y4 (fun h => h)
  have y5 := C3.cell y5 (fun h => h)
  have HC3 := Lib.hid ((HC1.out.trans C2).trans C3)
  have HL := lent_any (pg := pg) (mj := mj) (sw := sw) w3 (HA.out.keep HC3.out) HNA.out.ha HNA.out.hb HNA.out.hc HLL.out.1 HLL.out.2.1 HLL.out.2.2
  have hq3 : W.heap.size + 1 < w3.heap.size := by have := C2.size; have := C3.size; omega
  clear C2 C3
  go_wp2_with fail
  refine HL.mono ?_
  clear HL
  rintro e w4 ⟨g0, d0, g1, d1, g2, d2, rfl, C4, O0, O1, O2⟩
  have x0 := C4.cell x0 (fun h => h)
  have x1 := C4.cell x1 (fun h => h)
  have x2 := C4.cell x2 (fun h => h)
  have x3 := C4.cell x3 (fun h => h)
  have x4 := C4.cell x4 (fun h => h)
  have x5 := C4.cell x5 (fun h => h)
  have y0 := C4.cell y0 (fun h => h)
  have y1 := C4.cell y1 (fun h => h)
  have y2 := C4.cell y2 (fun h => h)
  have y3 := C4.cell y3 (fun h => h)
  have y4 := C4.cell y4 (fun h => h)
  have y5 := C4.cell y5 (fun h => h)
  have hq4 := C4.size
  have CA4 : Chg w4 (w4.alloc (.cells #[.int .i64 pg, .int .i64 mj, .int .i64 sw, .slice (some ⟨g0, 0, none⟩) np d0, .slice (some ⟨g1, 0, none⟩) nc d1, .slice (some ⟨g2, 0, none⟩) nw d2] 27)) (fun _ => False) := (Chg.refl w4 _).alloc _
  have F4 := Box.new w4 27 #[.int .i64 pg, .int .i64 mj, .int .i64 sw, .slice (some ⟨g0, 0, none⟩) np d0, .slice (some ⟨g1, 0, none⟩) nc d1, .slice (some ⟨g2, 0, none⟩) nw d2]
  have HLN := Lib.hid ((Lent.mk (own_base O0 (Nat.zero_le _)) (own_base O1 (Nat.zero_le _)) (own_base O2 (Nat.zero_le _))).keep CA4)
  have HC4 := Lib.hid ((HC3.out.trans C4).trans CA4)
  obtain ⟨w5, hw5⟩ : ∃ x, w4.alloc (.cells #[.int .i64 pg, .int .i64 mj, .int .i64 sw, .slice (some ⟨g0, 0, none⟩) np d0, .slice (some ⟨g1, 0, none⟩) nc d1, .slice (some ⟨g2, 0, none⟩) nw d2] 27) = x := ⟨_, rfl⟩
  obtain ⟨q, hq⟩ : ∃ x, w4.heap.size = x := ⟨_, rfl⟩
  have hq5 : W.heap.size + 1 < q := by omega
  have x0 := CA4.cell x0 (fun h => h)
  have y0 := CA4.cell y0 (fun h => h)
  have x1 := CA4.cell x1 (fun h => h)
  have y1 := CA4.cell y1 (fun h => h)
  have x2 := CA4.cell x2 (fun h => h)
  have y2 := CA4.cell y2 (fun h => h)
  have x3 := CA4.cell x3 (fun h => h)
  have y3 := CA4.cell y3 (fun h => h)
  have x4 := CA4.cell x4 (fun h => h)
  have y4 := CA4.cell y4 (fun h => h)
  have x5 := CA4.cell x5 (fun h => h)
  have y5 := CA4.cell y5 (fun h => h)
  rw [hw5, hq] at F4
  rw [hw5] at HLN HC4 x0 y0 x1 y1 x2 y2 x3 y3 x4 y4 x5 y5
  have hql := F4.lt
  have z0 := F4.cell 0
  have z1 := F4.cell 1
  have z2 := F4.cell 2
  have z3 := F4.cell 3
  have z4 := F4.cell 4
  have z5 := F4.cell 5
  have HCK := check_atk (HLN.out.at_ HNA.out.ha HNA.out.hb HNA.out.hc HA.out.names) HKK.out HNA.out.h1 HNA.out.h2 HNA.out.h3 HNA.out.ha HNA.out.hb HNA.out.hc
  clear C4 CA4 O0 O1 O2 F4
  go_upto_region 6 with fail
  clear hw5 hq
  go_wp2_with fail
  refine HCK.mono ?_
  clear HCK
  rintro e w6 ⟨rfl, C6⟩
  have x0 := C6.cell x0 (fun h => h)
  have x1 := C6.cell x1 (fun h => h)
  have x2 := C6.cell x2 (fun h => h)
  have x3 := C6.cell x3 (fun h => h)
  have x4 := C6.cell x4 (fun h => h)
  have x5 := C6.cell x5 (fun h => h)
  have y0 := C6.cell y0 (fun h => h)
  have y1 := C6.cell y1 (fun h => h)
  have y2 := C6.cell y2 (fun h => h)
  have y3 := C6.cell y3 (fun h => h)
  have y4 := C6.cell y4 (fun h => h)
  have y5 := C6.cell y5 (fun h => h)
  have z0 := C6.cell z0 (fun h => h)
  have z1 := C6.cell z1 (fun h => h)
  have z2 := C6.cell z2 (fun h => h)
  have z3 := C6.cell z3 (fun h => h)
  have z4 := C6.cell z4 (fun h => h)
  have z5 := C6.cell z5 (fun h => h)
  have HPK := pack_at ((HLN.out.keep C6).at_ HNA.out.ha HNA.out.hb HNA.out.hc HA.out.names) HKK.out HXS.out HM.out HNA.out.h1 HNA.out.h2 HNA.out.h3 HNA.out.ha HNA.out.hb HNA.out.hc
  go_wp2_with fail
  refine HPK.mono ?_
  clear HPK
  rintro e w7 ⟨a7, c7, rfl, O7, C7⟩
  have x0 := C7.cell x0 (fun h => h)
  have x1 := C7.cell x1 (fun h => h)
  have x2 := C7.cell x2 (fun h => h)
  have x3 := C7.cell x3 (fun h => h)
  have x4 := C7.cell x4 (fun h => h)
  have x5 := C7.cell x5 (fun h => h)
  have y0 := C7.cell y0 (fun h => h)
  have y1 := C7.cell y1 (fun h => h)
  have y2 := C7.cell y2 (fun h => h)
  have y3 := C7.cell y3 (fun h => h)
  have y4 := C7.cell y4 (fun h => h)
  have y5 := C7.cell y5 (fun h => h)
  have z0 := C7.cell z0 (fun h => h)
  have z1 := C7.cell z1 (fun h => h)
  have z2 := C7.cell z2 (fun h => h)
  have z3 := C7.cell z3 (fun h => h)
  have z4 := C7.cell z4 (fun h => h)
  have z5 := C7.cell z5 (fun h => h)
  have HC7 := Lib.hid ((HC4.out.trans C6).trans C7)
  have HLN7 := Lib.hid ((HLN.out.keep C6).keep C7)
  have HPO := pack_at (HB.out.keep HC7.out) HKO.out HYS.out HMO.out HNB.out.h1 HNB.out.h2 HNB.out.h3 HNB.out.ha HNB.out.hb HNB.out.hc
  have HO7 := Lib.hid O7
  have h67 := C6.size
  have h7 := C7.size
  clear C6 C7 O7
  go_wp2_with fail
  refine HPO.mono ?_
  clear HPO
  rintro e w8 ⟨a8, c8, rfl, O8, C8⟩
  have x0 := C8.cell x0 (fun h => h)
  have x1 := C8.cell x1 (fun h => h)
  have x2 := C8.cell x2 (fun h => h)
  have x3 := C8.cell x3 (fun h => h)
  have x4 := C8.cell x4 (fun h => h)
  have x5 := C8.cell x5 (fun h => h)
  have z0 := C8.cell z0 (fun h => h)
  have z1 := C8.cell z1 (fun h => h)
  have z2 := C8.cell z2 (fun h => h)
  have z3 := C8.cell z3 (fun h => h)
  have z4 := C8.cell z4 (fun h => h)
  have z5 := C8.cell z5 (fun h => h)
  have HC8 := Lib.hid (HC7.out.trans C8)
  have HLN8 := Lib.hid (HLN7.out.keep C8)
  have HO78 := Lib.hid (own_chg HO7.out C8 (fun _ _ h => h))
  have HLT := Lib.hid (fun b hb => (HO7.out.lt b hb).2)
  have HLT0 := Lib.hid (show q < w7.heap.size from by omega)
  have HLG := Lib.hid (And.intro (HLN7.out.ps.lt g0 rfl).2 (And.intro (HLN7.out.cs.lt g1 rfl).2 (HLN7.out.ws.lt g2 rfl).2))
  clear C8 y0 y1 y2 y3 y4 y5
  go_wp2_with fail
  go_loopw [13] (fun i wx => ∃ j : Nat, j ≤ mo ∧ i = .int .i64 j ∧ (∃ zs : List Int, wx.ownsRow w7.heap.size 5 1 (.slice a8 mo c8) mo (u8s zs)) ∧ Chg w8 wx (fun b => (Value.slice a8 mo c8).ownBlock = some b)) (fun i _ => mo - (intOf i).toNat)
  case atStart => exact ⟨0, by omega, rfl, ⟨ys, O8⟩, Chg.refl _ _⟩
  case round =>
    obtain ⟨j, hj, rfl, ⟨zs, Oj⟩, Cj⟩ := hrel
    by_cases hlt2 : j < mo
    · obtain ⟨b, cap, hv, hb1, hb2, hb3, hb4⟩ := own_block Oj (by omega)
      injection hv with e1 e2 e3
      subst e1 e3
      have hzl : zs.length = mo := by have := Oj.1; simpa [u8s] using this
      have hcell := own_cells Oj j (.int .u8 (zs[j]'(by omega))) (by simp [u8s, show j < zs.length by omega])
      have hfz := own_frozen Oj j
      have j0 : (0 : Int) ≤ (j : Int) := by omega
      have j1 : (j : Int) < (mo : Int) := by omega
      generalize zs[j]'(by omega) = x at hcell
      have OJ := Lib.hid Oj
      clear Oj O8
      go_wp2_with fail
      go_roundw
      case rel =>
        have O5 := own_setB OJ.out j (.int .u8 (bits .xor .u8 x 255))
        rw [u8s_set] at O5
        exact ⟨j + 1, by omega, by go_num, ⟨_, O5⟩, Cj.setCell (p := ⟨b, j, none⟩) (fun _ => rfl) _⟩
      case measure => simp [intOf]; omega
    · have hjn : j = mo := by omega
      subst hjn
      have hob : ∀ b, (Value.slice a8 j c8).ownBlock = some b → w7.heap.size ≤ b := fun b hb => (Oj.lt b hb).1
      have hf : ∀ b, b < w7.heap.size → ¬ (Value.slice a8 j c8).ownBlock = some b := fun b hb h => by have := hob b h; omega
      have x0 := Cj.cell x0 (hf W.heap.size (by have := HLT0.out; omega))
      have z0 := Cj.cell z0 (hf q HLT0.out)
      have x1 := Cj.cell x1 (hf W.heap.size (by have := HLT0.out; omega))
      have z1 := Cj.cell z1 (hf q HLT0.out)
      have x2 := Cj.cell x2 (hf W.heap.size (by have := HLT0.out; omega))
      have z2 := Cj.cell z2 (hf q HLT0.out)
      have x3 := Cj.cell x3 (hf W.heap.size (by have := HLT0.out; omega))
      have z3 := Cj.cell z3 (hf q HLT0.out)
      have x4 := Cj.cell x4 (hf W.heap.size (by have := HLT0.out; omega))
      have z4 := Cj.cell z4 (hf q HLT0.out)
      have x5 := Cj.cell x5 (hf W.heap.size (by have := HLT0.out; omega))
      have z5 := Cj.cell z5 (hf q HLT0.out)
      have HB9 := Lib.hid (own_chg HO78.out Cj (fun b hb => hf b (HLT.out b hb)))
      have HC9 : Hid (Chg W wr (fun _ => False)) := HC8.out.trans' Cj (fun b hb h => hf b (by have := HC7.out.size; omega) h)
      have HLN9 : Hid (Lent wr C np nc nw g0 d0 g1 d1 g2 d2) := ⟨own_chg HLN8.out.ps Cj (fun b hb => hf b (by cases hb; exact HLG.out.1)), own_chg HLN8.out.cs Cj (fun b hb => hf b (by cases hb; exact HLG.out.2.1)), own_chg HLN8.out.ws Cj (fun b hb => hf b (by cases hb; exact HLG.out.2.2))⟩
      have HRP := rpack_at (HA.out.keep HC9.out) HKK.out HXS.out HM.out HNA.out.h1 HNA.out.h2 HNA.out.h3 HNA.out.ha HNA.out.hb HNA.out.hc
      clear Oj Cj hob hf O8 hj
      go_wp2_with fail
      refine HRP.mono ?_
      clear HRP
      rintro e w10 ⟨a10, c10, rfl, O10, C10⟩
      have x0 := C10.cell x0 (fun h => h)
      have x1 := C10.cell x1 (fun h => h)
      have x2 := C10.cell x2 (fun h => h)
      have x3 := C10.cell x3 (fun h => h)
      have x4 := C10.cell x4 (fun h => h)
      have x5 := C10.cell x5 (fun h => h)
      have z0 := C10.cell z0 (fun h => h)
      have z1 := C10.cell z1 (fun h => h)
      have z2 := C10.cell z2 (fun h => h)
      have z3 := C10.cell z3 (fun h => h)
      have z4 := C10.cell z4 (fun h => h)
      have z5 := C10.cell z5 (fun h => h)
      have HC10 := Lib.hid (HC9.out.trans C10)
      have HLN10 := Lib.hid (HLN9.out.keep C10)
      have HB10 := Lib.hid (own_chg HB9.out C10 (fun _ _ h => h))
      have S3 := Lib.hid (own_src HB10.out)
      have S6 := Lib.hid (own_src O10)
      obtain ⟨st, hst⟩ : ∃ st, strOfNums xs = st := ⟨_, rfl⟩
      have K3 := Lib.hid (show ∀ w', Chg w10 w' (fun _ => False) → (convert 59 9 (.slice a7 m c7)).run Try.prog w' = .ok (.string st) w' from fun w' C => by rw [← hst]; exact conv_rule w' (S3.out.chg C (fun _ _ h => h)))
      have K6 := Lib.hid (show ∀ w', Chg w10 w' (fun _ => False) → (convert 59 9 (.slice a10 m c10)).run Try.prog w' = .ok (.string st) w' from fun w' C => by rw [← hst]; exact conv_rule w' (S6.out.chg C (fun _ _ h => h)))
      have KX := Lib.hid (And.intro x0 (And.intro x1 (And.intro x2 (And.intro x3 (And.intro x4 x5)))))
      have KZ := Lib.hid (And.intro z0 (And.intro z1 (And.intro z2 (And.intro z3 (And.intro z4 z5)))))
      clear O10 C10 hst x0 z0 x1 z1 x2 z2 x3 z3 x4 z4 x5 z5
      go_wp2_with fail
      refine wp_region_noPanic ?_
      refine seq_begin (fun w' => Chg w10 w' (fun _ => False)) (by kernel_rfl) ((Chg.refl w10 _).drew) ?_
      refine seq_op 0 (oi := ?oq0) (v := ?vq0) ?hq0 (by kernel_rfl) (by kernel_rfl) (by kernel_rfl) (fun _ _ _ h => h) ?wq0 (fun K wq hS hK => ?yq0) ?rq0
      case hq0 => simp only [List.getElem?_toArray, List.getElem?_cons_succ, List.getElem?_cons_zero]; rfl
      case wq0 => rfl
      case yq0 =>
        have HS := Lib.hid hS
        try dsimp only at hS
        go_simp
        exact hK.out _ HS.out
      try simp only [Act.put, List.setIfInBounds_toArray, List.set_cons_zero, List.set_cons_succ]
      refine seq_op 1 (oi := ?oq1) (v := ?vq1) ?hq1 (by kernel_rfl) (by kernel_rfl) (by kernel_rfl) (fun _ _ _ h => h) ?wq1 (fun K wq hS hK => ?yq1) ?rq1
      case hq1 => simp only [List.getElem?_toArray, List.getElem?_cons_succ, List.getElem?_cons_zero]; rfl
      case wq1 => rfl
      case yq1 =>
        go_simp
        refine (num_any _ _).mono ?_
        rintro r w7 ⟨rfl, rfl⟩
        have hS2 := hS
        exact hK.out _ hS2
      try simp only [Act.put, List.setIfInBounds_toArray, List.set_cons_zero, List.set_cons_succ]
      refine seq_op 2 (oi := ?oq2) (v := ?vq2) ?hq2 (by kernel_rfl) (by kernel_rfl) (by kernel_rfl) (fun _ _ _ h => h) ?wq2 (fun K wq hS hK => ?yq2) ?rq2
      case hq2 => simp only [List.getElem?_toArray, List.getElem?_cons_succ, List.getElem?_cons_zero]; rfl
      case wq2 => rfl
      case yq2 =>
        have HS2 := Lib.hid hS
        have x0 := hS.cell KX.out.1 (fun h => h)
        have x1 := hS.cell KX.out.2.1 (fun h => h)
        have x2 := hS.cell KX.out.2.2.1 (fun h => h)
        have x3 := hS.cell KX.out.2.2.2.1 (fun h => h)
        have x4 := hS.cell KX.out.2.2.2.2.1 (fun h => h)
        have x5 := hS.cell KX.out.2.2.2.2.2 (fun h => h)
        clear hS
        go_simp
        have hS2 := HS2.out
        exact hK.out _ hS2
      try simp only [Act.put, List.setIfInBounds_toArray, List.set_cons_zero, List.set_cons_succ]
      refine seq_op 3 (oi := ?oq3) (v := ?vq3) ?hq3 (by kernel_rfl) (by kernel_rfl) (by kernel_rfl) (fun _ _ _ h => h) ?wq3 (fun K wq hS hK => ?yq3) ?rq3
      case hq3 => simp only [List.getElem?_toArray, List.getElem?_cons_succ, List.getElem?_cons_zero]; rfl
      case wq3 => rfl
      case yq3 =>
        have HCK := rcheck_atk (HA.out.keep (HC10.out.trans hS)) HKK.out HNA.out.h1 HNA.out.h2 HNA.out.h3 HNA.out.ha HNA.out.hb HNA.out.hc
        have HS2 := Lib.hid hS
        clear hS
        go_simp
        refine HCK.mono ?_
        rintro r w7 ⟨rfl, C7⟩
        have hS2 := HS2.out.trans C7
        exact hK.out _ hS2
      try simp only [Act.put, List.setIfInBounds_toArray, List.set_cons_zero, List.set_cons_succ]
      refine seq_op 4 (oi := ?oq4) (v := ?vq4) ?hq4 (by kernel_rfl) (by kernel_rfl) (by kernel_rfl) (fun _ _ _ h => h) ?wq4 (fun K wq hS hK => ?yq4) ?rq4
      case hq4 => simp only [List.getElem?_toArray, List.getElem?_cons_succ, List.getElem?_cons_zero]; rfl
      case wq4 => rfl
      case yq4 =>
        have HS := Lib.hid hS
        try dsimp only at hS
        go_simp
        exact hK.out _ HS.out
      try simp only [Act.put, List.setIfInBounds_toArray, List.set_cons_zero, List.set_cons_succ]
      refine seq_op 5 (oi := ?oq5) (v := ?vq5) ?hq5 (by kernel_rfl) (by kernel_rfl) (by kernel_rfl) (fun _ _ _ h => h) ?wq5 (fun K wq hS hK => ?yq5) ?rq5
      case hq5 => simp only [List.getElem?_toArray, List.getElem?_cons_succ, List.getElem?_cons_zero]; rfl
      case wq5 => rfl
      case yq5 =>
        have HS := Lib.hid hS
        try dsimp only at hS
        go_simp
        exact hK.out _ HS.out
      try simp only [Act.put, List.setIfInBounds_toArray, List.set_cons_zero, List.set_cons_succ]
      refine seq_op 6 (oi := ?oq6) (v := ?vq6) ?hq6 (by kernel_rfl) (by kernel_rfl) (by kernel_rfl) (fun _ _ _ h => h) ?wq6 (fun K wq hS hK => ?yq6) ?rq6
      case hq6 => simp only [List.getElem?_toArray, List.getElem?_cons_succ, List.getElem?_cons_zero]; rfl
      case wq6 => rfl
      case yq6 =>
        have HS := Lib.hid hS
        try dsimp only at hS
        go_simp
        exact hK.out _ HS.out
      try simp only [Act.put, List.setIfInBounds_toArray, List.set_cons_zero, List.set_cons_succ]
      refine seq_op 7 (oi := ?oq7) (v := ?vq7) ?hq7 (by kernel_rfl) (by kernel_rfl) (by kernel_rfl) (fun _ _ _ h => h) ?wq7 (fun K wq hS hK => ?yq7) ?rq7
      case hq7 => simp only [List.getElem?_toArray, List.getElem?_cons_succ, List.getElem?_cons_zero]; rfl
      case wq7 => rfl
      case yq7 =>
        go_simp
        refine (num_any _ _).mono ?_
        rintro r w7 ⟨rfl, rfl⟩
        have hS2 := hS
        exact hK.out _ hS2
      try simp only [Act.put, List.setIfInBounds_toArray, List.set_cons_zero, List.set_cons_succ]
      refine seq_op 8 (oi := ?oq8) (v := ?vq8) ?hq8 (by kernel_rfl) (by kernel_rfl) (by kernel_rfl) (fun _ _ _ h => h) ?wq8 (fun K wq hS hK => ?yq8) ?rq8
      case hq8 => simp only [List.getElem?_toArray, List.getElem?_cons_succ, List.getElem?_cons_zero]; rfl
      case wq8 => rfl
      case yq8 =>
        have HS := Lib.hid hS
        try dsimp only at hS
        go_simp
        exact hK.out _ HS.out
      try simp only [Act.put, List.setIfInBounds_toArray, List.set_cons_zero, List.set_cons_succ]
      refine seq_op 9 (oi := ?oq9) (v := ?vq9) ?hq9 (by kernel_rfl) (by kernel_rfl) (by kernel_rfl) (fun _ _ _ h => h) ?wq9 (fun K wq hS hK => ?yq9) ?rq9
      case hq9 => simp only [List.getElem?_toArray, List.getElem?_cons_succ, List.getElem?_cons_zero]; rfl
      case wq9 => rfl
      case yq9 =>
        have HS := Lib.hid hS
        try dsimp only at hS
        go_simp
        exact hK.out _ HS.out
      try simp only [Act.put, List.setIfInBounds_toArray, List.set_cons_zero, List.set_cons_succ]
      refine seq_op 10 (oi := ?oq10) (v := ?vq10) ?hq10 (by kernel_rfl) (by kernel_rfl) (by kernel_rfl) (fun _ _ _ h => h) ?wq10 (fun K wq hS hK => ?yq10) ?rq10
      case hq10 => simp only [List.getElem?_toArray, List.getElem?_cons_succ, List.getElem?_cons_zero]; rfl
      case wq10 => rfl
      case yq10 =>
        have HS := Lib.hid hS
        try dsimp only at hS
        go_simp
        exact hK.out _ HS.out
      try simp only [Act.put, List.setIfInBounds_toArray, List.set_cons_zero, List.set_cons_succ]
      refine seq_op 11 (oi := ?oq11) (v := ?vq11) ?hq11 (by kernel_rfl) (by kernel_rfl) (by kernel_rfl) (fun _ _ _ h => h) ?wq11 (fun K wq hS hK => ?yq11) ?rq11
      case hq11 => simp only [List.getElem?_toArray, List.getElem?_cons_succ, List.getElem?_cons_zero]; rfl
      case wq11 => rfl
      case yq11 =>
        have HS := Lib.hid hS
        try dsimp only at hS
        go_simp
        exact hK.out _ HS.out
      try simp only [Act.put, List.setIfInBounds_toArray, List.set_cons_zero, List.set_cons_succ]
      refine seq_op 12 (oi := ?oq12) (v := ?vq12) ?hq12 (by kernel_rfl) (by kernel_rfl) (by kernel_rfl) (fun _ _ _ h => h) ?wq12 (fun K wq hS hK => ?yq12) ?rq12
      case hq12 => simp only [List.getElem?_toArray, List.getElem?_cons_succ, List.getElem?_cons_zero]; rfl
      case wq12 => rfl
      case yq12 =>
        have HS := Lib.hid hS
        try dsimp only at hS
        go_simp
        exact hK.out _ HS.out
      try simp only [Act.put, List.setIfInBounds_toArray, List.set_cons_zero, List.set_cons_succ]
      refine seq_op 13 (oi := ?oq13) (v := ?vq13) ?hq13 (by kernel_rfl) (by kernel_rfl) (by kernel_rfl) (fun _ _ _ h => h) ?wq13 (fun K wq hS hK => ?yq13) ?rq13
      case hq13 => simp only [List.getElem?_toArray, List.getElem?_cons_succ, List.getElem?_cons_zero]; rfl
      case wq13 => rfl
      case yq13 =>
        have kc := K3.out _ hS
        have HS2 := Lib.hid hS
        clear hS
        go_simp
        have hS2 := HS2.out
        exact hK.out _ hS2
      try simp only [Act.put, List.setIfInBounds_toArray, List.set_cons_zero, List.set_cons_succ]
      refine seq_op 14 (oi := ?oq14) (v := ?vq14) ?hq14 (by kernel_rfl) (by kernel_rfl) (by kernel_rfl) (fun _ _ _ h => h) ?wq14 (fun K wq hS hK => ?yq14) ?rq14
      case hq14 => simp only [List.getElem?_toArray, List.getElem?_cons_succ, List.getElem?_cons_zero]; rfl
      case wq14 => rfl
      case yq14 =>
        have HS := Lib.hid hS
        try dsimp only at hS
        go_simp
        exact hK.out _ HS.out
      try simp only [Act.put, List.setIfInBounds_toArray, List.set_cons_zero, List.set_cons_succ]
      refine seq_op 15 (oi := ?oq15) (v := ?vq15) ?hq15 (by kernel_rfl) (by kernel_rfl) (by kernel_rfl) (fun _ _ _ h => h) ?wq15 (fun K wq hS hK => ?yq15) ?rq15
      case hq15 => simp only [List.getElem?_toArray, List.getElem?_cons_succ, List.getElem?_cons_zero]; rfl
      case wq15 => rfl
      case yq15 =>
        have kc := K6.out _ hS
        have HS2 := Lib.hid hS
        clear hS
        go_simp
        have hS2 := HS2.out
        exact hK.out _ hS2
      try simp only [Act.put, List.setIfInBounds_toArray, List.set_cons_zero, List.set_cons_succ]
      refine seq_op 16 (oi := ?oq16) (v := ?vq16) ?hq16 (by kernel_rfl) (by kernel_rfl) (by kernel_rfl) (fun _ _ _ h => h) ?wq16 (fun K wq hS hK => ?yq16) ?rq16
      case hq16 => simp only [List.getElem?_toArray, List.getElem?_cons_succ, List.getElem?_cons_zero]; rfl
      case wq16 => rfl
      case yq16 =>
        have HS := Lib.hid hS
        try dsimp only at hS
        go_simp
        exact hK.out _ HS.out
      try simp only [Act.put, List.setIfInBounds_toArray, List.set_cons_zero, List.set_cons_succ]
      refine seq_op 17 (oi := ?oq17) (v := ?vq17) ?hq17 (by kernel_rfl) (by kernel_rfl) (by kernel_rfl) (fun _ _ _ h => h) ?wq17 (fun K wq hS hK => ?yq17) ?rq17
      case hq17 => simp only [List.getElem?_toArray, List.getElem?_cons_succ, List.getElem?_cons_zero]; rfl
      case wq17 => rfl
      case yq17 =>
        have HS := Lib.hid hS
        try dsimp only at hS
        go_simp
        exact hK.out _ HS.out
      try simp only [Act.put, List.setIfInBounds_toArray, List.set_cons_zero, List.set_cons_succ]
      refine seq_op 18 (oi := ?oq18) (v := ?vq18) ?hq18 (by kernel_rfl) (by kernel_rfl) (by kernel_rfl) (fun _ _ _ h => h) ?wq18 (fun K wq hS hK => ?yq18) ?rq18
      case hq18 => simp only [List.getElem?_toArray, List.getElem?_cons_succ, List.getElem?_cons_zero]; rfl
      case wq18 => rfl
      case yq18 =>
        have HS := Lib.hid hS
        try dsimp only at hS
        go_simp
        exact hK.out _ HS.out
      try simp only [Act.put, List.setIfInBounds_toArray, List.set_cons_zero, List.set_cons_succ]
      refine seq_op 19 (oi := ?oq19) (v := ?vq19) ?hq19 (by kernel_rfl) (by kernel_rfl) (by kernel_rfl) (fun _ _ _ h => h) ?wq19 (fun K wq hS hK => ?yq19) ?rq19
      case hq19 => simp only [List.getElem?_toArray, List.getElem?_cons_succ, List.getElem?_cons_zero]; rfl
      case wq19 => rfl
      case yq19 =>
        have HS2 := Lib.hid hS
        have z0 := hS.cell KZ.out.1 (fun h => h)
        have z1 := hS.cell KZ.out.2.1 (fun h => h)
        have z2 := hS.cell KZ.out.2.2.1 (fun h => h)
        have z3 := hS.cell KZ.out.2.2.2.1 (fun h => h)
        have z4 := hS.cell KZ.out.2.2.2.2.1 (fun h => h)
        have z5 := hS.cell KZ.out.2.2.2.2.2 (fun h => h)
        clear hS
        go_simp
        have hS2 := HS2.out
        exact hK.out _ hS2
      try simp only [Act.put, List.setIfInBounds_toArray, List.set_cons_zero, List.set_cons_succ]
      refine seq_op 20 (oi := ?oq20) (v := ?vq20) ?hq20 (by kernel_rfl) (by kernel_rfl) (by kernel_rfl) (fun _ _ _ h => h) ?wq20 (fun K wq hS hK => ?yq20) ?rq20
      case hq20 => simp only [List.getElem?_toArray, List.getElem?_cons_succ, List.getElem?_cons_zero]; rfl
      case wq20 => rfl
      case yq20 =>
        have HS2 := Lib.hid hS
        have x0 := hS.cell KX.out.1 (fun h => h)
        have x1 := hS.cell KX.out.2.1 (fun h => h)
        have x2 := hS.cell KX.out.2.2.1 (fun h => h)
        have x3 := hS.cell KX.out.2.2.2.1 (fun h => h)
        have x4 := hS.cell KX.out.2.2.2.2.1 (fun h => h)
        have x5 := hS.cell KX.out.2.2.2.2.2 (fun h => h)
        clear hS
        go_simp
        have hS2 := HS2.out
        exact hK.out _ hS2
      try simp only [Act.put, List.setIfInBounds_toArray, List.set_cons_zero, List.set_cons_succ]
      refine seq_op 21 (oi := ?oq21) (v := ?vq21) ?hq21 (by kernel_rfl) (by kernel_rfl) (by kernel_rfl) (fun _ _ _ h => h) ?wq21 (fun K wq hS hK => ?yq21) ?rq21
      case hq21 => simp only [List.getElem?_toArray, List.getElem?_cons_succ, List.getElem?_cons_zero]; rfl
      case wq21 => rfl
      case yq21 =>
        have HST := stay_any (HA.out.keep (HC10.out.trans hS)) (HLN10.out.keep hS) HNA.out.h1 HNA.out.h2 HNA.out.h3 HNA.out.ha HNA.out.hb HNA.out.hc HLL.out.1 HLL.out.2.1 HLL.out.2.2
        have HS2 := Lib.hid hS
        clear hS
        go_simp
        refine HST.mono ?_
        rintro r w7 ⟨rfl, C7⟩
        have hS2 := HS2.out.trans C7
        exact hK.out _ hS2
      try simp only [Act.put, List.setIfInBounds_toArray, List.set_cons_zero, List.set_cons_succ]
      refine seq_op 22 (oi := ?oq22) (v := ?vq22) ?hq22 (by kernel_rfl) (by kernel_rfl) (by kernel_rfl) (fun _ _ _ h => h) ?wq22 (fun K wq hS hK => ?yq22) ?rq22
      case hq22 => simp only [List.getElem?_toArray, List.getElem?_cons_succ, List.getElem?_cons_zero]; rfl
      case wq22 => rfl
      case yq22 =>
        have HS := Lib.hid hS
        try dsimp only at hS
        go_simp
        exact hK.out _ HS.out
      try simp only [Act.put, List.setIfInBounds_toArray, List.set_cons_zero, List.set_cons_succ]
      refine seq_op 23 (oi := ?oq23) (v := ?vq23) ?hq23 (by kernel_rfl) (by kernel_rfl) (by kernel_rfl) (fun _ _ _ h => h) ?wq23 (fun K wq hS hK => ?yq23) ?rq23
      case hq23 => simp only [List.getElem?_toArray, List.getElem?_cons_succ, List.getElem?_cons_zero]; rfl
      case wq23 => rfl
      case yq23 =>
        have HS := Lib.hid hS
        try dsimp only at hS
        go_simp
        exact hK.out _ HS.out
      try simp only [Act.put, List.setIfInBounds_toArray, List.set_cons_zero, List.set_cons_succ]
      refine seq_done (by kernel_rfl) (fun wz hSz => ?_) _
      refine NoPanic.normal ?_
      have HCZ := Lib.hid (HC10.out.trans hSz)
      have OW := own_chg HB10.out hSz (fun _ _ h => h)
      have x0 := hSz.cell KX.out.1 (fun h => h)
      have x1 := hSz.cell KX.out.2.1 (fun h => h)
      have x2 := hSz.cell KX.out.2.2.1 (fun h => h)
      have x3 := hSz.cell KX.out.2.2.2.1 (fun h => h)
      have x4 := hSz.cell KX.out.2.2.2.2.1 (fun h => h)
      have x5 := hSz.cell KX.out.2.2.2.2.2 (fun h => h)
      have HOW := Lib.hid OW
      clear hSz OW
      by_cases h0 : k = 0
      case neg =>
        have hkn : (k != 0) = true := bne_iff_ne.2 h0
        clear h0
        go_wp2_with fail
        go_ret
        exact ⟨rfl, HCZ.out.below (Nat.le_refl _) (fun _ _ h => h)⟩
      subst h0
      have SW := own_src HOW.out
      go_wp2_with (at_builtin; go_loud (refine wpList_append_src _ rfl (.const (.slice none 0 0)) (.tmp 91) _ rfl wz.heap.size 5 i0 _ 1 1 Try.underlying59 hi0 hz0 hz1 hz2 rfl (by omega) _ 0 [] rfl ⟨rfl, .inl ⟨rfl, rfl⟩⟩ _ m c7 _ rfl SW (u8s_one _) (by unfold maxLen; omega) (by omega) (Nat.le_refl _) ?_); go_loud (intro v8 w11 O11 hgr8); go_loud (rw [Nat.zero_add, List.nil_append] at O11); go_loud (obtain ⟨a11, c11, rfl, -, -, -, f11⟩ := own_form O11))
      have C11 : Chg wz w11 (fun _ => False) := (Chg.refl wz _).grown hgr8 (fun k hk _ => by cases hk)
      have HU := unpack_any (ao := a11) (c := c11) (xs := xs) w11 (by rw [HM.out]; exact own_lst O11) (by rw [← HXS.out]; exact pkB_byte C) (fun ad e => by obtain ⟨g, rfl, _, hg⟩ := f11 ad e; exact ⟨g, 0, rfl, hg⟩)
      rw [HM.out] at HU
      refine HU.mono ?_
      rintro e w12 ⟨C', x, bp, bc, bw, dp, dc, dw, hu, rfl, CF, C12⟩
      have hxp : xs = packC C := by rw [← HXS.out]; exact if_pos HKK.out
      rw [hxp, unV_pack HKK.out] at hu
      obtain ⟨rfl, rfl⟩ : C = C' ∧ (0 : Int) = x := by injection hu with h1 h2; exact ⟨h1, h2⟩
      unfold cfgCells
      rw [HNA.out.h1, HNA.out.h2, HNA.out.h3, HNA.out.ha, HNA.out.hb, HNA.out.hc]
      have C112 := C11.trans C12
      have x0 := C112.cell x0 (fun h => h)
      have x1 := C112.cell x1 (fun h => h)
      have x2 := C112.cell x2 (fun h => h)
      have x3 := C112.cell x3 (fun h => h)
      have x4 := C112.cell x4 (fun h => h)
      have x5 := C112.cell x5 (fun h => h)
      have CG : Chg w12 (w12.alloc (.cells #[.int .i64 pg, .int .i64 mj, .int .i64 sw, .slice bp np dp, .slice bc nc dc, .slice bw nw dw] 27)) (fun _ => False) := (Chg.refl w12 _).alloc _
      have BG := Box.new w12 27 #[.int .i64 pg, .int .i64 mj, .int .i64 sw, .slice bp np dp, .slice bc nc dc, .slice bw nw dw]
      have HSM := same_at (CF.keep CG) (HA.out.keep ((HCZ.out.trans C112).trans CG)) HNA.out.h1 HNA.out.h2 HNA.out.h3 HNA.out.ha HNA.out.hb HNA.out.hc
      have x0 := CG.cell x0 (fun h => h)
      have x1 := CG.cell x1 (fun h => h)
      have x2 := CG.cell x2 (fun h => h)
      have x3 := CG.cell x3 (fun h => h)
      have x4 := CG.cell x4 (fun h => h)
      have x5 := CG.cell x5 (fun h => h)
      have v0 := BG.cell 0
      have v1 := BG.cell 1
      have v2 := BG.cell 2
      have v3 := BG.cell 3
      have v4 := BG.cell 4
      have v5 := BG.cell 5
      have HCE := Lib.hid ((HCZ.out.trans C112).trans CG)
      clear HU O11 f11 C11 C12 C112 CF CG BG hgr8 SW hu hxp
      go_wp2_with (go_at_call 16; refine (num_any _ _).mono ?_; rintro e w' ⟨rfl, rfl⟩)
      refine HSM.mono ?_
      rintro e w13 ⟨rfl, C13⟩
      go_wp2_with fail
      go_ret
      exact ⟨rfl, (HCE.out.trans C13).below (Nat.le_refl _) (fun _ _ h => h)⟩
end Go.Proofs.Ytdhkbephofnfdaa

/- ConfigPacks: Stay. -/
import Derived.Test.YtdhkbephofnfdaaCLent
import Derived.Test.YtdhkbephofnfdaaCSame
namespace Go.Proofs.Ytdhkbephofnfdaa
open Go.RowKit

theorem same_at {C : Cfg} {ap ac aw bp bc bw : Option Addr} {cp cc cw dp dc dw : Nat} {w : World} (h : CfgAt w C ap ac aw cp cc cw) (g : CfgAt w C bp bc bw dp dc dw) {pg mj sw : Int} {np nc nw : Nat} (h1 : C.pages = pg) (h2 : C.major = mj) (h3 : C.switch = sw) (ha : C.parts.length = np) (hb : C.chans.length = nc) (hc : C.wins.length = nw) :
    Calls Try.prog 40 #[.agg #[.int .i64 pg, .int .i64 mj, .int .i64 sw, .slice ap np cp, .slice ac nc cc, .slice aw nw cw], .agg #[.int .i64 pg, .int .i64 mj, .int .i64 sw, .slice bp np dp, .slice bc nc dc, .slice bw nw dw]] w fun e w' => e = .returned (.bool true) ∧ Chg w w' (fun _ => False) := by
  subst h1 h2 h3 ha hb hc
  exact same_cfg w h g

/-- The lists that Lent made. -/
structure Lent (w : World) (C : Cfg) (np nc nw g0 d0 g1 d1 g2 d2 : Nat) : Prop where
  ps : w.ownsRow 0 30 3 (.slice (some ⟨g0, 0, none⟩) (np + 1) d0) (np + 1) (C.parts.flatMap partCells ++ [.string ⟨#[]⟩, .int .i64 (-71), .int .i64 0])
  cs : w.ownsRow 0 32 5 (.slice (some ⟨g1, 0, none⟩) (nc + 1) d1) (nc + 1) (C.chans.flatMap chanCells ++ [.int .i64 (-71), .int .i64 0, .int .i64 0, .int .i64 0, .int .i64 0])
  ws : w.ownsRow 0 34 3 (.slice (some ⟨g2, 0, none⟩) (nw + 1) d2) (nw + 1) (C.wins.flatMap winCells ++ [.int .i64 (-71), .int .i64 0, .int .i64 0])
theorem Lent.keep {w w' : World} {C : Cfg} {np nc nw g0 d0 g1 d1 g2 d2 : Nat} (h : Lent w C np nc nw g0 d0 g1 d1 g2 d2) (c : Chg w w' (fun _ => False)) : Lent w' C np nc nw g0 d0 g1 d1 g2 d2 :=
  ⟨own_chg h.ps c (fun _ _ h => h), own_chg h.cs c (fun _ _ h => h), own_chg h.ws c (fun _ _ h => h)⟩
theorem own_front {w : World} {e : TypeId} {size g n d : Nat} {xs ys : List Value} (h : w.ownsRow 0 e size (.slice (some ⟨g, 0, none⟩) (n + 1) d) (n + 1) (xs ++ ys)) (hx : xs.length = n * size) : Lst w (some ⟨g, 0, none⟩) n d xs size := by
  have := own_take h n (by omega)
  rw [show (xs ++ ys).take (n * size) = xs from by rw [← hx]; exact List.take_left] at this
  exact own_lst this
theorem own_last {w : World} {e : TypeId} {size g n d : Nat} {xs ys : List Value} (h : w.ownsRow 0 e size (.slice (some ⟨g, 0, none⟩) (n + 1) d) (n + 1) (xs ++ ys)) (hx : xs.length = n * size) (k : Nat) (v : Value) (hv : ys[k]? = some v) : w.cell? ⟨g, n * size + k, none⟩ = some v := by
  refine own_cells h _ _ ?_
  rw [List.getElem?_append_right (by omega), ← hx, Nat.add_sub_cancel_left]
  exact hv
theorem Lent.at_ {w : World} {C : Cfg} {np nc nw g0 d0 g1 d1 g2 d2 : Nat} (h : Lent w C np nc nw g0 d0 g1 d1 g2 d2) (ha : C.parts.length = np) (hb : C.chans.length = nc) (hc : C.wins.length = nw) (hn : ∀ p ∈ C.parts, p.name.size ≤ maxLen) : CfgAt w C (some ⟨g0, 0, none⟩) (some ⟨g1, 0, none⟩) (some ⟨g2, 0, none⟩) d0 d1 d2 := by
  subst ha hb hc
  exact ⟨own_front h.ps (flat_length _ 3 (fun _ => rfl) _), own_front h.cs (flat_length _ 5 (fun _ => rfl) _), own_front h.ws (flat_length _ 3 (fun _ => rfl) _), hn⟩

set_option maxRecDepth 100000 in
set_option maxHeartbeats 4000000 in
theorem stay_any {C : Cfg} {ap ac aw : Option Addr} {cp cc cw np nc nw g0 d0 g1 d1 g2 d2 : Nat} {w : World} (h : CfgAt w C ap ac aw cp cc cw) (g : Lent w C np nc nw g0 d0 g1 d1 g2 d2) {pg mj sw : Int} (h1 : C.pages = pg) (h2 : C.major = mj) (h3 : C.switch = sw) (ha : C.parts.length = np) (hb : C.chans.length = nc) (hc : C.wins.length = nw) (l1 : np ≤ 20) (l2 : nc ≤ 40) (l3 : nw ≤ 60) :
    Calls Try.prog 38 #[.agg #[.int .i64 pg, .int .i64 mj, .int .i64 sw, .slice (some ⟨g0, 0, none⟩) np d0, .slice (some ⟨g1, 0, none⟩) nc d1, .slice (some ⟨g2, 0, none⟩) nw d2], .agg #[.int .i64 pg, .int .i64 mj, .int .i64 sw, .slice ap np cp, .slice ac nc cc, .slice aw nw cw]] w fun e w' => e = .returned (.bool true) ∧ Chg w w' (fun _ => False) := by
  have hg := g.at_ ha hb hc h.names
  have y0 := own_last g.ps (by rw [← ha]; exact flat_length _ 3 (fun _ => rfl) _) 1 (.int .i64 (-71)) rfl
  have y1 := own_last g.cs (by rw [← hb]; exact flat_length _ 5 (fun _ => rfl) _) 0 (.int .i64 (-71)) rfl
  have y2 := own_last g.ws (by rw [← hc]; exact flat_length _ 3 (fun _ => rfl) _) 0 (.int .i64 (-71)) rfl
  obtain ⟨k0, m0, -, t0⟩ := own_cap g.ps
  obtain ⟨k1, m1, -, t1⟩ := own_cap g.cs
  obtain ⟨k2, m2, -, t2⟩ := own_cap g.ws
  unfold maxLen at m0 m1 m2
  simp only [Nat.add_zero] at y1 y2
  have B1 := (Box.new w 27 #[.int .i64 pg, .int .i64 mj, .int .i64 sw, .slice (some ⟨g0, 0, none⟩) np d0, .slice (some ⟨g1, 0, none⟩) nc d1, .slice (some ⟨g2, 0, none⟩) nw d2]).alloc (.cells #[.int .i64 pg, .int .i64 mj, .int .i64 sw, .slice ap np cp, .slice ac nc cc, .slice aw nw cw] 27)
  have CA : Chg w ((w.alloc (.cells #[.int .i64 pg, .int .i64 mj, .int .i64 sw, .slice (some ⟨g0, 0, none⟩) np d0, .slice (some ⟨g1, 0, none⟩) nc d1, .slice (some ⟨g2, 0, none⟩) nw d2] 27)).alloc (.cells #[.int .i64 pg, .int .i64 mj, .int .i64 sw, .slice ap np cp, .slice ac nc cc, .slice aw nw cw] 27)) (fun _ => False) := ((Chg.refl w _).alloc _).alloc _
  have HS := same_at (hg.keep CA) (h.keep CA) h1 h2 h3 ha hb hc
  have HB := Lib.hid B1
  have HCA := Lib.hid CA
  have HY := Lib.hid (And.intro y0 (And.intro y1 y2))
  clear h g hg h1 h2 h3 ha hb hc y0 y1 y2 B1 CA
  go_enter Try.func38, Try.ntmps38
  go_wp2_with fail
  refine HS.mono ?_
  rintro e w1 ⟨rfl, C1⟩
  clear HS
  have B2 := HB.out.chg C1 (fun h => h)
  have x3 := B2.cell 3
  have x4 := B2.cell 4
  have x5 := B2.cell 5
  have HC1 := Lib.hid (HCA.out.trans C1)
  have y0 := HC1.out.cell HY.out.1 (fun h => h)
  have y1 := HC1.out.cell HY.out.2.1 (fun h => h)
  have y2 := HC1.out.cell HY.out.2.2 (fun h => h)
  clear B2 C1
  go_wp2_with fail
  go_ret
  exact ⟨rfl, HC1.out⟩
end Go.Proofs.Ytdhkbephofnfdaa

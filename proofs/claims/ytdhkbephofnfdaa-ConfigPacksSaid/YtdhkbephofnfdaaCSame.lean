/- trunnionref14.Same, of two that are one. -/
import Derived.Test.YtdhkbephofnfdaaCfgAt
import Derived.Test.YtdhkbephofnfdaaOwn2
import Derived.BigQuiet
import Derived.Deep.LoopGhost
namespace Go.Proofs.Ytdhkbephofnfdaa
open Go.RowKit

set_option maxRecDepth 100000 in
set_option maxHeartbeats 4000000 in
theorem same_cfg {C : Cfg} {ap ac aw bp bc bw : Option Addr} {cp cc cw dp dc dw : Nat} (w : World) (h : CfgAt w C ap ac aw cp cc cw) (g : CfgAt w C bp bc bw dp dc dw) :
    Calls Try.prog 40 #[.agg (cfgCells C ap ac aw cp cc cw), .agg (cfgCells C bp bc bw dp dc dw)] w fun e w' => e = .returned (.bool true) ∧ Chg w w' (fun _ => False) := by
  unfold cfgCells
  have m1 := h.ps.mx
  have m2 := h.cs.mx
  have m3 := h.ws.mx
  have k1 := h.ps.le
  have k2 := h.cs.le
  have k3 := h.ws.le
  unfold maxLen at m1 m2 m3
  obtain ⟨pg, hpg⟩ : ∃ x, C.pages = x := ⟨_, rfl⟩
  obtain ⟨mj, hmj⟩ : ∃ x, C.major = x := ⟨_, rfl⟩
  obtain ⟨sw, hsw⟩ : ∃ x, C.switch = x := ⟨_, rfl⟩
  obtain ⟨np, hnp⟩ : ∃ x, C.parts.length = x := ⟨_, rfl⟩
  obtain ⟨nc, hnc⟩ : ∃ x, C.chans.length = x := ⟨_, rfl⟩
  obtain ⟨nw, hnw⟩ : ∃ x, C.wins.length = x := ⟨_, rfl⟩
  rw [hpg, hmj, hsw, hnp, hnc, hnw]
  rw [hnp] at k1
  rw [hnc] at k2
  rw [hnw] at k3
  have HNP := Lib.hid hnp
  have HNC := Lib.hid hnc
  have HNW := Lib.hid hnw
  obtain ⟨wb, hwb⟩ : ∃ wb, (w.alloc (.cells #[.int .i64 pg, .int .i64 mj, .int .i64 sw, .slice ap np cp, .slice ac nc cc, .slice aw nw cw] 27)).alloc (.cells #[.int .i64 pg, .int .i64 mj, .int .i64 sw, .slice bp np dp, .slice bc nc dc, .slice bw nw dw] 27) = wb := ⟨_, rfl⟩
  have Cb : Chg w wb (fun _ => False) := by rw [← hwb]; exact ((Chg.refl w _).alloc _).alloc _
  have BX : Box wb w.heap.size 27 #[.int .i64 pg, .int .i64 mj, .int .i64 sw, .slice ap np cp, .slice ac nc cc, .slice aw nw cw] := by rw [← hwb]; exact (Box.new w _ _).alloc _
  have BY : Box wb (w.heap.size + 1) 27 #[.int .i64 pg, .int .i64 mj, .int .i64 sw, .slice bp np dp, .slice bc nc dc, .slice bw nw dw] := by
    have := Box.new (w.alloc (.cells #[.int .i64 pg, .int .i64 mj, .int .i64 sw, .slice ap np cp, .slice ac nc cc, .slice aw nw cw] 27)) 27 #[.int .i64 pg, .int .i64 mj, .int .i64 sw, .slice bp np dp, .slice bc nc dc, .slice bw nw dw]
    rw [World.size_alloc, hwb] at this
    exact this
  have H := Lib.hid (h.keep Cb)
  have G := Lib.hid (g.keep Cb)
  clear hpg hmj hsw hnp hnc hnw h g
  have x0 := BX.cell 0
  have x1 := BX.cell 1
  have x2 := BX.cell 2
  have x3 := BX.cell 3
  have x4 := BX.cell 4
  have x5 := BX.cell 5
  have y0 := BY.cell 0
  have y1 := BY.cell 1
  have y2 := BY.cell 2
  have y3 := BY.cell 3
  have y4 := BY.cell 4
  have y5 := BY.cell 5
  go_enter Try.func40, Try.ntmps40
  go_wp2_with fail
  clear hwb x0 x1 x2 x3 x4 x5 y0 y1 y2 y3 y4 y5
  go_loopg [5] np (fun g s wr => ∃ k : Nat, g + k = np ∧ s = .int .i64 k ∧ Chg wb wr (fun _ => False))
  case atStart => exact ⟨0, rfl, rfl, Chg.refl _ _⟩
  case round =>
    obtain ⟨k, hk, rfl, Ck⟩ := hrel
    have HK := Lib.hid hk
    have Bk := BX.chg Ck (fun h => h)
    have Dk := BY.chg Ck (fun h => h)
    have x := Bk.cell 3
    have y := Dk.cell 3
    by_cases hlt : k < np
    · have hlt2 : k < C.parts.length := by rw [HNP.out]; exact hlt
      have Hk := H.out.keep Ck
      have Gk := G.out.keep Ck
      obtain ⟨g0, o0, rfl⟩ := Hk.ps.pos (by omega)
      obtain ⟨g1, o1, rfl⟩ := Gk.ps.pos (by omega)
      have c0 := Lst.cell0 (n := 3) (f := partCells) (fun _ => rfl) Hk.ps k (by decide) hlt2 rfl
      have c1 := Lst.cell (n := 3) (f := partCells) (fun _ => rfl) Hk.ps k 1 (by decide) hlt2 rfl
      have c2 := Lst.cell (n := 3) (f := partCells) (fun _ => rfl) Hk.ps k 2 (by decide) hlt2 rfl
      have d0 := Lst.cell0 (n := 3) (f := partCells) (fun _ => rfl) Gk.ps k (by decide) hlt2 rfl
      have d1 := Lst.cell (n := 3) (f := partCells) (fun _ => rfl) Gk.ps k 1 (by decide) hlt2 rfl
      have d2 := Lst.cell (n := 3) (f := partCells) (fun _ => rfl) Gk.ps k 2 (by decide) hlt2 rfl
      obtain ⟨pd, hpd⟩ : ∃ pd, C.parts[k] = pd := ⟨_, rfl⟩
      rw [hpd] at c0 d0 c1 d1 c2 d2
      have hk0 : (0 : Int) ≤ (k : Int) := by omega
      have hk1 : (k : Int) < np := by omega
      clear hpd hk Hk Gk
      go_wp2_with fail
      go_quiet (fail)
      go_wp2_with fail
      go_roundg (gk - 1)
      case measure => have := HK.out; omega
      case rel => exact ⟨k + 1, by have := HK.out; omega, by go_num, Ck.drewN _⟩
    · obtain rfl : np = k := by omega
      clear hk
      go_wp2_with fail
      go_loopg [6] nc (fun g s wr => ∃ k : Nat, g + k = nc ∧ s = .int .i64 k ∧ Chg wb wr (fun _ => False))
      case atStart => exact ⟨0, rfl, rfl, Ck⟩
      case round =>
        obtain ⟨k, hk, rfl, Ck⟩ := hrel
        have HK := Lib.hid hk
        have Bk := BX.chg Ck (fun h => h)
        have Dk := BY.chg Ck (fun h => h)
        have x := Bk.cell 4
        have y := Dk.cell 4
        by_cases hlt : k < nc
        · have hlt2 : k < C.chans.length := by rw [HNC.out]; exact hlt
          have Hk := H.out.keep Ck
          have Gk := G.out.keep Ck
          obtain ⟨g0, o0, rfl⟩ := Hk.cs.pos (by omega)
          obtain ⟨g1, o1, rfl⟩ := Gk.cs.pos (by omega)
          have c0 := Lst.cell0 (n := 5) (f := chanCells) (fun _ => rfl) Hk.cs k (by decide) hlt2 rfl
          have c1 := Lst.cell (n := 5) (f := chanCells) (fun _ => rfl) Hk.cs k 1 (by decide) hlt2 rfl
          have c2 := Lst.cell (n := 5) (f := chanCells) (fun _ => rfl) Hk.cs k 2 (by decide) hlt2 rfl
          have c3 := Lst.cell (n := 5) (f := chanCells) (fun _ => rfl) Hk.cs k 3 (by decide) hlt2 rfl
          have c4 := Lst.cell (n := 5) (f := chanCells) (fun _ => rfl) Hk.cs k 4 (by decide) hlt2 rfl
          have d0 := Lst.cell0 (n := 5) (f := chanCells) (fun _ => rfl) Gk.cs k (by decide) hlt2 rfl
          have d1 := Lst.cell (n := 5) (f := chanCells) (fun _ => rfl) Gk.cs k 1 (by decide) hlt2 rfl
          have d2 := Lst.cell (n := 5) (f := chanCells) (fun _ => rfl) Gk.cs k 2 (by decide) hlt2 rfl
          have d3 := Lst.cell (n := 5) (f := chanCells) (fun _ => rfl) Gk.cs k 3 (by decide) hlt2 rfl
          have d4 := Lst.cell (n := 5) (f := chanCells) (fun _ => rfl) Gk.cs k 4 (by decide) hlt2 rfl
          obtain ⟨pd, hpd⟩ : ∃ pd, C.chans[k] = pd := ⟨_, rfl⟩
          rw [hpd] at c0 d0 c1 d1 c2 d2 c3 d3 c4 d4
          have hk0 : (0 : Int) ≤ (k : Int) := by omega
          have hk1 : (k : Int) < nc := by omega
          clear hpd hk Hk Gk
          go_wp2_with fail
          go_quiet (fail)
          go_wp2_with fail
          go_roundg (gk - 1)
          case measure => have := HK.out; omega
          case rel => exact ⟨k + 1, by have := HK.out; omega, by go_num, Ck.drewN _⟩
        · obtain rfl : nc = k := by omega
          clear hk
          go_wp2_with fail
          go_loopg [7] nw (fun g s wr => ∃ k : Nat, g + k = nw ∧ s = .int .i64 k ∧ Chg wb wr (fun _ => False))
          case atStart => exact ⟨0, rfl, rfl, Ck⟩
          case round =>
            obtain ⟨k, hk, rfl, Ck⟩ := hrel
            have HK := Lib.hid hk
            have Bk := BX.chg Ck (fun h => h)
            have Dk := BY.chg Ck (fun h => h)
            have x := Bk.cell 5
            have y := Dk.cell 5
            by_cases hlt : k < nw
            · have hlt2 : k < C.wins.length := by rw [HNW.out]; exact hlt
              have Hk := H.out.keep Ck
              have Gk := G.out.keep Ck
              obtain ⟨g0, o0, rfl⟩ := Hk.ws.pos (by omega)
              obtain ⟨g1, o1, rfl⟩ := Gk.ws.pos (by omega)
              have c0 := Lst.cell0 (n := 3) (f := winCells) (fun _ => rfl) Hk.ws k (by decide) hlt2 rfl
              have c1 := Lst.cell (n := 3) (f := winCells) (fun _ => rfl) Hk.ws k 1 (by decide) hlt2 rfl
              have c2 := Lst.cell (n := 3) (f := winCells) (fun _ => rfl) Hk.ws k 2 (by decide) hlt2 rfl
              have d0 := Lst.cell0 (n := 3) (f := winCells) (fun _ => rfl) Gk.ws k (by decide) hlt2 rfl
              have d1 := Lst.cell (n := 3) (f := winCells) (fun _ => rfl) Gk.ws k 1 (by decide) hlt2 rfl
              have d2 := Lst.cell (n := 3) (f := winCells) (fun _ => rfl) Gk.ws k 2 (by decide) hlt2 rfl
              obtain ⟨pd, hpd⟩ : ∃ pd, C.wins[k] = pd := ⟨_, rfl⟩
              rw [hpd] at c0 d0 c1 d1 c2 d2
              have hk0 : (0 : Int) ≤ (k : Int) := by omega
              have hk1 : (k : Int) < nw := by omega
              clear hpd hk Hk Gk
              go_wp2_with fail
              go_quiet (fail)
              go_wp2_with fail
              go_roundg (gk - 1)
              case measure => have := HK.out; omega
              case rel => exact ⟨k + 1, by have := HK.out; omega, by go_num, Ck.drewN _⟩
            · obtain rfl : nw = k := by omega
              clear hk
              go_wp2_with fail
              go_ret
              exact ⟨rfl, Cb.trans Ck⟩
end Go.Proofs.Ytdhkbephofnfdaa

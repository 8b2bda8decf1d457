/- ports: the reference's NewNet (printed by gen_por2.py). -/
import Derived.Test.YtiedfglkjkaefaaPoR1
namespace Go.Proofs.Ytiedfglkjkaefaa
open Go.RowKit

theorem info_row : (Try.prog.info? 40).map (fun i => (i.zero, i.size, i.bytes)) = some (some (.slice none 0 0), 1, 24) := by kernel_rfl
theorem made_vs (n : Nat) : madeCells #[Value.slice none 0 0] n = ((List.range n).map (fun _ => Value.slice none 0 0)).toArray := by
  apply Array.ext
  · simp [size_madeCells]
  · intro i h1 h2
    simp [madeCells, Nat.mod_one]

/-- What NewNet leaves. -/
def RNew (w w' : World) (base : Nat) (l : List ChanD) (e : Ending) : Prop :=
  ∃ D : RD, D.l = l ∧ D.base = base ∧ e = .returned (.pointer (some ⟨D.n, 0, none⟩)) ∧ RAt w' (fun k => w.heap.size ≤ k ∧ k < w'.heap.size) D (fun _ => []) (fun _ => .slice none 0 0) ∧ Chg w w' (fun _ => False)

set_option maxRecDepth 100000 in
set_option maxHeartbeats 2000000 in
theorem rnew_net {C : Cfg} {ap ac aw : Option Addr} {cp cc cw : Nat} {w : World} (h : CfgAt w C ap ac aw cp cc cw) {pg mj sw : Int} {np nc nw base : Nat} (hv : chk C = 0) (hb : C.chans.length = nc) (ho : ∀ ad, ac = some ad → 0 < nc → ad.block < base) (hbase : base ≤ w.heap.size) :
    Calls Try.prog 22 #[.agg #[.int .i64 pg, .int .i64 mj, .int .i64 sw, .slice ap np cp, .slice ac nc cc, .slice aw nw cw]] w fun e w' => RNew w w' base C.chans e := by
  obtain ⟨hl16, hok⟩ := chok_of (chk_chans hv)
  have HOK := Lib.hid hok
  rw [hb] at hl16
  have HLS : Hid (Lst w ac nc cc (C.chans.flatMap chanCells) 5) := by show Lst _ _ _ _ _ _; rw [← hb]; exact h.cs
  have HNC := Lib.hid hb
  have HO := Lib.hid ho
  have HBS := Lib.hid hbase
  have C0 : Chg w (w.alloc (.cells #[.int .i64 pg, .int .i64 mj, .int .i64 sw, .slice ap np cp, .slice ac nc cc, .slice aw nw cw] 32)) (fun _ => False) := (Chg.refl w _).alloc _
  have B0 := Box.new w 32 #[.int .i64 pg, .int .i64 mj, .int .i64 sw, .slice ap np cp, .slice ac nc cc, .slice aw nw cw]
  have HC0 := Lib.hid C0
  have x0 := B0.cell 0
  have x1 := B0.cell 1
  have x2 := B0.cell 2
  have x3 := B0.cell 3
  have x4 := B0.cell 4
  have x5 := B0.cell 5
  have mk := fun wx => run_make_row' (P := Try.prog) 100 40 (.slice none 0 0) 24 Try.underlying100 info_row rfl .i64 .i64 nc (by omega) (by omega) wx
  have hsz : w.heap.size < (w.alloc (.cells #[.int .i64 pg, .int .i64 mj, .int .i64 sw, .slice ap np cp, .slice ac nc cc, .slice aw nw cw] 32)).heap.size := B0.lt
  clear h hv hb ho hbase hok B0
  go_enter Try.func22, Try.ntmps22
  go_wp2_with fail
  generalize w.alloc (.cells #[.int .i64 pg, .int .i64 mj, .int .i64 sw, .slice ap np cp, .slice ac nc cc, .slice aw nw cw] 32) = w1 at *
  clear C0
  refine wp_region_noPanic ?_
  refine wp_region_L 5 (fun w' => w'.cell? ⟨w.heap.size, 0, none⟩ = some (.int .i64 pg) ∧ w'.cell? ⟨w.heap.size, 1, none⟩ = some (.int .i64 mj) ∧ w'.cell? ⟨w.heap.size, 2, none⟩ = some (.int .i64 sw) ∧ w'.cell? ⟨w.heap.size, 3, none⟩ = some (.slice ap np cp) ∧ w'.cell? ⟨w.heap.size, 4, none⟩ = some (.slice ac nc cc) ∧ w'.cell? ⟨w.heap.size, 5, none⟩ = some (.slice aw nw cw)) (by kernel_rfl) (⟨x0, x1, x2, x3, x4, x5⟩) (fun hHeld => ?_)
  refine wpAnyL_take (i := 0) (oi := ?oia0) (v := ?va0) ?hia0 (by kernel_rfl) (by kernel_rfl) (by kernel_rfl) (by kernel_rfl) (fun _ _ _ h => h) (Or.inl ⟨?hwa0, ?hya0⟩) (by assumption) ?hra0
  case hia0 => simp only [List.getElem?_toArray, List.getElem?_cons_succ, List.getElem?_cons_zero]; rfl
  case hwa0 => rfl
  case hya0 => intro wq hSq; (try dsimp only at hSq); go_simp; (try with_reducible rfl)
  try simp only [Act.put, List.setIfInBounds_toArray, List.set_cons_zero, List.set_cons_succ]
  refine wpAnyL_take (i := 1) (oi := ?oia1) (v := ?va1) ?hia1 (by kernel_rfl) (by kernel_rfl) (by kernel_rfl) (by kernel_rfl) (fun _ _ _ h => h) (Or.inl ⟨?hwa1, ?hya1⟩) (by assumption) ?hra1
  case hia1 => simp only [List.getElem?_toArray, List.getElem?_cons_succ, List.getElem?_cons_zero]; rfl
  case hwa1 => rfl
  case hya1 => intro wq hSq; (try dsimp only at hSq); go_simp; (try with_reducible rfl)
  try simp only [Act.put, List.setIfInBounds_toArray, List.set_cons_zero, List.set_cons_succ]
  refine wpAnyL_take (i := 2) (oi := ?oia2) (v := ?va2) ?hia2 (by kernel_rfl) (by kernel_rfl) (by kernel_rfl) (by kernel_rfl) (fun _ _ _ h => h) (Or.inl ⟨?hwa2, ?hya2⟩) (by assumption) ?hra2
  case hia2 => simp only [List.getElem?_toArray, List.getElem?_cons_succ, List.getElem?_cons_zero]; rfl
  case hwa2 => rfl
  case hya2 => intro wq hSq; (try dsimp only at hSq); go_simp; (try with_reducible rfl)
  try simp only [Act.put, List.setIfInBounds_toArray, List.set_cons_zero, List.set_cons_succ]
  refine wpAnyL_take (i := 3) (oi := ?oia3) (v := ?va3) ?hia3 (by kernel_rfl) (by kernel_rfl) (by kernel_rfl) (by kernel_rfl) (fun _ _ _ h => h) (Or.inl ⟨?hwa3, ?hya3⟩) (by assumption) ?hra3
  case hia3 => simp only [List.getElem?_toArray, List.getElem?_cons_succ, List.getElem?_cons_zero]; rfl
  case hwa3 => rfl
  case hya3 => intro wq hSq; (try dsimp only at hSq); go_simp; (try with_reducible rfl)
  try simp only [Act.put, List.setIfInBounds_toArray, List.set_cons_zero, List.set_cons_succ]
  refine wpAnyL_ready (rs := [4]) (by kernel_rfl) (by simp) ?_
  refine AllReadyL.cons rfl (fun K hK => ?_) AllReadyL.nil
  go_simp
  have mk1 := mk w1.drew
  have CM : Chg w1 (w1.alloc (.cells (madeCells #[.slice none 0 0] nc) 40)).drew (fun _ => False) := ((Chg.refl w1 _).alloc _).drew
  refine hK.out _ _ (.inl (⟨CM.cell x0 (fun h => h), CM.cell x1 (fun h => h), CM.cell x2 (fun h => h), CM.cell x3 (fun h => h), CM.cell x4 (fun h => h), CM.cell x5 (fun h => h)⟩)) (fun hHeld => ?_)
  replace hHeld := SOr.stands hHeld (by kernel_rfl)
  clear hK K
  try simp only [Act.put, List.setIfInBounds_toArray, List.set_cons_zero, List.set_cons_succ]
  refine wpAnyL_tail (l := [6, 7]) (by kernel_rfl) (by kernel_rfl) ?_
  simp only [tailOps, List.filterMap_cons, List.filterMap_nil, List.getElem?_toArray, List.getElem?_cons_succ, List.getElem?_cons_zero]
  clear hHeld mk
  have BM := (Box.new w1 40 (madeCells #[.slice none 0 0] nc)).drew
  rw [made_vs] at BM
  have HBM := Lib.hid BM
  have HCM := Lib.hid (HC0.out.trans CM)
  have hsm := CM.size
  clear BM
  go_wp2_with fail
  refine NoPanic.normal ?_
  go_wp2_with fail
  go_ret
  have hN := HNC.out
  subst hN
  have W3 : Chg w1 ((w1.alloc (.cells (madeCells #[.slice none 0 0] C.chans.length) 40)).alloc (.cells #[.int .i64 pg, .int .i64 mj, .int .i64 sw, .slice ap np cp, .slice ac C.chans.length cc, .slice aw nw cw, .slice (some ⟨w1.heap.size, 0, none⟩) C.chans.length C.chans.length] 102)).drew (fun _ => False) := (((Chg.refl w1 _).alloc _).alloc _).drew
  have BN := (Box.new (w1.alloc (.cells (madeCells #[.slice none 0 0] C.chans.length) 40)) 102 #[.int .i64 pg, .int .i64 mj, .int .i64 sw, .slice ap np cp, .slice ac C.chans.length cc, .slice aw nw cw, .slice (some ⟨w1.heap.size, 0, none⟩) C.chans.length C.chans.length]).drew
  rw [show (w1.alloc (.cells (madeCells #[.slice none 0 0] C.chans.length) 40)).heap.size = w1.heap.size + 1 from by simp] at BN
  have BM : Box ((w1.alloc (.cells (madeCells #[.slice none 0 0] C.chans.length) 40)).alloc (.cells #[.int .i64 pg, .int .i64 mj, .int .i64 sw, .slice ap np cp, .slice ac C.chans.length cc, .slice aw nw cw, .slice (some ⟨w1.heap.size, 0, none⟩) C.chans.length C.chans.length] 102)).drew w1.heap.size 40 (madeCells #[.slice none 0 0] C.chans.length) := ((Box.new w1 _ _).alloc _).drew
  have HBM2 : ∀ W : World, Box W w1.heap.size 40 (madeCells #[.slice none 0 0] C.chans.length) → Box W w1.heap.size 40 ((List.range C.chans.length).map (fun _ => Value.slice none 0 0)).toArray := fun W h => by rw [made_vs] at h; exact h
  replace BM := HBM2 _ BM
  have HCW := HC0.out.trans W3
  have hs0 := HC0.out.size
  have hb := HBS.out
  refine ⟨⟨w1.heap.size + 1, C.chans, .int .i64 pg, .int .i64 mj, .int .i64 sw, .slice ap np cp, ac, cc, .slice aw nw cw, w1.heap.size, base⟩, rfl, rfl, rfl, ⟨BN, HLS.out.chg HCW (fun _ _ h => h), HO.out, BM, by omega, ⟨by dsimp only; omega, BN.lt⟩, ⟨by dsimp only; omega, BM.lt⟩, fun k hk => ⟨hk.2, by dsimp only; omega⟩, fun i hi => ?_⟩, HCW⟩
  have hx := HOK.out _ (List.getElem_mem hi)
  exact ⟨hx, QuOk.nil hx, ⟨[], .inl ⟨rfl, rfl⟩, trivial⟩, fun g hg => by cases hg⟩
end Go.Proofs.Ytiedfglkjkaefaa

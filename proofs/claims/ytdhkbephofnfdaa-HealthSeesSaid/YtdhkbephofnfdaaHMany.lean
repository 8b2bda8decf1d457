/- HealthMany: the walk. -/
import Derived.Test.YtdhkbephofnfdaaHAlive
namespace Go.Proofs.Ytdhkbephofnfdaa
open Go.RowKit

def manyE : Nat → List EvH
  | 0 => []
  | i + 1 => pushE (manyE i) ⟨i, 0, 2⟩
theorem manyE_is (n : Nat) : manyE n = (List.range' (n - 1000) (min n 1000)).map (fun (k : Nat) => (⟨(k : Int), 0, 2⟩ : EvH)) := by
  induction n with
  | zero => rfl
  | succ n ih =>
    unfold manyE
    rw [ih]
    unfold pushE
    by_cases h : n < 1000
    · rw [if_neg (by simp; omega), show n + 1 - 1000 = 0 by omega, show n - 1000 = 0 by omega, show min (n + 1) 1000 = n + 1 by omega, show min n 1000 = n by omega, List.range'_1_concat, List.map_append]
      simp
    · rw [if_pos (by simp; omega), show n + 1 - 1000 = (n - 1000) + 1 by omega, show min (n + 1) 1000 = 1000 by omega, show min n 1000 = 1000 by omega]
      have h1 : (List.range' (n - 1000) 1000).map (fun (k : Nat) => (⟨(k : Int), 0, 2⟩ : EvH)) ++ [⟨(n : Int), 0, 2⟩] = (List.range' (n - 1000) 1001).map (fun (k : Nat) => (⟨(k : Int), 0, 2⟩ : EvH)) := by
        have hc := List.range'_1_concat (s := n - 1000) (n := 1000)
        rw [show n - 1000 + 1000 = n by omega] at hc
        rw [show (1001 : Nat) = 1000 + 1 from rfl, hc, List.map_append]
        rfl
      rw [h1, show 1001 = 1000 + 1 from rfl, List.range'_succ, List.map_cons, List.drop_one, List.tail_cons]
theorem manyE_len (n : Nat) : (manyE n).length = min n 1000 := by rw [manyE_is]; simp
theorem manyE_get (n i : Nat) (h : i < min n 1000) : (manyE n)[i]? = some ⟨((n - 1000 + i : Nat) : Int), 0, 2⟩ := by
  rw [manyE_is, List.getElem?_map, List.getElem?_range' h]
  simp

theorem MonAt.lt {w : World} {B : Nat → Prop} {g : Nat} {S : HS} (h : MonAt w B g S) : MonAt w (fun k => B k ∧ k < w.heap.size) g S := by
  obtain ⟨ap, ar, cp, cr, first, ring, h⟩ := h
  exact ⟨ap, ar, cp, cr, first, ring, h.box, h.parts, h.events, h.rg, ⟨h.bg, h.box.lt⟩, fun b e => ⟨h.bp b e, (h.parts.lt b e).2⟩, fun b e => ⟨h.be b e, (h.events.lt b e).2⟩⟩

set_option maxRecDepth 100000 in
set_option maxHeartbeats 1600000 in
theorem many_out (n : Int) (w : World) (h : n < 0 ∨ 2500 < n) : Calls Try.prog 10 #[.int .i64 n] w fun r w' => r = .returned (.bool true) ∧ Below w.heap.size w w' := by
  by_cases h1 : n < 0
  · have d1 : decide (n < 0) = true := decide_eq_true h1
    clear h h1
    go_enter Try.func10, Try.ntmps10
    go_wp2_with fail
    refine (alive21 _).mono ?_
    rintro r w1 ⟨rfl, C1⟩
    go_wp2_with fail
    go_ret
    exact ⟨rfl, C1.below (Nat.le_refl _) (fun _ _ h => h)⟩
  · have d1 : decide (n < 0) = false := decide_eq_false h1
    have d2 : decide (2500 < n) = true := decide_eq_true (by omega)
    clear h h1
    go_enter Try.func10, Try.ntmps10
    go_wp2_with fail
    refine (alive21 _).mono ?_
    rintro r w1 ⟨rfl, C1⟩
    go_wp2_with fail
    go_ret
    exact ⟨rfl, C1.below (Nat.le_refl _) (fun _ _ h => h)⟩

set_option maxRecDepth 100000 in
set_option maxHeartbeats 3200000 in
theorem many_in (n : Nat) (w : World) (h : n ≤ 2500) : Calls Try.prog 10 #[.int .i64 n] w fun r w' => r = .returned (.bool true) ∧ Below w.heap.size w w' := by
  have HN := Lib.hid c1A_new
  have d1 : decide ((n : Int) < 0) = false := decide_eq_false (by omega)
  have d2 : decide ((2500 : Int) < (n : Int)) = false := decide_eq_false (by omega)
  go_enter Try.func10, Try.ntmps10
  go_wp2_with fail
  refine (alive21 _).mono ?_
  rintro r w0 ⟨rfl, C0⟩
  go_wp2_with fail
  refine (one_any _).mono ?_
  rintro e w1 ⟨p, q, rfl, H1⟩
  have hp := H1.hp
  have hq := H1.hq
  have hpl := H1.pb.lt
  have hs0 := C0.size
  have y2 := H1.pb.cell 2
  have f2 := H1.pb.frozen 2
  have hph : p ≠ w1.heap.size := by omega
  have CA := H1.act
  have CP : Chg w (w1.setCell ⟨p, 2, none⟩ (.int .i64 1)) (fun _ => False) := (C0.trans H1.chg).setCell (p := ⟨p, 2, none⟩) (fun h => by have : p < w.heap.size := h; omega) _
  have hsz := H1.chg.size
  have HCA := Lib.hid CA
  have HCP := Lib.hid CP
  clear CA CP H1
  go_wp2_with fail
  have CQ : Chg w ((w1.setCell ⟨p, 2, none⟩ (.int .i64 1)).alloc (.cells #[.int .i64 5, .int .i64 10, .int .i64 0, .slice (some ⟨p, 0, none⟩) 1 1, .slice none 0 0, .slice (some ⟨q, 0, none⟩) 1 1] 27)) (fun _ => False) := HCP.out.alloc _
  have CA := HCA.out.keep ((Chg.refl _ (fun _ => False)).alloc (.cells #[.int .i64 5, .int .i64 10, .int .i64 0, .slice (some ⟨p, 0, none⟩) 1 1, .slice none 0 0, .slice (some ⟨q, 0, none⟩) 1 1] 27))
  refine (hnew_at CA HN.out rfl rfl rfl rfl rfl rfl).mono ?_
  rintro r w2 ⟨g, rfl, M2, C2⟩
  have C12 := CQ.trans C2
  have hs2 : w.heap.size ≤ ((w1.setCell ⟨p, 2, none⟩ (.int .i64 1)).alloc (.cells #[.int .i64 5, .int .i64 10, .int .i64 0, .slice (some ⟨p, 0, none⟩) 1 1, .slice none 0 0, .slice (some ⟨q, 0, none⟩) 1 1] 27)).heap.size := CQ.size
  have M2 := M2.mono (B' := fun k => w.heap.size ≤ k) (fun k hk => Nat.le_trans hs2 hk)
  clear CA CQ HN HCA HCP y2 f2 hph hpl hp hq hsz hs2
  go_wp2_with fail
  go_loopw [6] (fun i wx => ∃ j : Nat, j ≤ n ∧ i = .int .i64 j ∧ MonAt wx (fun k => w.heap.size ≤ k) g ⟨[⟨1, false, (j : Int)⟩], manyE j⟩ ∧ Chg w wx (fun _ => False)) (fun i _ => n - (intOf i).toNat)
  case atStart => exact ⟨0, by omega, rfl, M2, C12⟩
  case round =>
    obtain ⟨j, hj, rfl, Mj, Cj⟩ := hrel
    by_cases hlt : j < n
    · have j1 : (j : Int) < (n : Int) := by omega
      have OJ : HOk (⟨[⟨1, false, (j : Int)⟩], manyE j⟩ : HS) j := ⟨by simp, by simp, by simp, by rw [manyE_len]; omega⟩
      have T1 := see_any wr _ g _ (j : Int) 0 false true j Mj OJ (by omega)
      rw [see1 ⟨[⟨1, false, (j : Int)⟩], manyE j⟩ (j : Int) false (j : Int) (manyE j) rfl] at T1
      have HT1 := Lib.hid T1
      clear T1 Mj OJ
      unfold stV at HT1
      go_wp2_with fail
      refine HT1.out.mono ?_
      rintro r w3 ⟨rfl, M3, C3⟩
      have M3 := M3.mono (B' := fun k => w.heap.size ≤ k) (fun k hk => by rcases hk with h | h; exact h; exact Nat.le_trans Cj.size h)
      have C4 : Chg w w3 (fun _ => False) := Cj.trans' C3 (fun k hk h => by have h' : w.heap.size ≤ k := h; omega)
      go_wp2_with fail
      go_roundw
      case rel => exact ⟨j + 1, by omega, by go_num, M3, C4⟩
      case measure => simp [intOf]; omega
    · have hjn : j = n := by omega
      subst hjn
      have ML := Mj.lt
      have HM := Lib.hid Mj
      have HL := Lib.hid (manyE_len j)
      have HG := Lib.hid (manyE_get j)
      clear Mj
      go_wp2_with fail
      refine (list_any _ g _ wr (fun k hk => hk.2) ML).mono ?_
      rintro r w5 ⟨v, rfl, O5, C5⟩
      have M5 := HM.out.keep C5
      have C6 := Cj.trans C5
      have CN := count_any w5 _ g _ 0 M5
      have hcn : cntS ⟨[⟨1, false, (j : Int)⟩], manyE j⟩ 0 = (j : Int) := rfl
      rw [hcn] at CN
      have HCN := Lib.hid CN
      clear CN hcn
      change w5.ownsRow wr.heap.size 68 3 v (manyE j).length ((manyE j).flatMap evCells) at O5
      rw [HL.out] at O5
      by_cases hgt : 1000 < j
      · have e1 : min j 1000 = 1000 := by omega
        rw [e1] at O5
        obtain ⟨b5, c5, rfl, _, _, hc5, _⟩ := own_block O5 (by omega)
        have hl1 : (manyE j).length = 1000 := by rw [HL.out, e1]
        have z0 := own_cell3 ev_len O5 0 0 (by decide) (by omega) (v := .int .i64 ((j : Int) - 1000)) (by
          have := HG.out 0 (by omega)
          rw [List.getElem?_eq_getElem (by omega)] at this
          injection this with this
          rw [this]
          simp [evCells]; omega)
        have z1 := own_cell3 ev_len O5 999 0 (by decide) (by omega) (v := .int .i64 ((j : Int) - 1)) (by
          have := HG.out 999 (by omega)
          rw [List.getElem?_eq_getElem (by omega)] at this
          injection this with this
          rw [this]
          simp [evCells]; omega)
        have d3 : decide ((1000 : Int) < (j : Int)) = true := decide_eq_true (by omega)
        have k1 : IntKind.i64.wrap ((j : Int) - 1000) = (j : Int) - 1000 := IntWalk.i64_in _ (by omega)
        have k2 : IntKind.i64.wrap ((j : Int) - 1) = (j : Int) - 1 := IntWalk.i64_in _ (by omega)
        clear hl1 O5 e1 M5 ML
        go_wp2_with fail
        refine HCN.out.mono ?_
        rintro r w6 ⟨rfl, rfl⟩
        go_wp2_with fail
        go_ret
        exact ⟨by simp, C6.below (Nat.le_refl _) (fun _ _ h => h)⟩
      · have e1 : min j 1000 = j := by omega
        rw [e1] at O5
        obtain ⟨a5, c5, rfl, _⟩ := own_form O5
        have d3 : decide ((1000 : Int) < (j : Int)) = false := decide_eq_false (by omega)
        clear O5 e1 M5 ML
        go_wp2_with fail
        refine HCN.out.mono ?_
        rintro r w6 ⟨rfl, rfl⟩
        go_wp2_with fail
        go_ret
        exact ⟨by simp, C6.below (Nat.le_refl _) (fun _ _ h => h)⟩
theorem many_thm (n : Int) (w : World) : Calls Try.prog 10 #[.int .i64 n] w fun r w' => r = .returned (.bool true) ∧ Below w.heap.size w w' := by
  by_cases h : n < 0 ∨ 2500 < n
  · exact many_out n w h
  · obtain ⟨m, rfl⟩ : ∃ m : Nat, n = m := ⟨n.toNat, by omega⟩
    exact many_in m w (by omega)
end Go.Proofs.Ytdhkbephofnfdaa

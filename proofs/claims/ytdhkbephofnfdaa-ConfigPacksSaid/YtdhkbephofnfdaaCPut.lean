/- config.Pack$1, trunnionref14.func1.put: numbers behind a row of bytes. -/
import Derived.Test.YtdhkbephofnfdaaCPk
import Derived.Test.YtdhkbephofnfdaaLast
import Derived.Deep.LoopGhost
namespace Go.Proofs.Ytdhkbephofnfdaa
open Go.RowKit

/-- The row of bytes lies in a cell of its own. -/
structure PutAt (w : World) (base B : Nat) (v : Value) (xs : List Int) : Prop where
  box : Box w B 59 #[v]
  bb : BB w base v xs

theorem nums_take_succ (ns : List Int) (k : Nat) (h : k < ns.length) : nums (ns.take (k + 1)) = nums (ns.take k) ++ fourB ns[k] := by
  rw [List.take_succ_eq_append_getElem h, nums_snoc]

/-- What put makes of it. -/
structure PutTo (w w' : World) (base B : Nat) (v : Value) (xs : List Int) : Prop where
  st : ∃ v', Box w' B 59 #[v'] ∧ w'.ownsRow base 5 1 v' xs.length (u8s xs) ∧ ∀ k, v'.ownBlock = some k → v.ownBlock = some k ∨ w.heap.size ≤ k
  chg : Chg w w' (fun k => k = B ∨ v.ownBlock = some k)

set_option maxRecDepth 100000 in
set_option maxHeartbeats 4000000 in
theorem put1_any (ns : List Int) {ai : Option Addr} {ci base B : Nat} {v : Value} {xs : List Int} (w : World) (H : PutAt w base B v xs) (hl : Lst w ai ns.length ci (ns.flatMap icell) 1)
    (hai : ∀ ad, ai = some ad → ad.block ≠ B ∧ ad.block < w.heap.size ∧ v.ownBlock ≠ some ad.block) (hbase : base ≤ w.heap.size) (hx : xs.length ≤ 2000000) (hn : ns.length ≤ 8) (hn0 : 0 < ns.length) :
    Calls Try.prog 51 #[.slice ai ns.length ci, .pointer (some ⟨B, 0, none⟩)] w fun e w' => e = .returned (.tuple #[]) ∧ PutTo w w' base B v (xs ++ nums ns) := by
  obtain ⟨i0, hi0, hz0, hz1, hz2⟩ := info_parts info_u8i
  have hm2 := hl.le
  have HBlt := H.box.lt
  go_enter Try.func51, Try.ntmps51
  go_wp2_with fail
  go_loopg [7] ns.length (fun g s7 wr => ∃ k : Nat, ∃ v', g + k = ns.length ∧ s7 = .int .i64 k ∧ PutAt wr base B v' (xs ++ nums (ns.take k)) ∧ (0 < k → wr.ownsRow base 5 1 v' (xs ++ nums (ns.take k)).length (u8s (xs ++ nums (ns.take k)))) ∧ (∀ j, v'.ownBlock = some j → v.ownBlock = some j ∨ w.heap.size ≤ j) ∧ Chg w wr (fun k => k = B ∨ v.ownBlock = some k))
  case atStart => exact ⟨0, v, rfl, rfl, (by rw [List.take_zero]; show PutAt _ _ _ _ (xs ++ []); rw [List.append_nil]; exact H), fun h => absurd h (Nat.lt_irrefl _), fun j h => .inl h, Chg.refl _ _⟩
  case round =>
    obtain ⟨k, v', hk, rfl, Hk, hown, hob, Ck⟩ := hrel
    have HK := Lib.hid hk
    have HOB := Lib.hid hob
    have lk := hl.chg Ck (fun ad e h => by
      obtain ⟨h1, h2, h3⟩ := hai ad e
      rcases h with h | h
      · exact h1 h
      · exact h3 h)
    by_cases hlt : k < ns.length
    · obtain ⟨g0, o0, rfl⟩ := lk.pos (by omega)
      have c0 := Lst.cell0 (n := 1) (l := ns) (f := icell) (fun _ => rfl) lk k (by decide) hlt rfl
      rw [Nat.mul_one] at c0
      have HNS := Lib.hid (nums_take_succ ns k hlt)
      obtain ⟨x, hxk⟩ : ∃ x, ns[k] = x := ⟨_, rfl⟩
      rw [hxk] at c0 HNS
      have hk0 : (0 : Int) ≤ (k : Int) := by omega
      have hk1 : (k : Int) < ns.length := by omega
      obtain ⟨ys, hys⟩ : ∃ ys, xs ++ nums (ns.take k) = ys := ⟨_, rfl⟩
      have hyl : ys.length ≤ 2000032 := by rw [← hys, List.length_append, nums_len, List.length_take]; omega
      have HYS := Lib.hid hys
      rw [hys] at Hk
      have b0 : wr.cell? ⟨B, 0, none⟩ = some v' := Hk.box.cell 0
      have HHk := Lib.hid Hk
      have hwr := Ck.size
      clear hk hys Hk hob hxk lk hown
      go_wp2_with fail
      refine wp_region_noPanic ?_
      refine wp_region_L 4 (fun w' => w'.cell? ⟨B, 0, none⟩ = some v') (by kernel_rfl) (b0) (fun hHeld => ?_)
      refine wpAnyL_take (i := 0) (oi := ?oia0) (v := ?va0) ?hia0 (by kernel_rfl) (by kernel_rfl) (by kernel_rfl) (by kernel_rfl) (fun _ _ _ h => h) (Or.inl ⟨?hwa0, ?hya0⟩) (by assumption) ?hra0
      case hia0 => simp only [List.getElem?_toArray, List.getElem?_cons_succ, List.getElem?_cons_zero]; rfl
      case hwa0 => rfl
      case hya0 => intro wq hSq; (try dsimp only at hSq); go_simp; (try with_reducible rfl)
      try simp only [Act.put, List.setIfInBounds_toArray, List.set_cons_zero, List.set_cons_succ]
      refine wpAnyL_take (i := 1) (oi := ?oia1) (v := ?va1) ?hia1 (by kernel_rfl) (by kernel_rfl) (by kernel_rfl) (by kernel_rfl) (fun _ _ _ h => h) (Or.inl ⟨?hwa1, ?hya1⟩) (by assumption) ?hra1
      case hia1 => simp only [List.getElem?_toArray, List.getElem?_cons_succ, List.getElem?_cons_zero]; rfl
      case hwa1 => rfl
      case hya1 => intro wq hSq; (try dsimp only at hSq); go_simp; (try with_reducible rfl)
      try simp only [Act.put, List.setIfInBounds_toArray, List.set_cons_zero, List.set_cons_succ]
      refine wpAnyL_ready (rs := [2]) (by kernel_rfl) (by simp) ?_
      refine AllReadyL.cons rfl (fun K hK => ?_) AllReadyL.nil
      go_simp
      refine (four_any x _).mono ?_
      rintro e w4 ⟨a4, c4, rfl, O4, C4⟩
      obtain ⟨ad4, rfl⟩ : ∃ ad, a4 = some ad := by
        cases a4 with
        | none => have := (own_src O4).nil rfl; omega
        | some ad => exact ⟨ad, rfl⟩
      have C4b : Chg wr w4 (fun _ => False) := (Chg.refl wr _).drew.trans C4
      refine hK.out _ _ (.inl (C4b.cell b0 (fun h => h))) (fun hHeld => ?_)
      replace hHeld := SOr.stands hHeld (by kernel_rfl)
      clear hK K
      try simp only [Act.put, List.setIfInBounds_toArray, List.set_cons_zero, List.set_cons_succ]
      refine wpAnyL_ready (rs := [3]) (by kernel_rfl) (by simp) ?_
      refine AllReadyL.cons rfl (fun K hK => ?_) AllReadyL.nil
      have BB4 := HHk.out.bb.chg C4b (fun _ _ h => h)
      have BX4 := HHk.out.box.chg C4b (fun h => h)
      have hs4 := C4b.size
      refine op_append_bb (.tmp 11) (.tmp 13) _ rfl base i0 _ Try.underlying59 hi0 hz0 hz1 hz2 rfl v' ys rfl BB4 ad4 4 c4 (fourB x) rfl (own_src O4) (by omega) (by unfold maxLen; omega) (by omega) (by omega) ?_
      intro v5 w5 O5 hgr5 hat5
      have C5 : Chg w4 w5 (fun k => v'.ownBlock = some k) := (Chg.refl w4 _).grown hgr5 (fun k hk _ => hk)
      obtain ⟨a5, c5, rfl, -⟩ := own_form O5
      have hne5 := BB4.ne BX4 (by decide)
      have BX5 := BX4.chg C5 (fun h => hne5 B h rfl)
      change K (Act.put _ (some 14) _) _
      simp only [Act.put, List.setIfInBounds_toArray, List.set_cons_zero, List.set_cons_succ]
      refine hK.out _ _ (.inl (BX5.cell 0)) (fun hHeld => ?_)
      replace hHeld := SOr.stands hHeld (by kernel_rfl)
      clear hK K
      try simp only [Act.put, List.setIfInBounds_toArray, List.set_cons_zero, List.set_cons_succ]
      have z5 := BX5.cell 0
      have z6 := BX5.frozen 0
      refine wpAnyL_ready (rs := [4]) (by kernel_rfl) (by simp) ?_
      refine AllReadyL.cons rfl (fun K hK => ?_) AllReadyL.nil
      go_simp
      refine hK.out _ _ (.inr (by kernel_rfl)) (fun _ => ?_)
      clear hK K
      try simp only [Act.put, List.setIfInBounds_toArray, List.set_cons_zero, List.set_cons_succ]
      refine wpAnyL_done (by kernel_rfl) ?_ _
      refine NoPanic.normal ?_
      go_wp2_with fail
      have C6 : Chg w5 (w5.setCell ⟨B, 0, none⟩ (.slice a5 (ys.length + 4) c5)) (fun k => k = B) := (Chg.refl w5 (fun k => k = B)).setCell (p := ⟨B, 0, none⟩) (fun _ => rfl) _
      have hl5 : ys.length + 4 = (ys ++ fourB x).length := by rw [List.length_append, fourB_len]
      go_roundg (gk - 1)
      case measure => have := HK.out; omega
      case rel =>
        refine ⟨k + 1, .slice a5 (ys.length + 4) c5, by have := HK.out; omega, by go_num, ?_, ?_, ?_, ?_⟩
        · rw [HNS.out, ← List.append_assoc, HYS.out]
          rw [hl5] at O5 C6
          rw [hl5]
          exact ⟨BX5.set 0 _, .own (own_chg O5 C6 (fun j hj => own_ne O5 BX5 (by decide) j hj))⟩
        · intro _
          rw [HNS.out, ← List.append_assoc, HYS.out]
          rw [hl5] at O5 C6
          rw [hl5]
          exact own_chg O5 C6 (fun j hj => own_ne O5 BX5 (by decide) j hj)
        · intro j hj
          rcases hat5 j hj with h | h
          · exact HOB.out j h
          · exact .inr (by omega)
        · exact ((Ck.trans' C4b (fun _ _ h => h.elim)).trans' C5 (fun j hj h => by
            rcases HOB.out j h with h2 | h2
            · exact .inr h2
            · omega)).trans' C6 (fun j _ h => .inl h)
    · obtain rfl : k = ns.length := by omega
      rw [List.take_length] at Hk hown
      clear hk
      go_wp2_with fail
      refine bodyPost_end (results_none rfl _ _ _) rfl ?_
      exact ⟨rfl, ⟨⟨v', Hk.box, hown hn0, hob⟩, Ck⟩⟩

theorem PutAt.chg {w w' : World} {base B : Nat} {v : Value} {xs : List Int} {P : Nat → Prop} (h : PutAt w base B v xs) (c : Chg w w' P) (h1 : ¬ P B) (h2 : ∀ k, v.ownBlock = some k → ¬ P k) : PutAt w' base B v xs := ⟨h.box.chg c h1, h.bb.chg c h2⟩
theorem BB.lt {w : World} {base : Nat} {v : Value} {xs : List Int} (h : BB w base v xs) : ∀ k, v.ownBlock = some k → base ≤ k ∧ k < w.heap.size := by
  cases h with
  | own h => exact h.lt
  | lit g hv hn hb hl hc ht =>
    intro k hk
    rw [hv] at hk
    have : g = k := by injection hk
    omega

set_option maxRecDepth 100000 in
set_option maxHeartbeats 4000000 in
theorem put2_any (ns : List Int) {ai : Option Addr} {ci base B : Nat} {v : Value} {xs : List Int} (w : World) (H0 : PutAt w base B v xs) (hl : Lst w ai ns.length ci (ns.flatMap icell) 1)
    (hai : ∀ ad, ai = some ad → ad.block ≠ B ∧ ad.block < w.heap.size ∧ v.ownBlock ≠ some ad.block) (hbase : base ≤ w.heap.size) (hx : xs.length ≤ 2000000) (hn : ns.length ≤ 8) (hn0 : 0 < ns.length) :
    Calls Try.prog 54 #[.agg #[.pointer (some ⟨B, 0, none⟩)], .slice ai ns.length ci] w fun e w' => e = .returned (.tuple #[]) ∧ PutTo w w' base B v (xs ++ nums ns) := by
  obtain ⟨i0, hi0, hz0, hz1, hz2⟩ := info_parts info_u8i
  have hm2 := hl.le
  have HBlt := H0.box.lt
  have hvlt := Lib.hid H0.bb.lt
  obtain ⟨w1, hw1⟩ : ∃ w1, w.alloc (.cells #[.pointer (some ⟨B, 0, none⟩)] 104) = w1 := ⟨_, rfl⟩
  have C01 : Chg w w1 (fun _ => False) := by rw [← hw1]; exact (Chg.refl w _).alloc _
  have BF := Box.new w 104 #[.pointer (some ⟨B, 0, none⟩)]
  rw [hw1] at BF
  have hws : w1.heap.size = w.heap.size + 1 := by rw [← hw1, World.size_alloc]
  have H := H0.chg C01 (fun h => h) (fun _ _ h => h)
  have hl1 := hl.chg C01 (fun _ _ h => h)
  obtain ⟨F, hF⟩ : ∃ F, w.heap.size = F := ⟨_, rfl⟩
  rw [hF] at BF hws
  have hFB : F ≠ B := by omega
  have HC01 := Lib.hid C01
  clear H0 C01
  go_enter Try.func54, Try.ntmps54
  go_wp2_with fail
  try simp only [hw1, hF]
  clear hw1
  go_loopg [4] ns.length (fun g s4 wr => ∃ k : Nat, ∃ v', g + k = ns.length ∧ s4 = .int .i64 k ∧ PutAt wr base B v' (xs ++ nums (ns.take k)) ∧ (0 < k → wr.ownsRow base 5 1 v' (xs ++ nums (ns.take k)).length (u8s (xs ++ nums (ns.take k)))) ∧ (∀ j, v'.ownBlock = some j → v.ownBlock = some j ∨ w1.heap.size ≤ j) ∧ Chg w1 wr (fun k => k = B ∨ v.ownBlock = some k))
  case atStart => exact ⟨0, v, rfl, rfl, (by rw [List.take_zero]; show PutAt _ _ _ _ (xs ++ []); rw [List.append_nil]; exact H), fun h => absurd h (Nat.lt_irrefl _), fun j h => .inl h, Chg.refl _ _⟩
  case round =>
    obtain ⟨k, v', hk, rfl, Hk, hown, hob, Ck⟩ := hrel
    have HK := Lib.hid hk
    have HOB := Lib.hid hob
    have lk := hl1.chg Ck (fun ad e h => by
      obtain ⟨h1, h2, h3⟩ := hai ad e
      rcases h with h | h
      · exact h1 h
      · exact h3 h)
    have BFk := BF.chg Ck (fun h => by
      rcases h with h | h
      · exact hFB h
      · have := (hvlt.out _ h).2; omega)
    by_cases hlt : k < ns.length
    · obtain ⟨g0, o0, rfl⟩ := lk.pos (by omega)
      have c0 := Lst.cell0 (n := 1) (l := ns) (f := icell) (fun _ => rfl) lk k (by decide) hlt rfl
      rw [Nat.mul_one] at c0
      have HNS := Lib.hid (nums_take_succ ns k hlt)
      obtain ⟨x, hxk⟩ : ∃ x, ns[k] = x := ⟨_, rfl⟩
      rw [hxk] at c0 HNS
      have hk0 : (0 : Int) ≤ (k : Int) := by omega
      have hk1 : (k : Int) < ns.length := by omega
      obtain ⟨ys, hys⟩ : ∃ ys, xs ++ nums (ns.take k) = ys := ⟨_, rfl⟩
      have hyl : ys.length ≤ 2000032 := by rw [← hys, List.length_append, nums_len, List.length_take]; omega
      have HYS := Lib.hid hys
      rw [hys] at Hk
      have b0 : wr.cell? ⟨B, 0, none⟩ = some v' := Hk.box.cell 0
      have f0 : wr.cell? ⟨F, 0, none⟩ = some (.pointer (some ⟨B, 0, none⟩)) := BFk.cell 0
      have HHk := Lib.hid Hk
      have hwr := Ck.size
      have hFv : ∀ k, v'.ownBlock = some k → k ≠ F := fun k h => by
        rcases hob k h with h2 | h2
        · have := (hvlt.out _ h2).2; omega
        · omega
      have hgv : ∀ k, v'.ownBlock = some k → k ≠ g0 := fun k h => by
        obtain ⟨h1, h2, h3⟩ := hai _ rfl
        rcases hob k h with h4 | h4
        · intro e; subst e; exact h3 h4
        · intro e; subst e; have h5 : k < w.heap.size := h2; omega
      have HFV := Lib.hid hFv
      have HGV := Lib.hid hgv
      have HBF := Lib.hid BFk
      clear hk hys Hk hob hxk lk hFv hgv BFk hown
      go_wp2_with fail
      refine wp_region_noPanic ?_
      refine wp_region_L 13 (fun w' => w'.cell? ⟨B, 0, none⟩ = some v' ∧ w'.cell? ⟨F, 0, none⟩ = some (.pointer (some ⟨B, 0, none⟩)) ∧ w'.cell? ⟨g0, o0 + k, none⟩ = some (.int .i64 x)) (by kernel_rfl) (⟨b0, f0, c0⟩) (fun hHeld => ?_)
      refine wpAnyL_take (i := 0) (oi := ?oia0) (v := ?va0) ?hia0 (by kernel_rfl) (by kernel_rfl) (by kernel_rfl) (by kernel_rfl) (fun _ _ _ h => h) (Or.inl ⟨?hwa0, ?hya0⟩) (by assumption) ?hra0
      case hia0 => simp only [List.getElem?_toArray, List.getElem?_cons_succ, List.getElem?_cons_zero]; rfl
      case hwa0 => rfl
      case hya0 => intro wq hSq; (try dsimp only at hSq); go_simp; (try with_reducible rfl)
      try simp only [Act.put, List.setIfInBounds_toArray, List.set_cons_zero, List.set_cons_succ]
      refine wpAnyL_take (i := 1) (oi := ?oia1) (v := ?va1) ?hia1 (by kernel_rfl) (by kernel_rfl) (by kernel_rfl) (by kernel_rfl) (fun _ _ _ h => h) (Or.inl ⟨?hwa1, ?hya1⟩) (by assumption) ?hra1
      case hia1 => simp only [List.getElem?_toArray, List.getElem?_cons_succ, List.getElem?_cons_zero]; rfl
      case hwa1 => rfl
      case hya1 => intro wq hSq; (try dsimp only at hSq); go_simp; (try with_reducible rfl)
      try simp only [Act.put, List.setIfInBounds_toArray, List.set_cons_zero, List.set_cons_succ]
      refine wpAnyL_take (i := 2) (oi := ?oia2) (v := ?va2) ?hia2 (by kernel_rfl) (by kernel_rfl) (by kernel_rfl) (by kernel_rfl) (fun _ _ _ h => h) (Or.inl ⟨?hwa2, ?hya2⟩) (by assumption) ?hra2
      case hia2 => simp only [List.getElem?_toArray, List.getElem?_cons_succ, List.getElem?_cons_zero]; rfl
      case hwa2 => rfl
      case hya2 => intro wq hSq; (try dsimp only at hSq); go_simp; (try with_reducible rfl)
      try simp only [Act.put, List.setIfInBounds_toArray, List.set_cons_zero, List.set_cons_succ]
      refine wpAnyL_take (i := 3) (oi := ?oia3) (v := ?va3) ?hia3 (by kernel_rfl) (by kernel_rfl) (by kernel_rfl) (by kernel_rfl) (fun _ _ _ h => h) (Or.inl ⟨?hwa3, ?hya3⟩) (by assumption) ?hra3
      case hia3 => simp only [List.getElem?_toArray, List.getElem?_cons_succ, List.getElem?_cons_zero]; rfl
      case hwa3 => rfl
      case hya3 => intro wq hSq; (try dsimp only at hSq); go_simp; (try with_reducible rfl)
      try simp only [Act.put, List.setIfInBounds_toArray, List.set_cons_zero, List.set_cons_succ]
      refine wpAnyL_take (i := 4) (oi := ?oia4) (v := ?va4) ?hia4 (by kernel_rfl) (by kernel_rfl) (by kernel_rfl) (by kernel_rfl) (fun _ _ _ h => h) (Or.inl ⟨?hwa4, ?hya4⟩) (by assumption) ?hra4
      case hia4 => simp only [List.getElem?_toArray, List.getElem?_cons_succ, List.getElem?_cons_zero]; rfl
      case hwa4 => rfl
      case hya4 => intro wq hSq; (try dsimp only at hSq); go_simp; (try with_reducible rfl)
      try simp only [Act.put, List.setIfInBounds_toArray, List.set_cons_zero, List.set_cons_succ]
      refine wpAnyL_take (i := 5) (oi := ?oia5) (v := ?va5) ?hia5 (by kernel_rfl) (by kernel_rfl) (by kernel_rfl) (by kernel_rfl) (fun _ _ _ h => h) (Or.inl ⟨?hwa5, ?hya5⟩) (by assumption) ?hra5
      case hia5 => simp only [List.getElem?_toArray, List.getElem?_cons_succ, List.getElem?_cons_zero]; rfl
      case hwa5 => rfl
      case hya5 => intro wq hSq; (try dsimp only at hSq); go_simp; (try with_reducible rfl)
      try simp only [Act.put, List.setIfInBounds_toArray, List.set_cons_zero, List.set_cons_succ]
      refine wpAnyL_take (i := 6) (oi := ?oia6) (v := ?va6) ?hia6 (by kernel_rfl) (by kernel_rfl) (by kernel_rfl) (by kernel_rfl) (fun _ _ _ h => h) (Or.inl ⟨?hwa6, ?hya6⟩) (by assumption) ?hra6
      case hia6 => simp only [List.getElem?_toArray, List.getElem?_cons_succ, List.getElem?_cons_zero]; rfl
      case hwa6 => rfl
      case hya6 => intro wq hSq; (try dsimp only at hSq); go_simp; (try with_reducible rfl)
      try simp only [Act.put, List.setIfInBounds_toArray, List.set_cons_zero, List.set_cons_succ]
      refine wpAnyL_take (i := 7) (oi := ?oia7) (v := ?va7) ?hia7 (by kernel_rfl) (by kernel_rfl) (by kernel_rfl) (by kernel_rfl) (fun _ _ _ h => h) (Or.inl ⟨?hwa7, ?hya7⟩) (by assumption) ?hra7
      case hia7 => simp only [List.getElem?_toArray, List.getElem?_cons_succ, List.getElem?_cons_zero]; rfl
      case hwa7 => rfl
      case hya7 => intro wq hSq; (try dsimp only at hSq); go_simp; (try with_reducible rfl)
      try simp only [Act.put, List.setIfInBounds_toArray, List.set_cons_zero, List.set_cons_succ]
      refine wpAnyL_take (i := 8) (oi := ?oia8) (v := ?va8) ?hia8 (by kernel_rfl) (by kernel_rfl) (by kernel_rfl) (by kernel_rfl) (fun _ _ _ h => h) (Or.inl ⟨?hwa8, ?hya8⟩) (by assumption) ?hra8
      case hia8 => simp only [List.getElem?_toArray, List.getElem?_cons_succ, List.getElem?_cons_zero]; rfl
      case hwa8 => rfl
      case hya8 => intro wq hSq; (try dsimp only at hSq); go_simp; (try with_reducible rfl)
      try simp only [Act.put, List.setIfInBounds_toArray, List.set_cons_zero, List.set_cons_succ]
      refine wpAnyL_take (i := 9) (oi := ?oia9) (v := ?va9) ?hia9 (by kernel_rfl) (by kernel_rfl) (by kernel_rfl) (by kernel_rfl) (fun _ _ _ h => h) (Or.inl ⟨?hwa9, ?hya9⟩) (by assumption) ?hra9
      case hia9 => simp only [List.getElem?_toArray, List.getElem?_cons_succ, List.getElem?_cons_zero]; rfl
      case hwa9 => rfl
      case hya9 => intro wq hSq; (try dsimp only at hSq); go_simp; (try with_reducible rfl)
      try simp only [Act.put, List.setIfInBounds_toArray, List.set_cons_zero, List.set_cons_succ]
      refine wpAnyL_ready (rs := [10]) (by kernel_rfl) (by simp) ?_
      refine AllReadyL.cons rfl (fun K hK => ?_) AllReadyL.nil
      go_simp
      refine (rfour_any x _).mono ?_
      rintro e w4 ⟨a4, c4, rfl, O4, C4⟩
      obtain ⟨ad4, rfl⟩ : ∃ ad, a4 = some ad := by
        cases a4 with
        | none => have := (own_src O4).nil rfl; omega
        | some ad => exact ⟨ad, rfl⟩
      have C4b : Chg wr w4 (fun _ => False) := (Chg.refl wr _).drew.trans C4
      refine hK.out _ _ (.inl (⟨C4b.cell b0 (fun h => h), C4b.cell f0 (fun h => h), C4b.cell c0 (fun h => h)⟩)) (fun hHeld => ?_)
      replace hHeld := SOr.stands hHeld (by kernel_rfl)
      clear hK K
      try simp only [Act.put, List.setIfInBounds_toArray, List.set_cons_zero, List.set_cons_succ]
      refine wpAnyL_ready (rs := [11]) (by kernel_rfl) (by simp) ?_
      refine AllReadyL.cons rfl (fun K hK => ?_) AllReadyL.nil
      have BB4 := HHk.out.bb.chg C4b (fun _ _ h => h)
      have BX4 := HHk.out.box.chg C4b (fun h => h)
      have hs4 := C4b.size
      refine op_append_bb (.tmp 16) (.tmp 21) _ rfl base i0 _ Try.underlying59 hi0 hz0 hz1 hz2 rfl v' ys rfl BB4 ad4 4 c4 (fourB x) rfl (own_src O4) (by omega) (by unfold maxLen; omega) (by omega) (by omega) ?_
      intro v5 w5 O5 hgr5 hat5
      have C5 : Chg w4 w5 (fun k => v'.ownBlock = some k) := (Chg.refl w4 _).grown hgr5 (fun k hk _ => hk)
      obtain ⟨a5, c5, rfl, -⟩ := own_form O5
      have hne5 := BB4.ne BX4 (by decide)
      have BX5 := BX4.chg C5 (fun h => hne5 B h rfl)
      have f5 := C5.cell (C4b.cell f0 (fun h => h)) (fun h => HFV.out F h rfl)
      have c5' := C5.cell (C4b.cell c0 (fun h => h)) (fun h => HGV.out g0 h rfl)
      change K (Act.put _ (some 22) _) _
      simp only [Act.put, List.setIfInBounds_toArray, List.set_cons_zero, List.set_cons_succ]
      refine hK.out _ _ (.inl (⟨BX5.cell 0, f5, c5'⟩)) (fun hHeld => ?_)
      replace hHeld := SOr.stands hHeld (by kernel_rfl)
      clear hK K
      try simp only [Act.put, List.setIfInBounds_toArray, List.set_cons_zero, List.set_cons_succ]
      refine wpAnyL_take (i := 12) (oi := ?oib12) (v := ?vb12) ?hib12 (by kernel_rfl) (by kernel_rfl) (by kernel_rfl) (by kernel_rfl) (fun _ _ _ h => h) (Or.inl ⟨?hwb12, ?hyb12⟩) (by assumption) ?hrb12
      case hib12 => simp only [List.getElem?_toArray, List.getElem?_cons_succ, List.getElem?_cons_zero]; rfl
      case hwb12 => rfl
      case hyb12 => intro wq hSq; (try dsimp only at hSq); go_simp; (try with_reducible rfl)
      try simp only [Act.put, List.setIfInBounds_toArray, List.set_cons_zero, List.set_cons_succ]
      have z5 := BX5.cell 0
      have z6 := BX5.frozen 0
      refine wpAnyL_ready (rs := [13]) (by kernel_rfl) (by simp) ?_
      refine AllReadyL.cons rfl (fun K hK => ?_) AllReadyL.nil
      go_simp
      refine hK.out _ _ (.inr (by kernel_rfl)) (fun _ => ?_)
      clear hK K
      try simp only [Act.put, List.setIfInBounds_toArray, List.set_cons_zero, List.set_cons_succ]
      refine wpAnyL_done (by kernel_rfl) ?_ _
      refine NoPanic.normal ?_
      go_wp2_with fail
      have C6 : Chg w5 (w5.setCell ⟨B, 0, none⟩ (.slice a5 (ys.length + 4) c5)) (fun k => k = B) := (Chg.refl w5 (fun k => k = B)).setCell (p := ⟨B, 0, none⟩) (fun _ => rfl) _
      have hl5 : ys.length + 4 = (ys ++ fourB x).length := by rw [List.length_append, fourB_len]
      go_roundg (gk - 1)
      case measure => have := HK.out; omega
      case rel =>
        refine ⟨k + 1, .slice a5 (ys.length + 4) c5, by have := HK.out; omega, by go_num, ?_, ?_, ?_, ?_⟩
        · rw [HNS.out, ← List.append_assoc, HYS.out]
          rw [hl5] at O5 C6
          rw [hl5]
          exact ⟨BX5.set 0 _, .own (own_chg O5 C6 (fun j hj => own_ne O5 BX5 (by decide) j hj))⟩
        · intro _
          rw [HNS.out, ← List.append_assoc, HYS.out]
          rw [hl5] at O5 C6
          rw [hl5]
          exact own_chg O5 C6 (fun j hj => own_ne O5 BX5 (by decide) j hj)
        · intro j hj
          rcases hat5 j hj with h | h
          · exact HOB.out j h
          · exact .inr (by omega)
        · exact ((Ck.trans' C4b (fun _ _ h => h.elim)).trans' C5 (fun j hj h => by
            rcases HOB.out j h with h2 | h2
            · exact .inr h2
            · omega)).trans' C6 (fun j _ h => .inl h)
    · obtain rfl : k = ns.length := by omega
      rw [List.take_length] at Hk hown
      clear hk
      go_wp2_with fail
      refine bodyPost_end (results_none rfl _ _ _) rfl ?_
      exact ⟨rfl, ⟨⟨v', Hk.box, hown hn0, fun j h => by rcases hob j h with h2 | h2; exact .inl h2; exact .inr (by omega)⟩, (HC01.out.mono (fun _ _ h => h.elim)).trans Ck⟩⟩
end Go.Proofs.Ytdhkbephofnfdaa

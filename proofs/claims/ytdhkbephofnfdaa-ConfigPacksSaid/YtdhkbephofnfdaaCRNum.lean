/- trunnionref14.reader.num; Pack of what is none. -/
import Derived.Test.YtdhkbephofnfdaaCLaw
import Derived.Test.YtdhkbephofnfdaaCRPack
import Derived.BigQuiet
namespace Go.Proofs.Ytdhkbephofnfdaa
open Go.RowKit

set_option maxRecDepth 100000 in
theorem rcpack_bad {C : Cfg} {ap ac aw : Option Addr} {cp cc cw : Nat} (w : World) (h : CfgAt w C ap ac aw cp cc cw) (hc : ¬ chk C = 0) :
    Calls Try.prog 37 #[.agg (cfgCells C ap ac aw cp cc cw)] w fun e w' => e = .returned (.tuple #[.slice none 0 0, .int .i64 (chk C)]) ∧ Chg w w' (fun _ => False) := by
  unfold cfgCells
  obtain ⟨ck, hck⟩ : ∃ x, chk C = x := ⟨_, rfl⟩
  rw [hck] at hc
  obtain ⟨pg, hpg⟩ : ∃ x, C.pages = x := ⟨_, rfl⟩
  obtain ⟨mj, hmj⟩ : ∃ x, C.major = x := ⟨_, rfl⟩
  obtain ⟨sw, hsw⟩ : ∃ x, C.switch = x := ⟨_, rfl⟩
  obtain ⟨np, hnp⟩ : ∃ x, C.parts.length = x := ⟨_, rfl⟩
  obtain ⟨nc, hnc⟩ : ∃ x, C.chans.length = x := ⟨_, rfl⟩
  obtain ⟨nw, hnw⟩ : ∃ x, C.wins.length = x := ⟨_, rfl⟩
  rw [hpg, hmj, hsw, hnp, hnc, hnw, hck]
  have Cb : Chg w (w.alloc (.cells #[.int .i64 pg, .int .i64 mj, .int .i64 sw, .slice ap np cp, .slice ac nc cc, .slice aw nw cw] 27)) (fun _ => False) := (Chg.refl w _).alloc _
  have HCK := rcheck_at (h.keep Cb) hck hpg hmj hsw hnp hnc hnw
  have hcb : (ck != 0) = true := bne_iff_ne.2 hc
  clear hck hpg hmj hsw hnp hnc hnw h
  go_enter Try.func37, Try.ntmps37
  go_wp2_with fail
  refine HCK.mono ?_
  rintro e w1 ⟨rfl, C1⟩
  clear HCK
  go_wp2_with fail
  go_ret2
  exact ⟨rfl, Cb.trans C1⟩

/-- The reference's reader: where it is in its bytes, and whether it gave up. -/
structure RfAt (w : World) (r gb : Nat) (bs : List Int) (p : Nat) (bad : Bool) : Prop where
  st : ∃ o c, Box w r 115 #[.slice (some ⟨gb, o, none⟩) bs.length c, .int .i64 (p : Int), .bool bad] ∧ Lst w (some ⟨gb, o, none⟩) bs.length c (u8s bs) 1 ∧ bs.length < c
  le : p ≤ bs.length
  max : bs.length ≤ 5000
  ne : gb ≠ r
  lt : gb < w.heap.size
  rng : bytesOk bs
theorem RfAt.chg {w w' : World} {r gb p : Nat} {bs : List Int} {bad : Bool} {P : Nat → Prop} (h : RfAt w r gb bs p bad) (c : Chg w w' P) (h1 : ¬ P r) (h2 : ¬ P gb) : RfAt w' r gb bs p bad := by
  obtain ⟨o, cc, b, s, hcc⟩ := h.st
  exact ⟨⟨o, cc, b.chg c h1, s.chg c (fun ad e hp => by cases e; exact h2 hp), hcc⟩, h.le, h.max, h.ne, Nat.lt_of_lt_of_le h.lt c.size, h.rng⟩

theorem numB_drop (bs : List Int) (p : Nat) : numB bs p = numB (bs.drop p) 0 := by
  unfold numB
  simp only [List.getD_eq_getElem?_getD, List.getElem?_drop, Nat.zero_add, Nat.add_zero]
theorem numB_at {x : Int} (h : wrd x) (t : List Int) : numB (fourB x ++ t) 0 = x := by
  unfold numB num4 fourB
  simp only [List.cons_append, List.nil_append, Nat.zero_add, List.getD_cons_zero, List.getD_cons_succ]
  obtain ⟨h0, h2⟩ := h
  omega
theorem numB_wrd {bs : List Int} (h : bytesOk bs) (p : Nat) : wrd (numB bs p) := by
  have hr : ∀ j, 0 ≤ bs.getD j 0 ∧ bs.getD j 0 < 256 := fun j => by
    rw [List.getD_eq_getElem?_getD]
    cases hj : bs[j]? with
    | none => simp
    | some x => exact h x (List.mem_of_getElem? hj)
  have h0 := hr p
  have h1 := hr (p + 1)
  have h2 := hr (p + 2)
  have h3 := hr (p + 3)
  unfold numB num4 wrd
  omega

/-- What num tells. -/
def RnR (w w' : World) (r gb : Nat) (bs : List Int) (p : Nat) (bad : Bool) (e : Ending) : Prop :=
  ∃ (x : Int) (p' : Nat) (bad' : Bool), e = .returned (.int .i64 x) ∧ wrd x ∧ RfAt w' r gb bs p' bad' ∧ Chg w w' (fun j => j = r) ∧ (∀ v t, wrd v → bad = false → bs.drop p = fourB v ++ t → x = v ∧ bad' = false ∧ bs.drop p' = t)

set_option maxRecDepth 100000 in
set_option maxHeartbeats 4000000 in
theorem rn_any {r gb p : Nat} {bs : List Int} {bad : Bool} (w : World) (H : RfAt w r gb bs p bad) :
    Calls Try.prog 60 #[.pointer (some ⟨r, 0, none⟩)] w fun e w' => RnR w w' r gb bs p bad e := by
  obtain ⟨o, c, bx, L, hcc⟩ := H.st
  have hle := H.le
  have hmx := H.max
  have x0 := bx.cell 0
  have x1 := bx.cell 1
  have x2 := bx.cell 2
  have z1 := bx.frozen 1
  have z2 := bx.frozen 2
  have hne := H.ne
  by_cases hok : bad = false ∧ p + 4 ≤ bs.length
  · obtain ⟨rfl, hp⟩ := hok
    have hsub : wrap64 ((bs.length : Int) - (p : Int)) = (bs.length : Int) - (p : Int) := IntWalk.wrap64_in _ (by omega)
    have hge : ¬ ((bs.length : Int) - (p : Int) < 4) := by omega
    have hle4 : (4 : Int) ≤ (bs.length : Int) - (p : Int) := by omega
    go_enter Try.func60, Try.ntmps60
    go_wp2_with fail
    go_quiet (fail)
    go_wp2_with fail
    refine wp_region_noPanic ?_
    refine wp_region_L 9 (fun w' => w'.cell? ⟨r, 0, none⟩ = some (.slice (some ⟨gb, o, none⟩) bs.length c) ∧ w'.cell? ⟨r, 1, none⟩ = some (.int .i64 (p : Int))) (by kernel_rfl) (⟨x0, x1⟩) (fun hHeld => ?_)
    refine wpAnyL_take (i := 0) (oi := ?oia0) (v := ?va0) ?hia0 (by kernel_rfl) (by kernel_rfl) (by kernel_rfl) (by kernel_rfl) (fun _ _ _ h => h) (Or.inl ⟨?hwa0, ?hya0⟩) (by assumption) ?hra0
    case hia0 => simp only [List.getElem?_toArray, List.getElem?_cons_succ, List.getElem?_cons_zero]; rfl
    case hwa0 => rfl
    case hya0 => intro wq hSq; (try dsimp only at hSq); go_simp; (try with_reducible rfl)
    try simp only [Act.put, List.setIfInBounds_toArray, List.set_cons_zero, List.set_cons_succ]
    refine wpAnyL_take (i := 1) (oi := ?oia1) (v := ?va1) ?hia1 (by kernel_rfl) (by kernel_rfl) (by kernel_rfl) (by kernel_rfl) (fun _ _ _ h => h) (Or.inl ⟨?hwa1, ?hya1⟩) (by assumption) ?hra1
    case hia1 => simp only [List.getElem?_toArray, List.getElem?_cons_succ, List.getElem?_cons_zero]; rfl
    case hwa1 => rfl
    case hya1 => intro wq hSq; (try dsimp only at hSq); go_simp; (try with_reducible rfl)
    try simp only [Act.put, List.setIfInBounds_toArray, List.set_cons_zero, List.set_cons_succ]
    refine wpAnyL_take (i := 2) (oi := ?oia2) (v := ?va2) ?hia2 (by kernel_rfl) (by kernel_rfl) (by kernel_rfl) (by kernel_rfl) (fun _ _ _ h => h) (Or.inl ⟨?hwa2, ?hya2⟩) (by assumption) ?hra2
    case hia2 => simp only [List.getElem?_toArray, List.getElem?_cons_succ, List.getElem?_cons_zero]; rfl
    case hwa2 => rfl
    case hya2 => intro wq hSq; (try dsimp only at hSq); go_simp; (try with_reducible rfl)
    try simp only [Act.put, List.setIfInBounds_toArray, List.set_cons_zero, List.set_cons_succ]
    refine wpAnyL_take (i := 3) (oi := ?oia3) (v := ?va3) ?hia3 (by kernel_rfl) (by kernel_rfl) (by kernel_rfl) (by kernel_rfl) (fun _ _ _ h => h) (Or.inl ⟨?hwa3, ?hya3⟩) (by assumption) ?hra3
    case hia3 => simp only [List.getElem?_toArray, List.getElem?_cons_succ, List.getElem?_cons_zero]; rfl
    case hwa3 => rfl
    case hya3 => intro wq hSq; (try dsimp only at hSq); go_simp; (try with_reducible rfl)
    try simp only [Act.put, List.setIfInBounds_toArray, List.set_cons_zero, List.set_cons_succ]
    refine wpAnyL_take (i := 4) (oi := ?oia4) (v := ?va4) ?hia4 (by kernel_rfl) (by kernel_rfl) (by kernel_rfl) (by kernel_rfl) (fun _ _ _ h => h) (Or.inl ⟨?hwa4, ?hya4⟩) (by assumption) ?hra4
    case hia4 => simp only [List.getElem?_toArray, List.getElem?_cons_succ, List.getElem?_cons_zero]; rfl
    case hwa4 => rfl
    case hya4 => intro wq hSq; (try dsimp only at hSq); go_simp; (try with_reducible rfl)
    try simp only [Act.put, List.setIfInBounds_toArray, List.set_cons_zero, List.set_cons_succ]
    refine wpAnyL_take (i := 5) (oi := ?oia5) (v := ?va5) ?hia5 (by kernel_rfl) (by kernel_rfl) (by kernel_rfl) (by kernel_rfl) (fun _ _ _ h => h) (Or.inl ⟨?hwa5, ?hya5⟩) (by assumption) ?hra5
    case hia5 => simp only [List.getElem?_toArray, List.getElem?_cons_succ, List.getElem?_cons_zero]; rfl
    case hwa5 => rfl
    case hya5 => intro wq hSq; (try dsimp only at hSq); go_simp; (try with_reducible rfl)
    try simp only [Act.put, List.setIfInBounds_toArray, List.set_cons_zero, List.set_cons_succ]
    refine wpAnyL_take (i := 6) (oi := ?oia6) (v := ?va6) ?hia6 (by kernel_rfl) (by kernel_rfl) (by kernel_rfl) (by kernel_rfl) (fun _ _ _ h => h) (Or.inl ⟨?hwa6, ?hya6⟩) (by assumption) ?hra6
    case hia6 => simp only [List.getElem?_toArray, List.getElem?_cons_succ, List.getElem?_cons_zero]; rfl
    case hwa6 => rfl
    case hya6 => intro wq hSq; (try dsimp only at hSq); go_simp; (try with_reducible rfl)
    try simp only [Act.put, List.setIfInBounds_toArray, List.set_cons_zero, List.set_cons_succ]
    refine wpAnyL_take (i := 7) (oi := ?oia7) (v := ?va7) ?hia7 (by kernel_rfl) (by kernel_rfl) (by kernel_rfl) (by kernel_rfl) (fun _ _ _ h => h) (Or.inl ⟨?hwa7, ?hya7⟩) (by assumption) ?hra7
    case hia7 => simp only [List.getElem?_toArray, List.getElem?_cons_succ, List.getElem?_cons_zero]; rfl
    case hwa7 => rfl
    case hya7 => intro wq hSq; (try dsimp only at hSq); go_simp; (try with_reducible rfl)
    try simp only [Act.put, List.setIfInBounds_toArray, List.set_cons_zero, List.set_cons_succ]
    refine wpAnyL_ready (rs := [8]) (by kernel_rfl) (by simp) ?_
    refine AllReadyL.cons rfl (fun K hK => ?_) AllReadyL.nil
    go_simp
    refine (rnum_any (p := p) _ (L.chg (((Chg.refl w (fun _ => False)).drewN _).drew) (fun _ _ h => h)) H.rng hp (by omega)).mono ?_
    rintro e w4 ⟨q, rfl, rfl⟩
    refine hK.out _ _ (.inl (⟨x0, x1⟩)) (fun hHeld => ?_)
    replace hHeld := SOr.stands hHeld (by kernel_rfl)
    clear hK K
    try simp only [Act.put, List.setIfInBounds_toArray, List.set_cons_zero, List.set_cons_succ]
    refine wpAnyL_ready (rs := [9]) (by kernel_rfl) (by simp) ?_
    refine AllReadyL.cons rfl (fun K hK => ?_) AllReadyL.nil
    go_simp
    refine hK.out _ _ (.inr (by kernel_rfl)) (fun _ => ?_)
    clear hK K
    try simp only [Act.put, List.setIfInBounds_toArray, List.set_cons_zero, List.set_cons_succ]
    refine wpAnyL_done (by kernel_rfl) ?_ _
    refine NoPanic.normal ?_
    clear hHeld
    go_wp2_with fail
    go_ret
    have C : Chg w ((w.drewN (nq + 1 + q)).setCell ⟨r, 1, none⟩ (.int .i64 ((p : Int) + 4))) (fun j => j = r) := (((Chg.refl w (fun j => j = r)).drewN _).setCell (p := ⟨r, 1, none⟩) (fun _ => rfl) _)
    refine ⟨numB bs p, p + 4, false, rfl, numB_wrd H.rng p, ⟨⟨o, c, (bx.drewN _).set 1 _, L.chg C (fun ad e h => by cases e; exact hne h), hcc⟩, hp, hmx, hne, Nat.lt_of_lt_of_le H.lt C.size, H.rng⟩, C, fun v t hv _ hd => ⟨?_, rfl, ?_⟩⟩
    · rw [numB_drop, hd]
      exact numB_at hv t
    · rw [← List.drop_drop, hd]
      rfl
  · go_enter Try.func60, Try.ntmps60
    cases bad
    · have hlt : (bs.length : Int) - (p : Int) < 4 := by
        have : ¬ (p + 4 ≤ bs.length) := fun h => hok ⟨rfl, h⟩
        omega
      have hnok : ¬ (p + 4 ≤ bs.length) := fun h => hok ⟨rfl, h⟩
      go_wp2_with fail
      go_quiet (fail)
      go_wp2_with fail
      go_ret
      have C : Chg w ((w.drewN nq).setCell ⟨r, 2, none⟩ (.bool true)) (fun j => j = r) := (((Chg.refl w (fun j => j = r)).drewN nq).setCell (p := ⟨r, 2, none⟩) (fun _ => rfl) _)
      exact ⟨0, p, true, rfl, ⟨by decide, by decide⟩, ⟨⟨o, c, (bx.drewN nq).set 2 _, L.chg C (fun ad e h => by cases e; exact hne h), hcc⟩, hle, hmx, hne, Nat.lt_of_lt_of_le H.lt C.size, H.rng⟩, C, fun v t _ _ hd => absurd (by have := congrArg List.length hd; rw [List.length_drop, List.length_append, fourB_len] at this; omega) hnok⟩
    · go_wp2_with fail
      go_quiet (fail)
      go_wp2_with fail
      go_ret
      have C : Chg w ((w.drewN nq).setCell ⟨r, 2, none⟩ (.bool true)) (fun j => j = r) := (((Chg.refl w (fun j => j = r)).drewN nq).setCell (p := ⟨r, 2, none⟩) (fun _ => rfl) _)
      exact ⟨0, p, true, rfl, ⟨by decide, by decide⟩, ⟨⟨o, c, (bx.drewN nq).set 2 _, L.chg C (fun ad e h => by cases e; exact hne h), hcc⟩, hle, hmx, hne, Nat.lt_of_lt_of_le H.lt C.size, H.rng⟩, C, fun v t _ hb _ => by cases hb⟩
end Go.Proofs.Ytdhkbephofnfdaa

/- image.Unpack. -/
import Derived.Test.YtgblnmahniphdaaImg7
namespace Go.Proofs.Ytgblnmahniphdaa
open Go.RowKit

theorem src_cut {w : World} {bb off len cap : Nat} {xs : List Int} (h : Src w (some ⟨bb, off, none⟩) len cap (u8s xs) 1) (p m c : Nat) (hp : p + m ≤ len) :
    Src w (some ⟨bb, off + p, none⟩) m c (u8s ((xs.drop p).take m)) 1 := by
  have hl : xs.length = len := by have := h.len; simpa [u8s] using this
  refine ⟨by simp [u8s]; omega, fun h => (by cases h), fun ad he j u hu => ?_⟩
  injection he with he
  subst he
  obtain ⟨hj, rfl⟩ := u8s_get hu
  have hj' : j < m := by simp at hj; omega
  have h2 := h.get _ rfl (p + j) (.int .u8 (xs.getD (p + j) 0)) (by simp [u8s, show p + j < xs.length by omega])
  rw [Addr.add_lit] at h2 ⊢
  rw [Nat.add_assoc, h2]
  simp [List.getElem?_take, hj']
theorem rng_cut {xs : List Int} (hx : ∀ x ∈ xs, 0 ≤ x ∧ x < 256) (p m : Nat) : ∀ x ∈ (xs.drop p).take m, 0 ≤ x ∧ x < 256 := fun x h => hx x (List.mem_of_mem_drop (List.mem_of_mem_take h))
theorem numB_cut (xs : List Int) (h : 8 ≤ xs.length) : numB ((xs.drop 4).take 4) 0 = numB xs 4 := by
  have e : ∀ j, j < 4 → ((xs.drop 4).take 4).getD j 0 = xs.getD (4 + j) 0 := fun j hj => by
    rw [List.getD_eq_getElem?_getD, List.getD_eq_getElem?_getD, List.getElem?_take_of_lt hj, List.getElem?_drop]
  unfold numB
  rw [e 0 (by decide), e (0 + 1) (by decide), e (0 + 2) (by decide), e (0 + 3) (by decide)]

set_option maxHeartbeats 1600000 in
theorem unpack_short {ao : Option Addr} {m c : Nat} (w : World) (hm : m < 16) :
    Calls Try.prog 23 #[.slice ao m c] w fun r w' => r = .returned (.tuple #[.agg #[.int .i64 0, .slice none 0 0], .int .i64 4]) ∧ Chg w w' (fun _ => False) := by
  have d1 : decide ((m : Int) < 16) = true := decide_eq_true (by omega)
  clear hm
  go_enter Try.func23, Try.ntmps23
  go_wp2_with fail
  refine bodyPost_ret (v := .tuple #[.agg #[.int .i64 0, .slice none 0 0], .int .i64 4]) (by simp [results, Try.results23, go_sem]) rfl ?_
  exact ⟨rfl, (Chg.refl w _).alloc _⟩

/-- What Pack hands back. -/
theorem ipack_any (e : Int) (m c : Nat) (ao : Option Addr) (xs : List Int) (w : World) (hs : Src w ao m c (u8s xs) 1) (hx : ∀ x ∈ xs, 0 ≤ x ∧ x < 256) (hm : m ≤ 1048576) :
    Calls Try.prog 19 #[.agg #[.int .i64 e, .slice ao m c]] w fun r w' => ∃ a2 n2 c2, r = .returned (.tuple #[.slice a2 n2 c2, .int .i64 (chkI e m)]) ∧ Chg w w' (fun _ => False) ∧ (chkI e m = 0 → n2 = m + 16 ∧ w'.ownsRow w.heap.size 5 1 (.slice a2 n2 c2) n2 (u8s (packB e xs))) := by
  by_cases hc : chkI e m = 0
  · refine (ipack_ok e m c ao xs w hs hx hm hc).mono ?_
    rintro r w' ⟨a2, c2, rfl, O, C⟩
    exact ⟨a2, m + 16, c2, by rw [hc], C, fun _ => ⟨rfl, O⟩⟩
  · refine (ipack_bad e m c ao w hc).mono ?_
    rintro r w' ⟨rfl, C⟩
    exact ⟨none, 0, 0, rfl, C, fun h => absurd h hc⟩

set_option maxHeartbeats 3200000 in
set_option maxRecDepth 100000 in
theorem unpack_long {ao : Option Addr} {m c : Nat} {xs : List Int} (w : World) (hL : Lst w ao m c (u8s xs) 1) (hx : ∀ x ∈ xs, 0 ≤ x ∧ x < 256) (hm : 16 ≤ m) (hmm : m ≤ 1000000) :
    Calls Try.prog 23 #[.slice ao m c] w fun r w' => ∃ e2 a2 n2 c2 q, r = .returned (.tuple #[.agg #[.int .i64 e2, .slice a2 n2 c2], .int .i64 q]) ∧ Chg w w' (fun _ => False) ∧
      (goodI xs → q = 0 ∧ e2 = numB xs 4 ∧ n2 = m - 16 ∧ w'.ownsRow w.heap.size 5 1 (.slice a2 n2 c2) n2 (u8s (midB xs))) ∧ (¬ goodI xs → q = 4 ∧ e2 = 0 ∧ a2 = none ∧ n2 = 0 ∧ c2 = 0) := by
  have hl : xs.length = m := by have := hL.src.len; simpa [u8s] using this
  obtain ⟨b, o, rfl⟩ := hL.pos (by omega)
  have hcap := hL.le
  have hmx := hL.mx
  have d1 : decide ((m : Int) < 16) = false := decide_eq_false (by omega)
  have s1 := src_cut hL.src 4 4 (c - 4) (by omega)
  have s2 := src_cut hL.src 12 (m - 16) (c - 12) (by omega)
  have L1 := Lib.hid (show Lst w (some ⟨b, o + 4, none⟩) 4 (c - 4) (u8s ((xs.drop 4).take 4)) 1 from ⟨s1, fun _ => ⟨b, o + 4, rfl⟩, by omega, by omega⟩)
  have S2 := Lib.hid (show Src w (some ⟨b, o + 12, none⟩) (m - 16) (c - 12) (u8s (midB xs)) 1 by unfold midB; rw [hl]; exact s2)
  have SX := Lib.hid hL.src
  have HN := Lib.hid (numB_cut xs (by omega))
  have HX := Lib.hid hx
  have HXM := Lib.hid (show ∀ x ∈ midB xs, 0 ≤ x ∧ x < 256 by unfold midB; exact rng_cut hx 12 _)
  have HLM := Lib.hid (show (midB xs).length = m - 16 by unfold midB; simp; omega)
  have HG := Lib.hid (show goodI xs ↔ (chkI (numB xs 4) (m - 16) = 0 ∧ packB (numB xs 4) (midB xs) = xs) by unfold goodI; rw [hl]; exact ⟨fun h => h.2, fun h => ⟨by omega, h⟩⟩)
  have k1 : ((m : Int) - 4).toNat = m - 4 := by omega
  have k2 : ((m : Int) - 4 - 12).toNat = m - 16 := by omega
  have k3 : (12 : Int) ≤ (m : Int) - 4 := by omega
  have k4 : (m : Int) - 4 ≤ (c : Int) := by omega
  have k5 : (8 : Int) ≤ (c : Int) := by omega
  have k6 : IntKind.i64.wrap ((m : Int) - 4) = (m : Int) - 4 := IntWalk.i64_in _ (by omega)
  have k7 : (m - 4) - 12 = m - 16 := by omega
  have k8 : (c = 4) = False := by simp; omega
  have k9 : (c = 12) = False := by simp; omega
  clear hl s1 s2 hL hx
  go_enter Try.func23, Try.ntmps23
  go_wp2_with fail
  obtain ⟨g, hg⟩ : ∃ g, w.heap.size = g := ⟨_, rfl⟩
  obtain ⟨w1, hw1⟩ : ∃ w1, w.alloc (.cells #[.int .i64 0, .slice none 0 0] 39) = w1 := ⟨_, rfl⟩
  have BX : Box w1 g 39 #[.int .i64 0, .slice none 0 0] := by rw [← hw1, ← hg]; exact Box.new w _ _
  have C1 : Chg w w1 (fun _ => False) := by rw [← hw1]; exact (Chg.refl w _).alloc _
  have sz1 : w1.heap.size = g + 1 := by rw [← hw1, ← hg]; simp
  rw [hw1, hg]
  clear hw1
  refine wp_region_noPanic ?_
  refine wp_region_held_drew (S := fun w' => True) (by kernel_rfl) trivial (fun hHeld => ?_)
  refine wpAnyH_take (i := 0) (oi := ?oi0) (v := ?v0) ?hi0 (by kernel_rfl) (by kernel_rfl) (by kernel_rfl) (fun _ _ _ h => h) (Or.inl ⟨?hw0, ?hy0⟩) (by assumption) ?hr0
  case hi0 => simp only [List.getElem?_toArray, List.getElem?_cons_succ, List.getElem?_cons_zero]; rfl
  case hw0 => rfl
  case hy0 => intro wq hSq; (try dsimp only at hSq); go_simp; (try with_reducible rfl)
  try simp only [Act.put, List.setIfInBounds_toArray, List.set_cons_zero, List.set_cons_succ]
  refine wpAnyH_take (i := 1) (oi := ?oi1) (v := ?v1) ?hi1 (by kernel_rfl) (by kernel_rfl) (by kernel_rfl) (fun _ _ _ h => h) (Or.inl ⟨?hw1, ?hy1⟩) (by assumption) ?hr1
  case hi1 => simp only [List.getElem?_toArray, List.getElem?_cons_succ, List.getElem?_cons_zero]; rfl
  case hw1 => rfl
  case hy1 => intro wq hSq; (try dsimp only at hSq); go_simp; (try with_reducible rfl)
  try simp only [Act.put, List.setIfInBounds_toArray, List.set_cons_zero, List.set_cons_succ]
  refine wpAnyH_take (i := 3) (oi := ?oi3) (v := ?v3) ?hi3 (by kernel_rfl) (by kernel_rfl) (by kernel_rfl) (fun _ _ _ h => h) (Or.inl ⟨?hw3, ?hy3⟩) (by assumption) ?hr3
  case hi3 => simp only [List.getElem?_toArray, List.getElem?_cons_succ, List.getElem?_cons_zero]; rfl
  case hw3 => rfl
  case hy3 => intro wq hSq; (try dsimp only at hSq); go_simp; (try with_reducible rfl)
  try simp only [Act.put, List.setIfInBounds_toArray, List.set_cons_zero, List.set_cons_succ]
  refine wpAnyH_take (i := 4) (oi := ?oi4) (v := ?v4) ?hi4 (by kernel_rfl) (by kernel_rfl) (by kernel_rfl) (fun _ _ _ h => h) (Or.inl ⟨?hw4, ?hy4⟩) (by assumption) ?hr4
  case hi4 => simp only [List.getElem?_toArray, List.getElem?_cons_succ, List.getElem?_cons_zero]; rfl
  case hw4 => rfl
  case hy4 => intro wq hSq; (try dsimp only at hSq); go_simp; (try with_reducible rfl)
  try simp only [Act.put, List.setIfInBounds_toArray, List.set_cons_zero, List.set_cons_succ]
  refine wpAnyH_take (i := 5) (oi := ?oi5) (v := ?v5) ?hi5 (by kernel_rfl) (by kernel_rfl) (by kernel_rfl) (fun _ _ _ h => h) (Or.inl ⟨?hw5, ?hy5⟩) (by assumption) ?hr5
  case hi5 => simp only [List.getElem?_toArray, List.getElem?_cons_succ, List.getElem?_cons_zero]; rfl
  case hw5 => rfl
  case hy5 => intro wq hSq; (try dsimp only at hSq); go_simp; (try with_reducible rfl)
  try simp only [Act.put, List.setIfInBounds_toArray, List.set_cons_zero, List.set_cons_succ]
  refine wpAnyH_take (i := 6) (oi := ?oi6) (v := ?v6) ?hi6 (by kernel_rfl) (by kernel_rfl) (by kernel_rfl) (fun _ _ _ h => h) (Or.inl ⟨?hw6, ?hy6⟩) (by assumption) ?hr6
  case hi6 => simp only [List.getElem?_toArray, List.getElem?_cons_succ, List.getElem?_cons_zero]; rfl
  case hw6 => rfl
  case hy6 => intro wq hSq; (try dsimp only at hSq); go_simp; (try with_reducible rfl)
  try simp only [Act.put, List.setIfInBounds_toArray, List.set_cons_zero, List.set_cons_succ]
  refine wpAnyH_take (i := 7) (oi := ?oi7) (v := ?v7) ?hi7 (by kernel_rfl) (by kernel_rfl) (by kernel_rfl) (fun _ _ _ h => h) (Or.inl ⟨?hw7, ?hy7⟩) (by assumption) ?hr7
  case hi7 => simp only [List.getElem?_toArray, List.getElem?_cons_succ, List.getElem?_cons_zero]; rfl
  case hw7 => rfl
  case hy7 => intro wq hSq; (try dsimp only at hSq); go_simp; (try with_reducible rfl)
  try simp only [Act.put, List.setIfInBounds_toArray, List.set_cons_zero, List.set_cons_succ]
  refine wpAnyH_inv' [2, 8, 9, 10] 20 (fun j v w' => match j with
    | 2 => v = .int .i64 (numB xs 4)
    | 8 => ∃ bo d, v = .slice bo (m - 16) d ∧ w'.ownsRow w1.heap.size 5 1 (.slice bo (m - 16) d) (m - 16) (u8s (midB xs))
    | 9 => ∃ bo d, v = .agg #[.int .i64 (numB xs 4), .slice bo (m - 16) d] ∧ w'.ownsRow w1.heap.size 5 1 (.slice bo (m - 16) d) (m - 16) (u8s (midB xs))
    | _ => ∃ h, v = .pointer (some ⟨h, 0, none⟩) ∧ w1.heap.size ≤ h ∧ Box w' h 39 #[.int .i64 0, .slice none 0 0])
    (fun _ w' => Chg w1 w' (fun _ => False)) (fun w w' => Chg w w' (fun _ => False)) 1 (by kernel_rfl) (by kernel_rfl) rfl ((Chg.refl w1 _).drew) (fun _ w' C => trivial) ?mono (A := ?A) ?hA ?steps ?fin
  case hA =>
    intro x
    simp only [lay, List.foldl_cons, List.foldl_nil, dstOf, List.getElem?_toArray, List.getElem?_cons_succ, List.getElem?_cons_zero, Option.bind_some, Act.put, List.setIfInBounds_toArray, List.set_cons_zero, List.set_cons_succ]
    exact rfl
  case mono =>
    intro j hj v wa wb hR hT
    simp only [List.mem_cons, List.not_mem_nil, or_false] at hj
    rcases hj with rfl | rfl | rfl | rfl
    · exact hT
    · obtain ⟨bo, d, h1, h2⟩ := hT; exact ⟨bo, d, h1, own_chg h2 hR (fun _ _ h => h)⟩
    · obtain ⟨bo, d, h1, h2⟩ := hT; exact ⟨bo, d, h1, own_chg h2 hR (fun _ _ h => h)⟩
    · obtain ⟨h, h1, h2, h3⟩ := hT; exact ⟨h, h1, h2, h3.chg hR (fun h => h)⟩
  case steps =>
    refine StepsF.cons (o := ?o2) ?h2 ?s2 ?r2
    case h2 => simp only [List.getElem?_toArray, List.getElem?_cons_succ, List.getElem?_cons_zero]; rfl
    case s2 =>
      intro x wx L hG hO hT K hK
      clear hT hO
      have hK1 := hK.out
      clear hK
      simp only [Act.put, List.setIfInBounds_toArray, List.set_cons_zero, List.set_cons_succ] at hK1
      have hK2 := Lib.hid hK1
      clear hK1
      go_simp
      refine (number_any wx ((L1.out.chg C1 (fun _ _ h => h)).chg hG (fun _ _ h => h)) (rng_cut HX.out 4 4) (by omega)).mono ?_
      rintro r w4 ⟨q, rfl, rfl⟩
      rw [HN.out]
      exact hK2.out _ _ rfl ((Chg.refl wx _).drewN q) (hG.drewN q)
    refine StepsF.cons (o := ?o8) ?h8 ?s8 ?r8
    case h8 => simp only [List.getElem?_toArray, List.getElem?_cons_succ, List.getElem?_cons_zero]; rfl
    case s8 =>
      intro x wx L hG hO hT K hK
      clear hT hO
      have hK1 := hK.out
      clear hK
      simp only [Act.put, List.setIfInBounds_toArray, List.set_cons_zero, List.set_cons_succ] at hK1
      have hK2 := Lib.hid hK1
      clear hK1
      go_simp
      refine (clone_any ((S2.out.chg C1 (fun _ _ h => h)).chg hG (fun _ _ h => h)) (by omega)).mono ?_
      rintro r w4 ⟨a4, c4, h4⟩
      obtain ⟨rfl, O4, C4⟩ := h4
      exact hK2.out _ _ ⟨_, _, rfl, own_base O4 hG.size⟩ C4 (hG.trans C4)
    refine StepsF.cons (o := ?o9) ?h9 ?s9 ?r9
    case h9 => simp only [List.getElem?_toArray, List.getElem?_cons_succ, List.getElem?_cons_zero]; rfl
    case s9 =>
      intro x wx L hG hO hT K hK
      have e2 : x 2 = .int .i64 (numB xs 4) := hT 2 (by kernel_rfl)
      obtain ⟨bo, d, e8, o8⟩ := hT 8 (by kernel_rfl)
      rw [e2, e8] at hK ⊢
      clear hT hO
      have hK1 := hK.out
      clear hK
      simp only [Act.put, List.setIfInBounds_toArray, List.set_cons_zero, List.set_cons_succ] at hK1
      have hK2 := Lib.hid hK1
      clear hK1
      go_simp
      exact hK2.out _ _ ⟨_, _, rfl, o8⟩ (Chg.refl wx _) hG
    refine StepsF.cons (o := ?o10) ?h10 ?s10 ?r10
    case h10 => simp only [List.getElem?_toArray, List.getElem?_cons_succ, List.getElem?_cons_zero]; rfl
    case s10 =>
      intro x wx L hG hO hT K hK
      clear hT hO
      have hK1 := hK.out
      clear hK
      simp only [Act.put, List.setIfInBounds_toArray, List.set_cons_zero, List.set_cons_succ] at hK1
      have hK2 := Lib.hid hK1
      clear hK1
      go_simp
      exact hK2.out _ _ ⟨_, rfl, hG.size, Box.new wx _ _⟩ ((Chg.refl wx _).alloc _) (hG.alloc _)
    exact StepsF.nil
  case fin =>
    intro x wx hT hG
    obtain ⟨bo, d, e9, o9⟩ := hT 9 (by kernel_rfl)
    obtain ⟨h, e10, hh, bx⟩ := hT 10 (by kernel_rfl)
    simp only [e9, e10]
    clear e9 e10 hT
    have hne := own_ne o9 bx (by decide)
    refine wpAnyH_ready (rs := [11]) (by kernel_rfl) (by simp) ?_
    refine AllReadyH.cons rfl (fun K hK => ?_) AllReadyH.nil
    have f0 := bx.frozen 0
    have f1 := bx.frozen 1
    have z0 := bx.cell 0
    have z1 := bx.cell 1
    have hlt := bx.lt
    go_simp
    have B2 := (bx.set 0 (.int .i64 (numB xs 4))).set 1 (.slice bo (m - 16) d)
    have C2 := ((Chg.refl wx (fun k => k = h)).setCell (p := ⟨h, 0, none⟩) (fun _ => rfl) (.int .i64 (numB xs 4))).setCell (p := ⟨h, 1, none⟩) (fun _ => rfl) (.slice bo (m - 16) d)
    have O2 := own_chg o9 C2 hne
    have G2 : Chg w1 ((wx.setCell ⟨h, 0, none⟩ (.int .i64 (numB xs 4))).setCell ⟨h, 1, none⟩ (.slice bo (m - 16) d)) (fun _ => False) := hG.trans' C2 (fun k hk e => by omega)
    obtain ⟨w2, hw2⟩ : ∃ w2, (wx.setCell ⟨h, 0, none⟩ (.int .i64 (numB xs 4))).setCell ⟨h, 1, none⟩ (.slice bo (m - 16) d) = w2 := ⟨_, rfl⟩
    rw [hw2] at B2 O2 G2 ⊢
    clear C2 hw2 hne o9 bx f0 f1 z0 z1
    change Box w2 h 39 #[.int .i64 (numB xs 4), .slice bo (m - 16) d] at B2
    have HB2 := Lib.hid B2
    have y0 := B2.cell 0
    have y1 := B2.cell 1
    refine hK.out _ _ trivial (fun _ => ?_)
    clear hK K
    try simp only [Act.put, List.setIfInBounds_toArray, List.set_cons_zero, List.set_cons_succ]
    refine wpAnyH_done (by kernel_rfl) ?_ _
    refine NoPanic.normal ?_
    clear hG hlt B2
    have hh2 : g < h := by omega
    have BG := BX.chg G2 (fun h => h)
    have OH := Lib.hid O2
    have GH := Lib.hid G2
    clear O2 G2
    go_wp2_with fail
    refine (ipack_any (numB xs 4) (m - 16) d bo (midB xs) w2 (own_src OH.out) HXM.out (by omega)).mono ?_
    rintro r w3 ⟨a3, n3, c3, rfl, C3, F3⟩
    have BG3 := Lib.hid (BG.chg C3 (fun h => h))
    have BH3 := Lib.hid (HB2.out.chg C3 (fun h => h))
    have C13 : Chg w w3 (fun _ => False) := C1.trans (GH.out.trans C3)
    have q0 := BG3.out.frozen 0
    have q1 := BG3.out.frozen 1
    have z0 := BG3.out.cell 0
    have z1 := BG3.out.cell 1
    have x0 := BH3.out.cell 0
    have x1 := BH3.out.cell 1
    have hne : h ≠ g := by omega
    have gw : w.heap.size = g := hg
    have hF : ∀ (cs : Array Value), cs.size = 2 → Chg w ((w3.setCell ⟨g, 0, none⟩ (cs.getD 0 undef)).setCell ⟨g, 1, none⟩ (cs.getD 1 undef)) (fun _ => False) := fun cs _ =>
      C13.trans' (((Chg.refl w3 (fun k => k = g)).setCell (p := ⟨g, 0, none⟩) (fun _ => rfl) _).setCell (p := ⟨g, 1, none⟩) (fun _ => rfl) _) (fun k hk e => by omega)
    have HF := Lib.hid hF
    have hs3 := C13.size
    clear hF y0 y1 BG
    by_cases hc : chkI (numB xs 4) (m - 16) = 0
    case neg =>
      have NG := Lib.hid (show ¬ goodI xs from fun hgd => hc (HG.out.1 hgd).1)
      obtain ⟨k, hk⟩ : ∃ k, chkI (numB xs 4) (m - 16) = k := ⟨_, rfl⟩
      rw [hk] at hc ⊢
      have d0 : (k != 0) = true := bne_iff_ne.2 hc
      clear hc hk F3
      go_wp2_with fail
      refine bodyPost_ret (v := .tuple #[.agg #[.int .i64 0, .slice none 0 0], .int .i64 4]) (by simp [results, Try.results23, go_sem, *]) rfl ?_
      exact ⟨0, none, 0, 0, 4, rfl, HF.out #[.int .i64 0, .slice none 0 0] rfl, fun h => absurd h NG.out, fun _ => ⟨rfl, rfl, rfl, rfl, rfl⟩⟩
    case pos =>
      obtain ⟨hn3, O3⟩ := F3 hc
      have hn4 : m = n3 := by omega
      clear hn3 F3
      subst hn4
      rw [hc]
      have HE := Lib.hid (equal_any (a2 := some ⟨b, o, none⟩) (m2 := m) (c2 := c) w3 (own_src O3) (((SX.out.chg C1 (fun _ _ h => h)).chg GH.out (fun _ _ h => h)).chg C3 (fun _ _ h => h)) (packB_rng _ _ HXM.out) HX.out)
      have OB3 := Lib.hid (own_chg OH.out C3 (fun _ _ h => h))
      have hgi := HG.out
      rw [hc] at hgi
      by_cases hp : packB (numB xs 4) (midB xs) = xs
      · have HGD := Lib.hid (show goodI xs from hgi.2 ⟨rfl, hp⟩)
        rw [decide_eq_true hp] at HE
        clear hgi hp hc O3
        go_wp2_with fail
        refine HE.out.mono ?_
        rintro r w4 ⟨rfl, rfl⟩
        go_wp2_with fail
        refine bodyPost_ret (v := .tuple #[.agg #[.int .i64 (numB xs 4), .slice bo (m - 16) d], .int .i64 0]) (by simp [results, Try.results23, go_sem, *]) rfl ?_
        refine ⟨numB xs 4, bo, m - 16, d, 0, rfl, HF.out #[.int .i64 (numB xs 4), .slice bo (m - 16) d] rfl, fun _ => ⟨rfl, rfl, rfl, ?_⟩, fun h => absurd HGD.out h⟩
        have := own_ne OB3.out BG3.out (by decide)
        exact own_base (own_chg OB3.out (((Chg.refl w3 (fun k => k = g)).setCell (p := ⟨g, 0, none⟩) (fun _ => rfl) _).setCell (p := ⟨g, 1, none⟩) (fun _ => rfl) _) this) (by omega)
      · have NG := Lib.hid (show ¬ goodI xs from fun hgd => hp (hgi.1 hgd).2)
        rw [decide_eq_false hp] at HE
        clear hgi hp hc O3
        go_wp2_with fail
        refine HE.out.mono ?_
        rintro r w4 ⟨rfl, rfl⟩
        go_wp2_with fail
        refine bodyPost_ret (v := .tuple #[.agg #[.int .i64 0, .slice none 0 0], .int .i64 4]) (by simp [results, Try.results23, go_sem, *]) rfl ?_
        exact ⟨0, none, 0, 0, 4, rfl, HF.out #[.int .i64 0, .slice none 0 0] rfl, fun h => absurd h NG.out, fun _ => ⟨rfl, rfl, rfl, rfl, rfl⟩⟩
end Go.Proofs.Ytgblnmahniphdaa

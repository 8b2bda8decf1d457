/- image.Pack. -/
import Derived.Test.YtgblnmahniphdaaImg5
import Derived.Test.YtgblnmahniphdaaInv
import Derived.Test.YtgblnmahniphdaaStay
namespace Go.Proofs.Ytgblnmahniphdaa
open Go.RowKit

set_option maxHeartbeats 1600000 in
theorem ipack_bad (e : Int) (m c : Nat) (ao : Option Addr) (w : World) (hc : ¬ chkI e m = 0) :
    Calls Try.prog 19 #[.agg #[.int .i64 e, .slice ao m c]] w fun r w' => r = .returned (.tuple #[.slice none 0 0, .int .i64 (chkI e m)]) ∧ Chg w w' (fun _ => False) := by
  obtain ⟨k, hk⟩ : ∃ k, chkI e m = k := ⟨_, rfl⟩
  have HK := Lib.hid hk
  rw [hk] at hc ⊢
  have d0 : (k != 0) = true := bne_iff_ne.2 hc
  clear hk hc
  go_enter Try.func19, Try.ntmps19
  go_wp2_with fail
  refine (icheck_any e m c ao _).mono ?_
  rintro r w1 ⟨rfl, C1⟩
  rw [HK.out]
  go_wp2_with fail
  go_ret2
  exact ⟨rfl, ((Chg.refl w _).alloc _).trans C1⟩

set_option maxHeartbeats 1600000 in
theorem ipack_ok (e : Int) (m c : Nat) (ao : Option Addr) (xs : List Int) (w : World) (hs : Src w ao m c (u8s xs) 1) (hx : ∀ x ∈ xs, 0 ≤ x ∧ x < 256) (hm : m ≤ 1048576) (hc : chkI e m = 0) :
    Calls Try.prog 19 #[.agg #[.int .i64 e, .slice ao m c]] w fun r w' => ∃ a2 c2, r = .returned (.tuple #[.slice a2 (m + 16) c2, .int .i64 0]) ∧ w'.ownsRow w.heap.size 5 1 (.slice a2 (m + 16) c2) (m + 16) (u8s (packB e xs)) ∧ Chg w w' (fun _ => False) := by
  obtain ⟨i0, hi0, hz0, hz1, hz2⟩ := info_parts info_u8i
  have HK := Lib.hid hc
  have HS := Lib.hid (hs.chg ((Chg.refl w (fun _ => False)).alloc (.cells #[.int .i64 e, .slice ao m c] 39)) (fun _ _ h => h))
  have hs0 := Lib.hid hs
  have BX := Box.new w 39 #[.int .i64 e, .slice ao m c]
  obtain ⟨g, hg⟩ : ∃ g, w.heap.size = g := ⟨_, rfl⟩
  clear hc hs
  go_enter Try.func19, Try.ntmps19
  go_wp2_with fail
  refine (icheck_any e m c ao _).mono ?_
  rintro r w1 ⟨rfl, C1⟩
  rw [HK.out]
  have B1 := BX.chg C1 (fun h => h)
  have HZ0 := Lib.hid (show w1.cell? ⟨g, 0, none⟩ = some (.int .i64 e) by rw [← hg]; exact B1.cell 0)
  have HZ1 := Lib.hid (show w1.cell? ⟨g, 1, none⟩ = some (.slice ao m c) by rw [← hg]; exact B1.cell 1)
  have hlt : g < w1.heap.size := by rw [← hg]; exact B1.lt
  go_wp2_with fail
  refine wp_region_noPanic ?_
  refine wp_region_held_drew (S := fun w' => w'.cell? ⟨g, 0, none⟩ = some (.int .i64 e) ∧ w'.cell? ⟨g, 1, none⟩ = some (.slice ao m c)) (by kernel_rfl) ⟨HZ0.out, HZ1.out⟩ (fun hHeld => ?_)
  refine wpAnyH_take (i := 2) (oi := ?oi2) (v := ?v2) ?hi2 (by kernel_rfl) (by kernel_rfl) (by kernel_rfl) (fun _ _ _ h => h) (Or.inl ⟨?hw2, ?hy2⟩) (by assumption) ?hr2
  case hi2 => simp only [List.getElem?_toArray, List.getElem?_cons_succ, List.getElem?_cons_zero]; rfl
  case hw2 => rfl
  case hy2 => intro wq hSq; (try dsimp only at hSq); go_simp; (try with_reducible rfl)
  try simp only [Act.put, List.setIfInBounds_toArray, List.set_cons_zero, List.set_cons_succ]
  refine wpAnyH_take (i := 3) (oi := ?oi3) (v := ?v3) ?hi3 (by kernel_rfl) (by kernel_rfl) (by kernel_rfl) (fun _ _ _ h => h) (Or.inl ⟨?hw3, ?hy3⟩) (by assumption) ?hr3
  case hi3 => simp only [List.getElem?_toArray, List.getElem?_cons_succ, List.getElem?_cons_zero]; rfl
  case hw3 => rfl
  case hy3 => intro wq hSq; (try dsimp only at hSq); go_simp; (try with_reducible rfl)
  try simp only [Act.put, List.setIfInBounds_toArray, List.set_cons_zero, List.set_cons_succ]
  refine wpAnyH_take (i := 5) (oi := ?oi5) (v := ?v5) ?hi5 (by kernel_rfl) (by kernel_rfl) (by kernel_rfl) (fun _ _ _ h => h) (Or.inl ⟨?hw5, ?hy5⟩) (by assumption) ?hr5
  case hi5 => simp only [List.getElem?_toArray, List.getElem?_cons_succ, List.getElem?_cons_zero]; rfl
  case hw5 => rfl
  case hy5 => intro wq hSq; (try dsimp only at hSq); go_simp; (try with_reducible rfl)
  try simp only [Act.put, List.setIfInBounds_toArray, List.set_cons_zero, List.set_cons_succ]
  refine wpAnyH_take (i := 6) (oi := ?oi6) (v := ?v6) ?hi6 (by kernel_rfl) (by kernel_rfl) (by kernel_rfl) (fun _ _ _ h => h) (Or.inl ⟨?hw6, ?hy6⟩) (by assumption) ?hr6
  case hi6 => simp only [List.getElem?_toArray, List.getElem?_cons_succ, List.getElem?_cons_zero]; rfl
  case hw6 => rfl
  case hy6 => intro wq hSq; (try dsimp only at hSq); go_simp; (try with_reducible rfl)
  try simp only [Act.put, List.setIfInBounds_toArray, List.set_cons_zero, List.set_cons_succ]
  refine wpAnyH_take (i := 7) (oi := ?oi7) (v := ?v7) ?hi7 (by kernel_rfl) (by kernel_rfl) (by kernel_rfl) (fun _ _ _ h => h) (Or.inl ⟨?hw7, ?hy7⟩) (by assumption) ?hr7
  case hi7 => simp only [List.getElem?_toArray, List.getElem?_cons_succ, List.getElem?_cons_zero]; rfl
  case hw7 => rfl
  case hy7 => intro wq hSq; (try dsimp only at hSq); go_simp; (try with_reducible rfl)
  try simp only [Act.put, List.setIfInBounds_toArray, List.set_cons_zero, List.set_cons_succ]
  refine wpAnyH_take (i := 9) (oi := ?oi9) (v := ?v9) ?hi9 (by kernel_rfl) (by kernel_rfl) (by kernel_rfl) (fun _ _ _ h => h) (Or.inl ⟨?hw9, ?hy9⟩) (by assumption) ?hr9
  case hi9 => simp only [List.getElem?_toArray, List.getElem?_cons_succ, List.getElem?_cons_zero]; rfl
  case hw9 => rfl
  case hy9 => intro wq hSq; (try dsimp only at hSq); go_simp; (try with_reducible rfl)
  try simp only [Act.put, List.setIfInBounds_toArray, List.set_cons_zero, List.set_cons_succ]
  refine wpAnyH_take (i := 10) (oi := ?oi10) (v := ?v10) ?hi10 (by kernel_rfl) (by kernel_rfl) (by kernel_rfl) (fun _ _ _ h => h) (Or.inl ⟨?hw10, ?hy10⟩) (by assumption) ?hr10
  case hi10 => simp only [List.getElem?_toArray, List.getElem?_cons_succ, List.getElem?_cons_zero]; rfl
  case hw10 => rfl
  case hy10 => intro wq hSq; (try dsimp only at hSq); go_simp; (try with_reducible rfl)
  try simp only [Act.put, List.setIfInBounds_toArray, List.set_cons_zero, List.set_cons_succ]
  refine wpAnyH_inv' [0, 1, 4, 8] 20 (fun j v w' => match j with
    | 0 => ∃ g', v = .slice (some ⟨g', 0, none⟩) 4 4 ∧ w1.heap.size ≤ g' ∧ ∃ mk, w'.heap[g']? = some (.cells #[.int .u8 84, .int .u8 82, .int .u8 85, .int .u8 49] 5 mk)
    | 1 => ∃ bo b, v = .slice bo 4 b ∧ Src w' bo 4 b (u8s [84, 82, 85, 49]) 1
    | 4 => ∃ bo b, v = .slice bo 4 b ∧ Src w' bo 4 b (u8s (fourB e)) 1
    | _ => ∃ bo b, v = .slice bo 4 b ∧ Src w' bo 4 b (u8s (fourB (m : Int))) 1)
    (fun _ w' => Chg w1 w' (fun _ => False)) Stay 5 (by kernel_rfl) (by kernel_rfl) rfl ((Chg.refl w1 _).drew) (fun _ w' C => ⟨C.cell HZ0.out (fun h => h), C.cell HZ1.out (fun h => h)⟩) ?mono (A := ?A) ?hA ?steps ?fin
  case hA =>
    intro x
    simp only [lay, List.foldl_cons, List.foldl_nil, dstOf, List.getElem?_toArray, List.getElem?_cons_succ, List.getElem?_cons_zero, Option.bind_some, Act.put, List.setIfInBounds_toArray, List.set_cons_zero, List.set_cons_succ]
    exact rfl
  case mono =>
    intro j hj v wa wb hR hT
    simp only [List.mem_cons, List.not_mem_nil, or_false] at hj
    rcases hj with rfl | rfl | rfl | rfl
    · obtain ⟨g', h1, h2, mk, h3⟩ := hT
      exact ⟨g', h1, h2, hR.row _ _ _ _ h3⟩
    · obtain ⟨bo, b, h1, h2⟩ := hT; exact ⟨bo, b, h1, h2.stay hR⟩
    · obtain ⟨bo, b, h1, h2⟩ := hT; exact ⟨bo, b, h1, h2.stay hR⟩
    · obtain ⟨bo, b, h1, h2⟩ := hT; exact ⟨bo, b, h1, h2.stay hR⟩
  case steps =>
    refine StepsF.cons (o := ?o0) ?h0 ?s0 ?r0
    case h0 => simp only [List.getElem?_toArray, List.getElem?_cons_succ, List.getElem?_cons_zero]; rfl
    case s0 =>
      intro x wx L hG hO hT K hK
      clear hT hO
      have hK1 := hK.out
      clear hK
      simp only [Act.put, List.setIfInBounds_toArray, List.set_cons_zero, List.set_cons_succ] at hK1
      have hK2 := Lib.hid hK1
      clear hK1
      go_simp
      exact hK2.out _ _ ⟨_, rfl, hG.size, (0, 0), heap_alloc_new wx _⟩ (Stay.of_chg ((Chg.refl wx _).alloc _)) (hG.alloc _)
    refine StepsF.cons (o := ?o1) ?h1 ?s1 ?r1
    case h1 => simp only [List.getElem?_toArray, List.getElem?_cons_succ, List.getElem?_cons_zero]; rfl
    case s1 =>
      intro x wx L hG hO hT K hK
      obtain ⟨g', e0, hg', mk, hrow⟩ := hT 0 (by kernel_rfl)
      rw [e0] at hK ⊢
      have cv := run_convert_row (P := Try.prog) wx 37 5 g' _ mk 4 4 Try.underlying37 Try.underlying5 hrow
      clear hT hO
      have hK1 := hK.out
      clear hK
      simp only [Act.put, List.setIfInBounds_toArray, List.set_cons_zero, List.set_cons_succ] at hK1
      have hK2 := Lib.hid hK1
      clear hK1
      go_simp
      exact hK2.out _ _ ⟨_, _, rfl, (row_src hrow 4 4 1 _ rfl rfl).stay (Stay.freeze wx _)⟩ (Stay.freeze wx _) (hG.freeze _ (fun h => Nat.lt_irrefl _ (Nat.lt_of_lt_of_le h hg')))
    refine StepsF.cons (o := ?o4) ?h4 ?s4 ?r4
    case h4 => simp only [List.getElem?_toArray, List.getElem?_cons_succ, List.getElem?_cons_zero]; rfl
    case s4 =>
      intro x wx L hG hO hT K hK
      clear hT hO
      have hK1 := hK.out
      clear hK
      simp only [Act.put, List.setIfInBounds_toArray, List.set_cons_zero, List.set_cons_succ] at hK1
      have hK2 := Lib.hid hK1
      clear hK1
      go_simp
      refine (four_any e _).mono ?_
      rintro r w4 ⟨a4, c4, rfl, O4, C4⟩
      exact hK2.out _ _ ⟨_, _, rfl, own_src O4⟩ (Stay.of_chg C4) (hG.trans C4)
    refine StepsF.cons (o := ?o8) ?h8 ?s8 ?r8
    case h8 => simp only [List.getElem?_toArray, List.getElem?_cons_succ, List.getElem?_cons_zero]; rfl
    case s8 =>
      intro x wx L hG hO hT K hK
      clear hT hO
      have hK1 := hK.out
      clear hK
      simp only [Act.put, List.setIfInBounds_toArray, List.set_cons_zero, List.set_cons_succ] at hK1
      have hK2 := Lib.hid hK1
      clear hK1
      go_simp
      refine (four_any (m : Int) _).mono ?_
      rintro r w4 ⟨a4, c4, rfl, O4, C4⟩
      exact hK2.out _ _ ⟨_, _, rfl, own_src O4⟩ (Stay.of_chg C4) (hG.trans C4)
    exact StepsF.nil
  case fin =>
    intro x wx hT hG
    obtain ⟨b1, d1, e1, s1⟩ := hT 1 (by kernel_rfl)
    obtain ⟨b4, d4, e4, s4⟩ := hT 4 (by kernel_rfl)
    obtain ⟨b8, d8, e8, s8⟩ := hT 8 (by kernel_rfl)
    simp only [e1, e4, e8]
    clear e1 e4 e8 hT
    have hl : xs.length = m := by have := hs0.out.len; simpa [u8s] using this
    have sx := ((HS.out.chg C1 (fun _ _ h => h)).chg hG (fun _ _ h => h))
    obtain ⟨l, hl4⟩ : ∃ l : List CPart, l = [⟨b1, 4, d1, [84, 82, 85, 49]⟩, ⟨b4, 4, d4, fourB e⟩, ⟨b8, 4, d8, fourB (m : Int)⟩, ⟨ao, m, c, xs⟩] := ⟨_, rfl⟩
    have hll : l.length = 4 := by rw [hl4]; rfl
    have hlc : l.flatMap cCells = [.slice b1 4 d1, .slice b4 4 d4, .slice b8 4 d8, .slice ao m c] := by rw [hl4]; rfl
    have hlt2 : totM l = m + 12 := by rw [hl4]; simp [totM]; omega
    have hlx : l.flatMap (·.xs) = headB e xs := by rw [hl4]; simp [headB, hl]
    have hls : ∀ p ∈ l, Src wx p.bo p.m p.c (u8s p.xs) 1 := by
      intro p hp
      rw [hl4] at hp
      simp only [List.mem_cons, List.not_mem_nil, or_false] at hp
      rcases hp with rfl | rfl | rfl | rfl
      · exact s1
      · exact s4
      · exact s8
      · exact sx
    have hbx := Box.new wx 37 #[.slice b1 4 d1, .slice b4 4 d4, .slice b8 4 d8, .slice ao m c]
    have CC := concat_any (ao := some ⟨wx.heap.size, 0, none⟩) (cap := 4) (l := l) (wx.alloc (.cells #[.slice b1 4 d1, .slice b4 4 d4, .slice b8 4 d8, .slice ao m c] 37)) (by rw [hll, hlc]; exact hbx.lst 4 4 1 _ rfl rfl (Nat.le_refl _) (by unfold maxLen; omega)) (fun p hp => (hls p hp).stay (Stay.of_chg ((Chg.refl wx _).alloc _))) (by omega) (by omega) (by omega)
    rw [hll, hlt2, hlx] at CC
    have HCC := Lib.hid CC
    have HR := Lib.hid (headB_rng e xs hx)
    clear CC hbx hls hlx hlt2 hlc hll hl4 sx hl hx s1 s4 s8
    refine wpAnyH_ready (rs := [11]) (by kernel_rfl) (by simp) ?_
    refine AllReadyH.cons rfl (fun K hK => ?_) AllReadyH.nil
    go_simp
    have G1 := hG.alloc (.cells #[.slice b1 4 d1, .slice b4 4 d4, .slice b8 4 d8, .slice ao m c] 37)
    refine hK.out _ _ ⟨G1.cell HZ0.out (fun h => h), G1.cell HZ1.out (fun h => h)⟩ (fun _ => ?_)
    clear hK K
    try simp only [Act.put, List.setIfInBounds_toArray, List.set_cons_zero, List.set_cons_succ]
    refine wpAnyH_ready (rs := [12]) (by kernel_rfl) (by simp) ?_
    refine AllReadyH.cons rfl (fun K hK => ?_) AllReadyH.nil
    go_simp
    refine HCC.out.mono ?_
    rintro r w4 ⟨a4, c4, rfl, O4, C4⟩
    have G2 := G1.trans C4
    refine hK.out _ _ ⟨G2.cell HZ0.out (fun h => h), G2.cell HZ1.out (fun h => h)⟩ (fun _ => ?_)
    clear hK K
    try simp only [Act.put, List.setIfInBounds_toArray, List.set_cons_zero, List.set_cons_succ]
    refine wpAnyH_ready (rs := [13]) (by kernel_rfl) (by simp) ?_
    refine AllReadyH.cons rfl (fun K hK => ?_) AllReadyH.nil
    go_simp
    have hgs : w1.heap.size ≤ (wx.alloc (.cells #[.slice b1 4 d1, .slice b4 4 d4, .slice b8 4 d8, .slice ao m c] 37)).heap.size := G1.size
    refine (summed_any (base := w1.heap.size) w4 (own_base O4 hgs) G2.size HR.out (by omega)).mono ?_
    rintro r w5 ⟨a5, c5, rfl, O5, C5⟩
    have G3 : Chg w1 w5 (fun _ => False) := G2.trans' C5 (fun k hk h => by have := (O4.lt k h).1; omega)
    refine hK.out _ _ ⟨G3.cell HZ0.out (fun h => h), G3.cell HZ1.out (fun h => h)⟩ (fun hHeld => ?_)
    clear hK K
    try simp only [Act.put, List.setIfInBounds_toArray, List.set_cons_zero, List.set_cons_succ]
    refine wpAnyH_take (i := 14) (oi := ?oiz14) (v := ?vz14) ?hiz14 (by kernel_rfl) (by kernel_rfl) (by kernel_rfl) (fun _ _ _ h => h) (Or.inl ⟨?hwz14, ?hyz14⟩) (by assumption) ?hrz14
    case hiz14 => simp only [List.getElem?_toArray, List.getElem?_cons_succ, List.getElem?_cons_zero]; rfl
    case hwz14 => rfl
    case hyz14 => intro wq hSq; (try dsimp only at hSq); go_simp; (try with_reducible rfl)
    try simp only [Act.put, List.setIfInBounds_toArray, List.set_cons_zero, List.set_cons_succ]
    refine wpAnyH_take (i := 15) (oi := ?oiz15) (v := ?vz15) ?hiz15 (by kernel_rfl) (by kernel_rfl) (by kernel_rfl) (fun _ _ _ h => h) (Or.inl ⟨?hwz15, ?hyz15⟩) (by assumption) ?hrz15
    case hiz15 => simp only [List.getElem?_toArray, List.getElem?_cons_succ, List.getElem?_cons_zero]; rfl
    case hwz15 => rfl
    case hyz15 => intro wq hSq; (try dsimp only at hSq); go_simp; (try with_reducible rfl)
    try simp only [Act.put, List.setIfInBounds_toArray, List.set_cons_zero, List.set_cons_succ]
    refine wpAnyH_done (by kernel_rfl) ?_ _
    refine NoPanic.normal ?_
    go_wp2_with fail
    go_ret2
    have hm16 : m + 12 + 4 = m + 16 := by omega
    rw [hm16] at O5 ⊢
    have KA : Chg w w1 (fun _ => False) := ((Chg.refl w _).alloc _).trans C1
    exact ⟨_, _, rfl, own_base O5 KA.size, KA.trans G3⟩
end Go.Proofs.Ytgblnmahniphdaa

/- PhysRows: bytes that are put are got again, from any place on, and a row that does not fit changes nothing. -/
import Derived.Test.YtmkhpahkcicfnaaRow
import Derived.Test.YtmkhpahkcicfnaaPhysUtil
import Derived.Deep.RegionHeld3
import Derived.BigRegion
namespace Go.Proofs.Ytmkhpahkcicfnaa
open Go.ChangeShapes Go.WideShapes Go.ChangeAt Go.RowKit

theorem conv_rule {ao : Option Addr} {m c : Nat} {xs : List Int} : ∀ w : World, Src w ao m c (u8s xs) 1 → (convert 36 9 (.slice ao m c)).run Try.prog w = .ok (.string (strOfNums xs)) w := fun w h => conv_src w h

theorem src_cut {w : World} {bb off len cap : Nat} {xs : List Int} (h : Src w (some ⟨bb, off, none⟩) len cap (u8s xs) 1) (p m c : Nat) (hp : p + m ≤ len) :
    Src w (some ⟨bb, off + p, none⟩) m c (u8s ((xs.drop p).take m)) 1 := by
  have hl : xs.length = len := by have := h.len; simpa [u8s] using this
  refine ⟨by simp [u8s]; omega, fun h => (by cases h), fun ad he j u hu => ?_⟩
  injection he with he
  subst he
  obtain ⟨hj, rfl⟩ := u8s_get hu
  have hj' : j < m := by simp at hj; omega
  have h2 := h.get _ rfl (p + j) (.int .u8 (xs.getD (p + j) 0)) (by simp [u8s, show p + j < xs.length by omega])
  rw [Addr.add_lit] at h2 ⊢
  rw [Nat.add_assoc, h2]
  simp [List.getElem?_take, hj']

theorem src_cut_if {w : World} {bb off len cap : Nat} {xs : List Int} (h : Src w (some ⟨bb, off, none⟩) len cap (u8s xs) 1) (hc : len ≤ cap) (p m : Nat) (hp : p + m ≤ len) :
    Src w (if cap = p then some ⟨bb, off, none⟩ else some ⟨bb, off + p, none⟩) m (cap - p) (u8s ((xs.drop p).take m)) 1 := by
  split
  · have hm : m = 0 := by omega
    subst hm
    have := src_cut h 0 0 (cap - p) (by omega)
    simpa using this
  · exact src_cut h p m (cap - p) hp

theorem ptV_yes (p : Nat) (xs : List Int) (h : p + xs.length ≤ 8192) : ptV 8192 (fun _ => 0) p xs = ptN (fun _ => 0) p xs := by
  unfold ptV
  rw [if_pos (show okR 8192 (p : Int) (xs.length : Int) = true from decide_eq_true (by omega))]
  rfl
theorem sl_put (xs : List Int) (p fr m : Nat) (h : p + xs.length ≤ 8192) (h2 : fr + m ≤ xs.length) : sl (ptV 8192 (fun _ => 0) p xs) (p + fr) m = (xs.drop fr).take m := by
  rw [ptV_yes p xs h]
  refine List.ext_getElem? (fun i => ?_)
  by_cases hi : i < m
  · rw [sl_get _ _ _ _ hi]
    unfold ptN
    rw [if_pos (by omega), List.getElem?_take_of_lt hi, List.getElem?_drop, show p + fr + i - p = fr + i from by omega, List.getD_eq_getElem?_getD, List.getElem?_eq_getElem (by omega)]
    rfl
  · rw [List.getElem?_eq_none (by rw [sl_length]; omega), List.getElem?_eq_none (by simp; omega)]
theorem sl_all (xs : List Int) (p : Nat) (h : p + xs.length ≤ 8192) : ((sl (ptV 8192 (fun _ => 0) p xs) 0 8192).drop p).take xs.length = xs := by
  refine List.ext_getElem? (fun i => ?_)
  by_cases hi : i < xs.length
  · rw [List.getElem?_take_of_lt hi, List.getElem?_drop, sl_get _ _ _ _ (by omega), ptV_yes p xs h]
    unfold ptN
    rw [if_pos (by omega), show 0 + (p + i) - p = i from by omega, List.getD_eq_getElem?_getD, List.getElem?_eq_getElem (by omega)]
    rfl
  · rw [List.getElem?_eq_none (by simp; omega), List.getElem?_eq_none (by omega)]

set_option maxRecDepth 100000 in
set_option maxHeartbeats 1000000 in
theorem physRows_in (p fr m bb off len cap : Nat) (xs : List Int) (w : World) (hs : Src w (some ⟨bb, off, none⟩) len cap (u8s xs) 1) (hx : ∀ x ∈ xs, 0 ≤ x ∧ x < 256) (hbb : bb < w.heap.size)
    (h1 : len ≤ 5000) (h2 : fr + m ≤ len) (h3 : p + len ≤ 8192) (hcap : len ≤ cap) :
    Calls Try.prog 7 #[.int .i64 p, .slice (some ⟨bb, off, none⟩) len cap, .int .i64 fr, .int .i64 m] w fun e w' => e = .returned (.bool true) ∧ Below w.heap.size w w' := by
  have d1 : decide ((5000 : Int) < len) = false := decide_eq_false (by omega)
  have d2 : decide ((fr : Int) < 0) = false := decide_eq_false (by omega)
  have d3 : decide ((m : Int) < 0) = false := decide_eq_false (by omega)
  have d4 : decide (len < fr) = false := decide_eq_false (by omega)
  have d5 : decide ((len : Int) - fr < m) = false := decide_eq_false (by omega)
  have d6 : decide (0 ≤ (p : Int)) = true := decide_eq_true (by omega)
  have d7 : decide ((p : Int) ≤ 8192) = true := decide_eq_true (by omega)
  have d8 : decide ((len : Int) ≤ 8192 - p) = true := decide_eq_true (by omega)
  have HS := Lib.hid hs
  have HX := Lib.hid hx
  clear hs hx
  go_enter Try.func7, Try.ntmps7
  go_wp2_with fail
  refine (alive4 _).mono ?_
  rintro e w1 ⟨rfl, B1⟩
  go_wp2_with fail
  refine (new_at 2 8192 pgN_two _).mono ?_
  rintro e w2 ⟨a, b, rfl, M2, C2, ha, hb⟩
  have hz1 := B1.size
  have B2 : Below w.heap.size w w2 := B1.trans (C2.below_of B1.size (fun _ h => h.elim))
  have HS2 : Hid (Src w2 (some ⟨bb, off, none⟩) len cap (u8s xs) 1) := HS.out.chg (Chg.of_below B2 (fun _ => False)) (fun _ _ h => h)
  clear C2 B1 HS
  go_wp2_with fail
  refine (put_any M2 p len cap _ xs HS2.out HX.out).mono ?_
  rintro e w3 ⟨he, M3, C3⟩
  have B3 : Below w.heap.size w w3 := below_chg B2 C3 B2.size (fun k h => by omega)
  rw [show okR 8192 (p : Int) (len : Int) = true from decide_eq_true (by omega)] at he
  subst he
  have HS3 : Hid (Src w3 (some ⟨bb, off, none⟩) len cap (u8s xs) 1) := HS2.out.chg C3 (fun ad he => by injection he with he; subst he; show ¬ bb = b; omega)
  clear C3 B2 HS2 M2
  have hl : xs.length = len := by have := HS3.out.len; simpa [u8s] using this
  have L1 : sl (ptV 8192 (fun _ => 0) p xs) (p + fr) m = (xs.drop fr).take m := sl_put xs p fr m (by omega) (by omega)
  have L2 : ((sl (ptV 8192 (fun _ => 0) p xs) 0 8192).drop p).take len = xs := by rw [← hl]; exact sl_all xs p (by omega)
  generalize ptV 8192 (fun _ => 0) p xs = f3 at M3 L1 L2
  have G := get_any M3 0 8192
  rw [show getN 8192 0 8192 = 8192 from rfl] at G
  have HL1 := Lib.hid L1
  have HL2 := Lib.hid L2
  clear L1 L2 hl
  go_wp2_with fail
  refine G.mono ?_
  rintro e w4 ⟨ao4, cap4, rfl, o4, C4⟩
  clear G
  obtain ⟨hcap4, hnn, hsome⟩ := own_slice o4
  obtain ⟨g4, rfl, hg4⟩ : ∃ g4, ao4 = some ⟨g4, 0, none⟩ ∧ w3.heap.size ≤ g4 := by
    cases ao4 with
    | none => have := hnn rfl; omega
    | some ad => obtain ⟨g, rfl, h⟩ := hsome ad rfl; exact ⟨g, rfl, h⟩
  clear hnn hsome
  have M4 := M3.chg C4 (fun h => h) (fun h => h)
  have B4 : Below w.heap.size w w4 := below_chg B3 C4 B3.size (fun k h => h.elim)
  have HS4 := HS3.out.chg C4 (fun _ _ h => h)
  have HA4 : Src w4 (some ⟨g4, 0, none⟩) 8192 cap4 (u8s (sl f3 0 8192)) 1 := own_src o4
  have S1 := src_cut_if HS4 hcap fr m (by omega)
  have S2 := src_cut_if HA4 hcap4 p len (by omega)
  rw [HL2.out] at S2
  have c1 := fun wx => conv_rule (ao := (if cap = fr then some ⟨bb, off, none⟩ else some ⟨bb, off + fr, none⟩)) (m := m) (c := cap - fr) (xs := (xs.drop fr).take m) wx
  have c2 := fun wx => conv_rule (ao := (if cap4 = p then some ⟨g4, 0, none⟩ else some ⟨g4, p, none⟩)) (m := len) (c := cap4 - p) (xs := xs) wx
  have c3 := fun wx => conv_rule (ao := some ⟨bb, off, none⟩) (m := len) (c := cap) (xs := xs) wx
  clear HA4
  simp only [Nat.zero_add] at S2
  have G2 : ∀ wx, Mem 61 wx a b 8192 f3 → Calls Try.prog 24 #[.pointer (some ⟨a, 0, none⟩), .int .i64 ((p : Int) + fr), .int .i64 m] wx fun e w' => ∃ ao cap, Made wx 5 1 m (u8s ((xs.drop fr).take m)) e w' ao cap := by
    intro wx hM
    have := get_any hM ((p : Int) + fr) m
    rw [show getN 8192 ((p : Int) + fr) m = m from by unfold getN; rw [show okR 8192 ((p : Int) + fr) m = true from decide_eq_true (by omega)]; rfl, show ((p : Int) + fr).toNat = p + fr from by omega, HL1.out] at this
    exact this
  have SD : Src w4.drew (if cap = fr then some ⟨bb, off, none⟩ else some ⟨bb, off + fr, none⟩) m (cap - fr) (u8s ((xs.drop fr).take m)) 1 ∧ Src w4.drew (if cap4 = p then some ⟨g4, 0, none⟩ else some ⟨g4, p, none⟩) len (cap4 - p) (u8s xs) 1 ∧ Src w4.drew (some ⟨bb, off, none⟩) len cap (u8s xs) 1 := ⟨S1.drew, S2.drew, HS4.drew⟩
  have SDH := Lib.hid SD
  have HG := Lib.hid (G2 w4.drew M4.drew)
  have B4' := B4.drew
  generalize hws : strOfNums ((xs.drop fr).take m) = str1 at c1
  generalize hws2 : strOfNums xs = str2 at c2 c3
  have HW1 := Lib.hid hws
  have HW2 := Lib.hid hws2
  clear SD S1 S2 HS4 G2 M3 M4 B3 C4 o4 HL1 HL2 HS3 HX hws hws2
  have q1 : IntKind.i64.wrap ((fr : Int) + m) = fr + m := IntWalk.i64_in _ (by omega)
  have q2 : IntKind.i64.wrap ((p : Int) + fr) = p + fr := IntWalk.i64_in _ (by omega)
  have q3 : IntKind.i64.wrap ((p : Int) + len) = p + len := IntWalk.i64_in _ (by omega)
  have q4 : (fr : Int) + m ≤ cap := by omega
  have q5 : (p : Int) + len ≤ cap4 := by omega
  have q6 : (0 : Int) ≤ (fr : Int) + m := by omega
  have q7 : (0 : Int) ≤ (p : Int) + len := by omega
  have q8 : ((fr : Int) + m).toNat = fr + m := by omega
  have q9 : ((p : Int) + len).toNat = p + len := by omega
  go_wp2_with fail
  refine wp_region_noPanic ?_
  refine wp_region_held_drew (S := fun w' => Src w' (if cap = fr then some ⟨bb, off, none⟩ else some ⟨bb, off + fr, none⟩) m (cap - fr) (u8s ((xs.drop fr).take m)) 1 ∧ Src w' (if cap4 = p then some ⟨g4, 0, none⟩ else some ⟨g4, p, none⟩) len (cap4 - p) (u8s xs) 1 ∧ Src w' (some ⟨bb, off, none⟩) len cap (u8s xs) 1) (by kernel_rfl) (SDH.out) (fun hHeld => ?_)
  refine wpAnyH_take (i := 0) (oi := ?oi0) (v := ?v0) ?hi0 (by kernel_rfl) (by kernel_rfl) (by kernel_rfl) (fun _ _ _ h => h) (Or.inl ⟨?hw0, ?hy0⟩) (by assumption) ?hr0
  case hi0 => simp only [List.getElem?_toArray, List.getElem?_cons_succ, List.getElem?_cons_zero]; rfl
  case hw0 => rfl
  case hy0 => intro wq hSq; (try dsimp only at hSq); go_simp; (try with_reducible rfl)
  try simp only [Act.put, List.setIfInBounds_toArray, List.set_cons_zero, List.set_cons_succ]
  refine wpAnyH_take (i := 1) (oi := ?oi1) (v := ?v1) ?hi1 (by kernel_rfl) (by kernel_rfl) (by kernel_rfl) (fun _ _ _ h => h) (Or.inl ⟨?hw1, ?hy1⟩) (by assumption) ?hr1
  case hi1 => simp only [List.getElem?_toArray, List.getElem?_cons_succ, List.getElem?_cons_zero]; rfl
  case hw1 => rfl
  case hy1 => intro wq hSq; (try dsimp only at hSq); go_simp; (try with_reducible rfl)
  try simp only [Act.put, List.setIfInBounds_toArray, List.set_cons_zero, List.set_cons_succ]
  refine wpAnyH_take (i := 2) (oi := ?oi2) (v := ?v2) ?hi2 (by kernel_rfl) (by kernel_rfl) (by kernel_rfl) (fun _ _ _ h => h) (Or.inl ⟨?hw2, ?hy2⟩) (by assumption) ?hr2
  case hi2 => simp only [List.getElem?_toArray, List.getElem?_cons_succ, List.getElem?_cons_zero]; rfl
  case hw2 => rfl
  case hy2 => intro wq hSq; (try dsimp only at hSq); go_simp; (try with_reducible rfl)
  try simp only [Act.put, List.setIfInBounds_toArray, List.set_cons_zero, List.set_cons_succ]
  refine wpAnyH_take (i := 3) (oi := ?oi3) (v := ?v3) ?hi3 (by kernel_rfl) (by kernel_rfl) (by kernel_rfl) (fun _ _ _ h => h) (Or.inl ⟨?hw3, ?hy3⟩) (by assumption) ?hr3
  case hi3 => simp only [List.getElem?_toArray, List.getElem?_cons_succ, List.getElem?_cons_zero]; rfl
  case hw3 => rfl
  case hy3 => intro wq hSq; (try dsimp only at hSq); go_simp; (try with_reducible rfl)
  try simp only [Act.put, List.setIfInBounds_toArray, List.set_cons_zero, List.set_cons_succ]
  refine wpAnyH_take (i := 4) (oi := ?oi4) (v := ?v4) ?hi4 (by kernel_rfl) (by kernel_rfl) (by kernel_rfl) (fun _ _ _ h => h) (Or.inl ⟨?hw4, ?hy4⟩) (by assumption) ?hr4
  case hi4 => simp only [List.getElem?_toArray, List.getElem?_cons_succ, List.getElem?_cons_zero]; rfl
  case hw4 => rfl
  case hy4 => intro wq hSq; (try dsimp only at hSq); go_simp; (try with_reducible rfl)
  try simp only [Act.put, List.setIfInBounds_toArray, List.set_cons_zero, List.set_cons_succ]
  refine wpAnyH_take (i := 7) (oi := ?oi7) (v := ?v7) ?hi7 (by kernel_rfl) (by kernel_rfl) (by kernel_rfl) (fun _ _ _ h => h) (Or.inl ⟨?hw7, ?hy7⟩) (by assumption) ?hr7
  case hi7 => simp only [List.getElem?_toArray, List.getElem?_cons_succ, List.getElem?_cons_zero]; rfl
  case hw7 => rfl
  case hy7 => intro wq hSq; (try dsimp only at hSq); go_simp; (try with_reducible rfl)
  try simp only [Act.put, List.setIfInBounds_toArray, List.set_cons_zero, List.set_cons_succ]
  refine wpAnyH_take (i := 8) (oi := ?oi8) (v := ?v8) ?hi8 (by kernel_rfl) (by kernel_rfl) (by kernel_rfl) (fun _ _ _ h => h) (Or.inl ⟨?hw8, ?hy8⟩) (by assumption) ?hr8
  case hi8 => simp only [List.getElem?_toArray, List.getElem?_cons_succ, List.getElem?_cons_zero]; rfl
  case hw8 => rfl
  case hy8 => intro wq hSq; (try dsimp only at hSq); go_simp; (try with_reducible rfl)
  try simp only [Act.put, List.setIfInBounds_toArray, List.set_cons_zero, List.set_cons_succ]
  refine wpAnyH_take (i := 9) (oi := ?oi9) (v := ?v9) ?hi9 (by kernel_rfl) (by kernel_rfl) (by kernel_rfl) (fun _ _ _ h => h) (Or.inl ⟨?hw9, ?hy9⟩) (by assumption) ?hr9
  case hi9 => simp only [List.getElem?_toArray, List.getElem?_cons_succ, List.getElem?_cons_zero]; rfl
  case hw9 => rfl
  case hy9 => intro wq hSq; (try dsimp only at hSq); go_simp; (try with_reducible rfl)
  try simp only [Act.put, List.setIfInBounds_toArray, List.set_cons_zero, List.set_cons_succ]
  refine wpAnyH_take (i := 10) (oi := ?oi10) (v := ?v10) ?hi10 (by kernel_rfl) (by kernel_rfl) (by kernel_rfl) (fun _ _ _ h => h) (Or.inl ⟨?hw10, ?hy10⟩) (by assumption) ?hr10
  case hi10 => simp only [List.getElem?_toArray, List.getElem?_cons_succ, List.getElem?_cons_zero]; rfl
  case hw10 => rfl
  case hy10 => intro wq hSq; (try dsimp only at hSq); go_simp; (try with_reducible rfl)
  try simp only [Act.put, List.setIfInBounds_toArray, List.set_cons_zero, List.set_cons_succ]
  refine wpAnyH_take (i := 11) (oi := ?oi11) (v := ?v11) ?hi11 (by kernel_rfl) (by kernel_rfl) (by kernel_rfl) (fun _ _ _ h => h) (Or.inl ⟨?hw11, ?hy11⟩) (by assumption) ?hr11
  case hi11 => simp only [List.getElem?_toArray, List.getElem?_cons_succ, List.getElem?_cons_zero]; rfl
  case hw11 => rfl
  case hy11 => intro wq hSq; (try dsimp only at hSq); go_simp; (try with_reducible rfl)
  try simp only [Act.put, List.setIfInBounds_toArray, List.set_cons_zero, List.set_cons_succ]
  refine wpAnyH_take (i := 12) (oi := ?oi12) (v := ?v12) ?hi12 (by kernel_rfl) (by kernel_rfl) (by kernel_rfl) (fun _ _ _ h => h) (Or.inl ⟨?hw12, ?hy12⟩) (by assumption) ?hr12
  case hi12 => simp only [List.getElem?_toArray, List.getElem?_cons_succ, List.getElem?_cons_zero]; rfl
  case hw12 => rfl
  case hy12 => intro wq hSq; (try dsimp only at hSq); go_simp; (try with_reducible rfl)
  try simp only [Act.put, List.setIfInBounds_toArray, List.set_cons_zero, List.set_cons_succ]
  refine wpAnyH_take (i := 13) (oi := ?oi13) (v := ?v13) ?hi13 (by kernel_rfl) (by kernel_rfl) (by kernel_rfl) (fun _ _ _ h => h) (Or.inl ⟨?hw13, ?hy13⟩) (by assumption) ?hr13
  case hi13 => simp only [List.getElem?_toArray, List.getElem?_cons_succ, List.getElem?_cons_zero]; rfl
  case hw13 => rfl
  case hy13 => intro wq hSq; (try dsimp only at hSq); go_simp; (try with_reducible rfl)
  try simp only [Act.put, List.setIfInBounds_toArray, List.set_cons_zero, List.set_cons_succ]
  refine wpAnyH_ready (rs := [5]) (by kernel_rfl) (by simp) ?_
  refine AllReadyH.cons rfl (fun K hK => ?_) AllReadyH.nil
  go_simp
  refine HG.out.mono ?_
  rintro e w5 ⟨ao5, cap5, rfl, o5, C5⟩
  have c5 := fun wx => conv_rule (ao := ao5) (m := m) (c := cap5) (xs := (xs.drop fr).take m) wx
  rw [HW1.out] at c5
  have hHeld2 : (fun w' => (Src w' (if cap = fr then some ⟨bb, off, none⟩ else some ⟨bb, off + fr, none⟩) m (cap - fr) (u8s ((xs.drop fr).take m)) 1 ∧ Src w' (if cap4 = p then some ⟨g4, 0, none⟩ else some ⟨g4, p, none⟩) len (cap4 - p) (u8s xs) 1 ∧ Src w' (some ⟨bb, off, none⟩) len cap (u8s xs) 1) ∧ Src w' ao5 m cap5 (u8s ((xs.drop fr).take m)) 1) _ := ⟨⟨SDH.out.1.chg C5 (fun _ _ h => h), SDH.out.2.1.chg C5 (fun _ _ h => h), SDH.out.2.2.chg C5 (fun _ _ h => h)⟩, own_src o5⟩
  refine hK.out _ _ hHeld2.1 (fun _ => wpAnyH_mono (S2 := fun w' => (Src w' (if cap = fr then some ⟨bb, off, none⟩ else some ⟨bb, off + fr, none⟩) m (cap - fr) (u8s ((xs.drop fr).take m)) 1 ∧ Src w' (if cap4 = p then some ⟨g4, 0, none⟩ else some ⟨g4, p, none⟩) len (cap4 - p) (u8s xs) 1 ∧ Src w' (some ⟨bb, off, none⟩) len cap (u8s xs) 1) ∧ Src w' ao5 m cap5 (u8s ((xs.drop fr).take m)) 1) (fun _ h => h.1) _ _ _ _ ?_)
  clear hK K hHeld
  try simp only [Act.put, List.setIfInBounds_toArray, List.set_cons_zero, List.set_cons_succ]
  refine wpAnyH_take (i := 6) (oi := ?oi6) (v := ?v6) ?hi6 (by kernel_rfl) (by kernel_rfl) (by kernel_rfl) (fun _ _ _ h => h) (Or.inl ⟨?hw6, ?hy6⟩) (by assumption) ?hr6
  case hi6 => simp only [List.getElem?_toArray, List.getElem?_cons_succ, List.getElem?_cons_zero]; rfl
  case hw6 => rfl
  case hy6 => intro wq hSq; (try dsimp only at hSq); go_simp; (try with_reducible rfl)
  try simp only [Act.put, List.setIfInBounds_toArray, List.set_cons_zero, List.set_cons_succ]
  refine wpAnyH_take (i := 14) (oi := ?oi14) (v := ?v14) ?hi14 (by kernel_rfl) (by kernel_rfl) (by kernel_rfl) (fun _ _ _ h => h) (Or.inl ⟨?hw14, ?hy14⟩) (by assumption) ?hr14
  case hi14 => simp only [List.getElem?_toArray, List.getElem?_cons_succ, List.getElem?_cons_zero]; rfl
  case hw14 => rfl
  case hy14 => intro wq hSq; (try dsimp only at hSq); go_simp; (try with_reducible rfl)
  try simp only [Act.put, List.setIfInBounds_toArray, List.set_cons_zero, List.set_cons_succ]
  refine wpAnyH_take (i := 15) (oi := ?oi15) (v := ?v15) ?hi15 (by kernel_rfl) (by kernel_rfl) (by kernel_rfl) (fun _ _ _ h => h) (Or.inl ⟨?hw15, ?hy15⟩) (by assumption) ?hr15
  case hi15 => simp only [List.getElem?_toArray, List.getElem?_cons_succ, List.getElem?_cons_zero]; rfl
  case hw15 => rfl
  case hy15 => intro wq hSq; (try dsimp only at hSq); go_simp; (try with_reducible rfl)
  try simp only [Act.put, List.setIfInBounds_toArray, List.set_cons_zero, List.set_cons_succ]
  refine wpAnyH_take (i := 16) (oi := ?oi16) (v := ?v16) ?hi16 (by kernel_rfl) (by kernel_rfl) (by kernel_rfl) (fun _ _ _ h => h) (Or.inl ⟨?hw16, ?hy16⟩) (by assumption) ?hr16
  case hi16 => simp only [List.getElem?_toArray, List.getElem?_cons_succ, List.getElem?_cons_zero]; rfl
  case hw16 => rfl
  case hy16 => intro wq hSq; (try dsimp only at hSq); go_simp; (try with_reducible rfl)
  try simp only [Act.put, List.setIfInBounds_toArray, List.set_cons_zero, List.set_cons_succ]
  refine wpAnyH_take (i := 17) (oi := ?oi17) (v := ?v17) ?hi17 (by kernel_rfl) (by kernel_rfl) (by kernel_rfl) (fun _ _ _ h => h) (Or.inl ⟨?hw17, ?hy17⟩) (by assumption) ?hr17
  case hi17 => simp only [List.getElem?_toArray, List.getElem?_cons_succ, List.getElem?_cons_zero]; rfl
  case hw17 => rfl
  case hy17 => intro wq hSq; (try dsimp only at hSq); go_simp; (try with_reducible rfl)
  try simp only [Act.put, List.setIfInBounds_toArray, List.set_cons_zero, List.set_cons_succ]
  refine wpAnyH_take (i := 18) (oi := ?oi18) (v := ?v18) ?hi18 (by kernel_rfl) (by kernel_rfl) (by kernel_rfl) (fun _ _ _ h => h) (Or.inl ⟨?hw18, ?hy18⟩) (by assumption) ?hr18
  case hi18 => simp only [List.getElem?_toArray, List.getElem?_cons_succ, List.getElem?_cons_zero]; rfl
  case hw18 => rfl
  case hy18 => intro wq hSq; (try dsimp only at hSq); go_simp; (try with_reducible rfl)
  try simp only [Act.put, List.setIfInBounds_toArray, List.set_cons_zero, List.set_cons_succ]
  refine wpAnyH_take (i := 19) (oi := ?oi19) (v := ?v19) ?hi19 (by kernel_rfl) (by kernel_rfl) (by kernel_rfl) (fun _ _ _ h => h) (Or.inl ⟨?hw19, ?hy19⟩) (by assumption) ?hr19
  case hi19 => simp only [List.getElem?_toArray, List.getElem?_cons_succ, List.getElem?_cons_zero]; rfl
  case hw19 => rfl
  case hy19 => intro wq hSq; (try dsimp only at hSq); go_simp; (try with_reducible rfl)
  try simp only [Act.put, List.setIfInBounds_toArray, List.set_cons_zero, List.set_cons_succ]
  refine wpAnyH_take (i := 20) (oi := ?oi20) (v := ?v20) ?hi20 (by kernel_rfl) (by kernel_rfl) (by kernel_rfl) (fun _ _ _ h => h) (Or.inl ⟨?hw20, ?hy20⟩) (by assumption) ?hr20
  case hi20 => simp only [List.getElem?_toArray, List.getElem?_cons_succ, List.getElem?_cons_zero]; rfl
  case hw20 => rfl
  case hy20 => intro wq hSq; (try dsimp only at hSq); go_simp; (try with_reducible rfl)
  try simp only [Act.put, List.setIfInBounds_toArray, List.set_cons_zero, List.set_cons_succ]
  refine wpAnyH_take (i := 21) (oi := ?oi21) (v := ?v21) ?hi21 (by kernel_rfl) (by kernel_rfl) (by kernel_rfl) (fun _ _ _ h => h) (Or.inl ⟨?hw21, ?hy21⟩) (by assumption) ?hr21
  case hi21 => simp only [List.getElem?_toArray, List.getElem?_cons_succ, List.getElem?_cons_zero]; rfl
  case hw21 => rfl
  case hy21 => intro wq hSq; (try dsimp only at hSq); go_simp; (try with_reducible rfl)
  try simp only [Act.put, List.setIfInBounds_toArray, List.set_cons_zero, List.set_cons_succ]
  refine wpAnyH_take (i := 22) (oi := ?oi22) (v := ?v22) ?hi22 (by kernel_rfl) (by kernel_rfl) (by kernel_rfl) (fun _ _ _ h => h) (Or.inl ⟨?hw22, ?hy22⟩) (by assumption) ?hr22
  case hi22 => simp only [List.getElem?_toArray, List.getElem?_cons_succ, List.getElem?_cons_zero]; rfl
  case hw22 => rfl
  case hy22 => intro wq hSq; (try dsimp only at hSq); go_simp; (try with_reducible rfl)
  try simp only [Act.put, List.setIfInBounds_toArray, List.set_cons_zero, List.set_cons_succ]
  refine wpAnyH_take (i := 23) (oi := ?oi23) (v := ?v23) ?hi23 (by kernel_rfl) (by kernel_rfl) (by kernel_rfl) (fun _ _ _ h => h) (Or.inl ⟨?hw23, ?hy23⟩) (by assumption) ?hr23
  case hi23 => simp only [List.getElem?_toArray, List.getElem?_cons_succ, List.getElem?_cons_zero]; rfl
  case hw23 => rfl
  case hy23 => intro wq hSq; (try dsimp only at hSq); go_simp; (try with_reducible rfl)
  try simp only [Act.put, List.setIfInBounds_toArray, List.set_cons_zero, List.set_cons_succ]
  refine wpAnyH_take (i := 24) (oi := ?oi24) (v := ?v24) ?hi24 (by kernel_rfl) (by kernel_rfl) (by kernel_rfl) (fun _ _ _ h => h) (Or.inl ⟨?hw24, ?hy24⟩) (by assumption) ?hr24
  case hi24 => simp only [List.getElem?_toArray, List.getElem?_cons_succ, List.getElem?_cons_zero]; rfl
  case hw24 => rfl
  case hy24 => intro wq hSq; (try dsimp only at hSq); go_simp; (try with_reducible rfl)
  try simp only [Act.put, List.setIfInBounds_toArray, List.set_cons_zero, List.set_cons_succ]
  refine wpAnyH_take (i := 25) (oi := ?oi25) (v := ?v25) ?hi25 (by kernel_rfl) (by kernel_rfl) (by kernel_rfl) (fun _ _ _ h => h) (Or.inl ⟨?hw25, ?hy25⟩) (by assumption) ?hr25
  case hi25 => simp only [List.getElem?_toArray, List.getElem?_cons_succ, List.getElem?_cons_zero]; rfl
  case hw25 => rfl
  case hy25 => intro wq hSq; (try dsimp only at hSq); go_simp; (try with_reducible rfl)
  try simp only [Act.put, List.setIfInBounds_toArray, List.set_cons_zero, List.set_cons_succ]
  refine wpAnyH_take (i := 26) (oi := ?oi26) (v := ?v26) ?hi26 (by kernel_rfl) (by kernel_rfl) (by kernel_rfl) (fun _ _ _ h => h) (Or.inl ⟨?hw26, ?hy26⟩) (by assumption) ?hr26
  case hi26 => simp only [List.getElem?_toArray, List.getElem?_cons_succ, List.getElem?_cons_zero]; rfl
  case hw26 => rfl
  case hy26 => intro wq hSq; (try dsimp only at hSq); go_simp; (try with_reducible rfl)
  try simp only [Act.put, List.setIfInBounds_toArray, List.set_cons_zero, List.set_cons_succ]
  refine wpAnyH_take (i := 27) (oi := ?oi27) (v := ?v27) ?hi27 (by kernel_rfl) (by kernel_rfl) (by kernel_rfl) (fun _ _ _ h => h) (Or.inl ⟨?hw27, ?hy27⟩) (by assumption) ?hr27
  case hi27 => simp only [List.getElem?_toArray, List.getElem?_cons_succ, List.getElem?_cons_zero]; rfl
  case hw27 => rfl
  case hy27 => intro wq hSq; (try dsimp only at hSq); go_simp; (try with_reducible rfl)
  try simp only [Act.put, List.setIfInBounds_toArray, List.set_cons_zero, List.set_cons_succ]
  refine wpAnyH_take (i := 28) (oi := ?oi28) (v := ?v28) ?hi28 (by kernel_rfl) (by kernel_rfl) (by kernel_rfl) (fun _ _ _ h => h) (Or.inl ⟨?hw28, ?hy28⟩) (by assumption) ?hr28
  case hi28 => simp only [List.getElem?_toArray, List.getElem?_cons_succ, List.getElem?_cons_zero]; rfl
  case hw28 => rfl
  case hy28 => intro wq hSq; (try dsimp only at hSq); go_simp; (try with_reducible rfl)
  try simp only [Act.put, List.setIfInBounds_toArray, List.set_cons_zero, List.set_cons_succ]
  refine wpAnyH_done (by kernel_rfl) ?_ _
  refine NoPanic.normal ?_
  go_wp2_with fail
  all_goals
    go_ret
    exact ⟨rfl, below_chg B4' C5 B4'.size (fun k h => h.elim)⟩

set_option maxRecDepth 100000 in
set_option maxHeartbeats 1000000 in
theorem physRows_nil (p : Nat) (w : World) (h3 : p ≤ 8192) :
    Calls Try.prog 7 #[.int .i64 p, .slice none 0 0, .int .i64 0, .int .i64 0] w fun e w' => e = .returned (.bool true) ∧ Below w.heap.size w w' := by
  have d6 : decide (0 ≤ (p : Int)) = true := decide_eq_true (by omega)
  have d7 : decide ((p : Int) ≤ 8192) = true := decide_eq_true (by omega)
  have d8 : decide ((0 : Int) ≤ 8192 - p) = true := decide_eq_true (by omega)
  go_enter Try.func7, Try.ntmps7
  go_wp2_with fail
  refine (alive4 _).mono ?_
  rintro e w1 ⟨rfl, B1⟩
  go_wp2_with fail
  refine (new_at 2 8192 pgN_two _).mono ?_
  rintro e w2 ⟨a, b, rfl, M2, C2, ha, hb⟩
  have hz1 := B1.size
  have B2 : Below w.heap.size w w2 := B1.trans (C2.below_of B1.size (fun _ h => h.elim))
  have HS2 : Hid (Src w2 none 0 0 (u8s []) 1) := ⟨rfl, fun _ => ⟨rfl, rfl⟩, fun ad h => (by cases h)⟩
  clear C2 B1
  go_wp2_with fail
  refine (put_any M2 p 0 0 _ [] HS2.out (by simp)).mono ?_
  rintro e w3 ⟨he, M3, C3⟩
  have B3 : Below w.heap.size w w3 := below_chg B2 C3 B2.size (fun k h => by omega)
  rw [show okR 8192 (p : Int) (0 : Nat) = true from decide_eq_true (by omega)] at he
  subst he
  have HS3 : Hid (Src w3 none 0 0 (u8s []) 1) := ⟨rfl, fun _ => ⟨rfl, rfl⟩, fun ad h => (by cases h)⟩
  clear C3 B2 HS2 M2
  have L1 : sl (ptV 8192 (fun _ => 0) p []) (p + 0) 0 = [] := rfl
  have L2 : ((sl (ptV 8192 (fun _ => 0) p []) 0 8192).drop p).take 0 = [] := by simp
  generalize ptV 8192 (fun _ => 0) p [] = f3 at M3 L1 L2
  have G := get_any M3 0 8192
  rw [show getN 8192 0 8192 = 8192 from rfl] at G
  have HL1 := Lib.hid L1
  have HL2 := Lib.hid L2
  clear L1 L2
  go_wp2_with fail
  refine G.mono ?_
  rintro e w4 ⟨ao4, cap4, rfl, o4, C4⟩
  clear G
  obtain ⟨hcap4, hnn, hsome⟩ := own_slice o4
  obtain ⟨g4, rfl, hg4⟩ : ∃ g4, ao4 = some ⟨g4, 0, none⟩ ∧ w3.heap.size ≤ g4 := by
    cases ao4 with
    | none => have := hnn rfl; omega
    | some ad => obtain ⟨g, rfl, h⟩ := hsome ad rfl; exact ⟨g, rfl, h⟩
  clear hnn hsome
  have M4 := M3.chg C4 (fun h => h) (fun h => h)
  have B4 : Below w.heap.size w w4 := below_chg B3 C4 B3.size (fun k h => h.elim)
  have HS4 := HS3.out.chg C4 (fun _ _ h => h)
  have HA4 : Src w4 (some ⟨g4, 0, none⟩) 8192 cap4 (u8s (sl f3 0 8192)) 1 := own_src o4
  have S1 := HS4
  have S2 := src_cut_if HA4 hcap4 p 0 (by omega)
  rw [HL2.out] at S2
  have c1 := fun wx => conv_rule (ao := none) (m := 0) (c := 0) (xs := []) wx
  have c2 := fun wx => conv_rule (ao := (if cap4 = p then some ⟨g4, 0, none⟩ else some ⟨g4, p, none⟩)) (m := 0) (c := cap4 - p) (xs := []) wx
  have c3 := fun wx => conv_rule (ao := none) (m := 0) (c := 0) (xs := []) wx
  clear HA4
  simp only [Nat.zero_add] at S2
  have G2 : ∀ wx, Mem 61 wx a b 8192 f3 → Calls Try.prog 24 #[.pointer (some ⟨a, 0, none⟩), .int .i64 (p : Int), .int .i64 0] wx fun e w' => ∃ ao cap, Made wx 5 1 0 (u8s []) e w' ao cap := by
    intro wx hM
    have := get_any hM (p : Int) 0
    rw [show getN 8192 (p : Int) 0 = 0 from by unfold getN; rw [show okR 8192 (p : Int) 0 = true from decide_eq_true (by omega)]; rfl, show (p : Int).toNat = p + 0 from by omega, HL1.out] at this
    exact this
  have SD : Src w4.drew none 0 0 (u8s []) 1 ∧ Src w4.drew (if cap4 = p then some ⟨g4, 0, none⟩ else some ⟨g4, p, none⟩) 0 (cap4 - p) (u8s []) 1 ∧ Src w4.drew none 0 0 (u8s []) 1 := ⟨S1.drew, S2.drew, HS4.drew⟩
  have SDH := Lib.hid SD
  have HG := Lib.hid (G2 w4.drew M4.drew)
  have B4' := B4.drew
  generalize hws : strOfNums [] = str1 at c1 c2 c3
  have HW1 := Lib.hid hws
  clear SD S1 S2 HS4 G2 M3 M4 B3 C4 o4 HL1 HL2 HS3 hws
  have q5 : (p : Int) ≤ cap4 := by omega
  have q0 : IntKind.i64.wrap 0 = 0 := IntWalk.i64_in _ (by omega)
  have q3 : IntKind.i64.wrap (p : Int) = p := IntWalk.i64_in _ (by omega)
  go_wp2_with fail
  refine wp_region_noPanic ?_
  refine wp_region_held_drew (S := fun w' => Src w' none 0 0 (u8s []) 1 ∧ Src w' (if cap4 = p then some ⟨g4, 0, none⟩ else some ⟨g4, p, none⟩) 0 (cap4 - p) (u8s []) 1 ∧ Src w' none 0 0 (u8s []) 1) (by kernel_rfl) (SDH.out) (fun hHeld => ?_)
  refine wpAnyH_take (i := 0) (oi := ?oi0) (v := ?v0) ?hi0 (by kernel_rfl) (by kernel_rfl) (by kernel_rfl) (fun _ _ _ h => h) (Or.inl ⟨?hw0, ?hy0⟩) (by assumption) ?hr0
  case hi0 => simp only [List.getElem?_toArray, List.getElem?_cons_succ, List.getElem?_cons_zero]; rfl
  case hw0 => rfl
  case hy0 => intro wq hSq; (try dsimp only at hSq); go_simp; (try with_reducible rfl)
  try simp only [Act.put, List.setIfInBounds_toArray, List.set_cons_zero, List.set_cons_succ]
  refine wpAnyH_take (i := 1) (oi := ?oi1) (v := ?v1) ?hi1 (by kernel_rfl) (by kernel_rfl) (by kernel_rfl) (fun _ _ _ h => h) (Or.inl ⟨?hw1, ?hy1⟩) (by assumption) ?hr1
  case hi1 => simp only [List.getElem?_toArray, List.getElem?_cons_succ, List.getElem?_cons_zero]; rfl
  case hw1 => rfl
  case hy1 => intro wq hSq; (try dsimp only at hSq); go_simp; (try with_reducible rfl)
  try simp only [Act.put, List.setIfInBounds_toArray, List.set_cons_zero, List.set_cons_succ]
  refine wpAnyH_take (i := 2) (oi := ?oi2) (v := ?v2) ?hi2 (by kernel_rfl) (by kernel_rfl) (by kernel_rfl) (fun _ _ _ h => h) (Or.inl ⟨?hw2, ?hy2⟩) (by assumption) ?hr2
  case hi2 => simp only [List.getElem?_toArray, List.getElem?_cons_succ, List.getElem?_cons_zero]; rfl
  case hw2 => rfl
  case hy2 => intro wq hSq; (try dsimp only at hSq); go_simp; (try with_reducible rfl)
  try simp only [Act.put, List.setIfInBounds_toArray, List.set_cons_zero, List.set_cons_succ]
  refine wpAnyH_take (i := 3) (oi := ?oi3) (v := ?v3) ?hi3 (by kernel_rfl) (by kernel_rfl) (by kernel_rfl) (fun _ _ _ h => h) (Or.inl ⟨?hw3, ?hy3⟩) (by assumption) ?hr3
  case hi3 => simp only [List.getElem?_toArray, List.getElem?_cons_succ, List.getElem?_cons_zero]; rfl
  case hw3 => rfl
  case hy3 => intro wq hSq; (try dsimp only at hSq); go_simp; (try with_reducible rfl)
  try simp only [Act.put, List.setIfInBounds_toArray, List.set_cons_zero, List.set_cons_succ]
  refine wpAnyH_take (i := 4) (oi := ?oi4) (v := ?v4) ?hi4 (by kernel_rfl) (by kernel_rfl) (by kernel_rfl) (fun _ _ _ h => h) (Or.inl ⟨?hw4, ?hy4⟩) (by assumption) ?hr4
  case hi4 => simp only [List.getElem?_toArray, List.getElem?_cons_succ, List.getElem?_cons_zero]; rfl
  case hw4 => rfl
  case hy4 => intro wq hSq; (try dsimp only at hSq); go_simp; (try with_reducible rfl)
  try simp only [Act.put, List.setIfInBounds_toArray, List.set_cons_zero, List.set_cons_succ]
  refine wpAnyH_take (i := 7) (oi := ?oi7) (v := ?v7) ?hi7 (by kernel_rfl) (by kernel_rfl) (by kernel_rfl) (fun _ _ _ h => h) (Or.inl ⟨?hw7, ?hy7⟩) (by assumption) ?hr7
  case hi7 => simp only [List.getElem?_toArray, List.getElem?_cons_succ, List.getElem?_cons_zero]; rfl
  case hw7 => rfl
  case hy7 => intro wq hSq; (try dsimp only at hSq); go_simp; (try with_reducible rfl)
  try simp only [Act.put, List.setIfInBounds_toArray, List.set_cons_zero, List.set_cons_succ]
  refine wpAnyH_take (i := 8) (oi := ?oi8) (v := ?v8) ?hi8 (by kernel_rfl) (by kernel_rfl) (by kernel_rfl) (fun _ _ _ h => h) (Or.inl ⟨?hw8, ?hy8⟩) (by assumption) ?hr8
  case hi8 => simp only [List.getElem?_toArray, List.getElem?_cons_succ, List.getElem?_cons_zero]; rfl
  case hw8 => rfl
  case hy8 => intro wq hSq; (try dsimp only at hSq); go_simp; (try with_reducible rfl)
  try simp only [Act.put, List.setIfInBounds_toArray, List.set_cons_zero, List.set_cons_succ]
  refine wpAnyH_take (i := 9) (oi := ?oi9) (v := ?v9) ?hi9 (by kernel_rfl) (by kernel_rfl) (by kernel_rfl) (fun _ _ _ h => h) (Or.inl ⟨?hw9, ?hy9⟩) (by assumption) ?hr9
  case hi9 => simp only [List.getElem?_toArray, List.getElem?_cons_succ, List.getElem?_cons_zero]; rfl
  case hw9 => rfl
  case hy9 => intro wq hSq; (try dsimp only at hSq); go_simp; (try with_reducible rfl)
  try simp only [Act.put, List.setIfInBounds_toArray, List.set_cons_zero, List.set_cons_succ]
  refine wpAnyH_take (i := 10) (oi := ?oi10) (v := ?v10) ?hi10 (by kernel_rfl) (by kernel_rfl) (by kernel_rfl) (fun _ _ _ h => h) (Or.inl ⟨?hw10, ?hy10⟩) (by assumption) ?hr10
  case hi10 => simp only [List.getElem?_toArray, List.getElem?_cons_succ, List.getElem?_cons_zero]; rfl
  case hw10 => rfl
  case hy10 => intro wq hSq; (try dsimp only at hSq); go_simp; (try with_reducible rfl)
  try simp only [Act.put, List.setIfInBounds_toArray, List.set_cons_zero, List.set_cons_succ]
  refine wpAnyH_take (i := 11) (oi := ?oi11) (v := ?v11) ?hi11 (by kernel_rfl) (by kernel_rfl) (by kernel_rfl) (fun _ _ _ h => h) (Or.inl ⟨?hw11, ?hy11⟩) (by assumption) ?hr11
  case hi11 => simp only [List.getElem?_toArray, List.getElem?_cons_succ, List.getElem?_cons_zero]; rfl
  case hw11 => rfl
  case hy11 => intro wq hSq; (try dsimp only at hSq); go_simp; (try with_reducible rfl)
  try simp only [Act.put, List.setIfInBounds_toArray, List.set_cons_zero, List.set_cons_succ]
  refine wpAnyH_take (i := 12) (oi := ?oi12) (v := ?v12) ?hi12 (by kernel_rfl) (by kernel_rfl) (by kernel_rfl) (fun _ _ _ h => h) (Or.inl ⟨?hw12, ?hy12⟩) (by assumption) ?hr12
  case hi12 => simp only [List.getElem?_toArray, List.getElem?_cons_succ, List.getElem?_cons_zero]; rfl
  case hw12 => rfl
  case hy12 => intro wq hSq; (try dsimp only at hSq); go_simp; (try with_reducible rfl)
  try simp only [Act.put, List.setIfInBounds_toArray, List.set_cons_zero, List.set_cons_succ]
  refine wpAnyH_take (i := 13) (oi := ?oi13) (v := ?v13) ?hi13 (by kernel_rfl) (by kernel_rfl) (by kernel_rfl) (fun _ _ _ h => h) (Or.inl ⟨?hw13, ?hy13⟩) (by assumption) ?hr13
  case hi13 => simp only [List.getElem?_toArray, List.getElem?_cons_succ, List.getElem?_cons_zero]; rfl
  case hw13 => rfl
  case hy13 => intro wq hSq; (try dsimp only at hSq); go_simp; (try with_reducible rfl)
  try simp only [Act.put, List.setIfInBounds_toArray, List.set_cons_zero, List.set_cons_succ]
  refine wpAnyH_ready (rs := [5]) (by kernel_rfl) (by simp) ?_
  refine AllReadyH.cons rfl (fun K hK => ?_) AllReadyH.nil
  go_simp
  refine HG.out.mono ?_
  rintro e w5 ⟨ao5, cap5, rfl, o5, C5⟩
  have c5 := fun wx => conv_rule (ao := ao5) (m := 0) (c := cap5) (xs := []) wx
  rw [HW1.out] at c5
  have hHeld2 : (fun w' => (Src w' none 0 0 (u8s []) 1 ∧ Src w' (if cap4 = p then some ⟨g4, 0, none⟩ else some ⟨g4, p, none⟩) 0 (cap4 - p) (u8s []) 1 ∧ Src w' none 0 0 (u8s []) 1) ∧ Src w' ao5 0 cap5 (u8s []) 1) _ := ⟨⟨SDH.out.1.chg C5 (fun _ _ h => h), SDH.out.2.1.chg C5 (fun _ _ h => h), SDH.out.2.2.chg C5 (fun _ _ h => h)⟩, own_src o5⟩
  refine hK.out _ _ hHeld2.1 (fun _ => wpAnyH_mono (S2 := fun w' => (Src w' none 0 0 (u8s []) 1 ∧ Src w' (if cap4 = p then some ⟨g4, 0, none⟩ else some ⟨g4, p, none⟩) 0 (cap4 - p) (u8s []) 1 ∧ Src w' none 0 0 (u8s []) 1) ∧ Src w' ao5 0 cap5 (u8s []) 1) (fun _ h => h.1) _ _ _ _ ?_)
  clear hK K hHeld
  try simp only [Act.put, List.setIfInBounds_toArray, List.set_cons_zero, List.set_cons_succ]
  refine wpAnyH_take (i := 6) (oi := ?oi6) (v := ?v6) ?hi6 (by kernel_rfl) (by kernel_rfl) (by kernel_rfl) (fun _ _ _ h => h) (Or.inl ⟨?hw6, ?hy6⟩) (by assumption) ?hr6
  case hi6 => simp only [List.getElem?_toArray, List.getElem?_cons_succ, List.getElem?_cons_zero]; rfl
  case hw6 => rfl
  case hy6 => intro wq hSq; (try dsimp only at hSq); go_simp; (try with_reducible rfl)
  try simp only [Act.put, List.setIfInBounds_toArray, List.set_cons_zero, List.set_cons_succ]
  refine wpAnyH_take (i := 14) (oi := ?oi14) (v := ?v14) ?hi14 (by kernel_rfl) (by kernel_rfl) (by kernel_rfl) (fun _ _ _ h => h) (Or.inl ⟨?hw14, ?hy14⟩) (by assumption) ?hr14
  case hi14 => simp only [List.getElem?_toArray, List.getElem?_cons_succ, List.getElem?_cons_zero]; rfl
  case hw14 => rfl
  case hy14 => intro wq hSq; (try dsimp only at hSq); go_simp; (try with_reducible rfl)
  try simp only [Act.put, List.setIfInBounds_toArray, List.set_cons_zero, List.set_cons_succ]
  refine wpAnyH_take (i := 15) (oi := ?oi15) (v := ?v15) ?hi15 (by kernel_rfl) (by kernel_rfl) (by kernel_rfl) (fun _ _ _ h => h) (Or.inl ⟨?hw15, ?hy15⟩) (by assumption) ?hr15
  case hi15 => simp only [List.getElem?_toArray, List.getElem?_cons_succ, List.getElem?_cons_zero]; rfl
  case hw15 => rfl
  case hy15 => intro wq hSq; (try dsimp only at hSq); go_simp; (try with_reducible rfl)
  try simp only [Act.put, List.setIfInBounds_toArray, List.set_cons_zero, List.set_cons_succ]
  refine wpAnyH_take (i := 16) (oi := ?oi16) (v := ?v16) ?hi16 (by kernel_rfl) (by kernel_rfl) (by kernel_rfl) (fun _ _ _ h => h) (Or.inl ⟨?hw16, ?hy16⟩) (by assumption) ?hr16
  case hi16 => simp only [List.getElem?_toArray, List.getElem?_cons_succ, List.getElem?_cons_zero]; rfl
  case hw16 => rfl
  case hy16 => intro wq hSq; (try dsimp only at hSq); go_simp; (try with_reducible rfl)
  try simp only [Act.put, List.setIfInBounds_toArray, List.set_cons_zero, List.set_cons_succ]
  refine wpAnyH_take (i := 17) (oi := ?oi17) (v := ?v17) ?hi17 (by kernel_rfl) (by kernel_rfl) (by kernel_rfl) (fun _ _ _ h => h) (Or.inl ⟨?hw17, ?hy17⟩) (by assumption) ?hr17
  case hi17 => simp only [List.getElem?_toArray, List.getElem?_cons_succ, List.getElem?_cons_zero]; rfl
  case hw17 => rfl
  case hy17 => intro wq hSq; (try dsimp only at hSq); go_simp; (try with_reducible rfl)
  try simp only [Act.put, List.setIfInBounds_toArray, List.set_cons_zero, List.set_cons_succ]
  refine wpAnyH_take (i := 18) (oi := ?oi18) (v := ?v18) ?hi18 (by kernel_rfl) (by kernel_rfl) (by kernel_rfl) (fun _ _ _ h => h) (Or.inl ⟨?hw18, ?hy18⟩) (by assumption) ?hr18
  case hi18 => simp only [List.getElem?_toArray, List.getElem?_cons_succ, List.getElem?_cons_zero]; rfl
  case hw18 => rfl
  case hy18 => intro wq hSq; (try dsimp only at hSq); go_simp; (try with_reducible rfl)
  try simp only [Act.put, List.setIfInBounds_toArray, List.set_cons_zero, List.set_cons_succ]
  refine wpAnyH_take (i := 19) (oi := ?oi19) (v := ?v19) ?hi19 (by kernel_rfl) (by kernel_rfl) (by kernel_rfl) (fun _ _ _ h => h) (Or.inl ⟨?hw19, ?hy19⟩) (by assumption) ?hr19
  case hi19 => simp only [List.getElem?_toArray, List.getElem?_cons_succ, List.getElem?_cons_zero]; rfl
  case hw19 => rfl
  case hy19 => intro wq hSq; (try dsimp only at hSq); go_simp; (try with_reducible rfl)
  try simp only [Act.put, List.setIfInBounds_toArray, List.set_cons_zero, List.set_cons_succ]
  refine wpAnyH_take (i := 20) (oi := ?oi20) (v := ?v20) ?hi20 (by kernel_rfl) (by kernel_rfl) (by kernel_rfl) (fun _ _ _ h => h) (Or.inl ⟨?hw20, ?hy20⟩) (by assumption) ?hr20
  case hi20 => simp only [List.getElem?_toArray, List.getElem?_cons_succ, List.getElem?_cons_zero]; rfl
  case hw20 => rfl
  case hy20 => intro wq hSq; (try dsimp only at hSq); go_simp; (try with_reducible rfl)
  try simp only [Act.put, List.setIfInBounds_toArray, List.set_cons_zero, List.set_cons_succ]
  refine wpAnyH_take (i := 21) (oi := ?oi21) (v := ?v21) ?hi21 (by kernel_rfl) (by kernel_rfl) (by kernel_rfl) (fun _ _ _ h => h) (Or.inl ⟨?hw21, ?hy21⟩) (by assumption) ?hr21
  case hi21 => simp only [List.getElem?_toArray, List.getElem?_cons_succ, List.getElem?_cons_zero]; rfl
  case hw21 => rfl
  case hy21 => intro wq hSq; (try dsimp only at hSq); go_simp; (try with_reducible rfl)
  try simp only [Act.put, List.setIfInBounds_toArray, List.set_cons_zero, List.set_cons_succ]
  refine wpAnyH_take (i := 22) (oi := ?oi22) (v := ?v22) ?hi22 (by kernel_rfl) (by kernel_rfl) (by kernel_rfl) (fun _ _ _ h => h) (Or.inl ⟨?hw22, ?hy22⟩) (by assumption) ?hr22
  case hi22 => simp only [List.getElem?_toArray, List.getElem?_cons_succ, List.getElem?_cons_zero]; rfl
  case hw22 => rfl
  case hy22 => intro wq hSq; (try dsimp only at hSq); go_simp; (try with_reducible rfl)
  try simp only [Act.put, List.setIfInBounds_toArray, List.set_cons_zero, List.set_cons_succ]
  refine wpAnyH_take (i := 23) (oi := ?oi23) (v := ?v23) ?hi23 (by kernel_rfl) (by kernel_rfl) (by kernel_rfl) (fun _ _ _ h => h) (Or.inl ⟨?hw23, ?hy23⟩) (by assumption) ?hr23
  case hi23 => simp only [List.getElem?_toArray, List.getElem?_cons_succ, List.getElem?_cons_zero]; rfl
  case hw23 => rfl
  case hy23 => intro wq hSq; (try dsimp only at hSq); go_simp; (try with_reducible rfl)
  try simp only [Act.put, List.setIfInBounds_toArray, List.set_cons_zero, List.set_cons_succ]
  refine wpAnyH_take (i := 24) (oi := ?oi24) (v := ?v24) ?hi24 (by kernel_rfl) (by kernel_rfl) (by kernel_rfl) (fun _ _ _ h => h) (Or.inl ⟨?hw24, ?hy24⟩) (by assumption) ?hr24
  case hi24 => simp only [List.getElem?_toArray, List.getElem?_cons_succ, List.getElem?_cons_zero]; rfl
  case hw24 => rfl
  case hy24 => intro wq hSq; (try dsimp only at hSq); go_simp; (try with_reducible rfl)
  try simp only [Act.put, List.setIfInBounds_toArray, List.set_cons_zero, List.set_cons_succ]
  refine wpAnyH_take (i := 25) (oi := ?oi25) (v := ?v25) ?hi25 (by kernel_rfl) (by kernel_rfl) (by kernel_rfl) (fun _ _ _ h => h) (Or.inl ⟨?hw25, ?hy25⟩) (by assumption) ?hr25
  case hi25 => simp only [List.getElem?_toArray, List.getElem?_cons_succ, List.getElem?_cons_zero]; rfl
  case hw25 => rfl
  case hy25 => intro wq hSq; (try dsimp only at hSq); go_simp; (try with_reducible rfl)
  try simp only [Act.put, List.setIfInBounds_toArray, List.set_cons_zero, List.set_cons_succ]
  refine wpAnyH_take (i := 26) (oi := ?oi26) (v := ?v26) ?hi26 (by kernel_rfl) (by kernel_rfl) (by kernel_rfl) (fun _ _ _ h => h) (Or.inl ⟨?hw26, ?hy26⟩) (by assumption) ?hr26
  case hi26 => simp only [List.getElem?_toArray, List.getElem?_cons_succ, List.getElem?_cons_zero]; rfl
  case hw26 => rfl
  case hy26 => intro wq hSq; (try dsimp only at hSq); go_simp; (try with_reducible rfl)
  try simp only [Act.put, List.setIfInBounds_toArray, List.set_cons_zero, List.set_cons_succ]
  refine wpAnyH_take (i := 27) (oi := ?oi27) (v := ?v27) ?hi27 (by kernel_rfl) (by kernel_rfl) (by kernel_rfl) (fun _ _ _ h => h) (Or.inl ⟨?hw27, ?hy27⟩) (by assumption) ?hr27
  case hi27 => simp only [List.getElem?_toArray, List.getElem?_cons_succ, List.getElem?_cons_zero]; rfl
  case hw27 => rfl
  case hy27 => intro wq hSq; (try dsimp only at hSq); go_simp; (try with_reducible rfl)
  try simp only [Act.put, List.setIfInBounds_toArray, List.set_cons_zero, List.set_cons_succ]
  refine wpAnyH_take (i := 28) (oi := ?oi28) (v := ?v28) ?hi28 (by kernel_rfl) (by kernel_rfl) (by kernel_rfl) (fun _ _ _ h => h) (Or.inl ⟨?hw28, ?hy28⟩) (by assumption) ?hr28
  case hi28 => simp only [List.getElem?_toArray, List.getElem?_cons_succ, List.getElem?_cons_zero]; rfl
  case hw28 => rfl
  case hy28 => intro wq hSq; (try dsimp only at hSq); go_simp; (try with_reducible rfl)
  try simp only [Act.put, List.setIfInBounds_toArray, List.set_cons_zero, List.set_cons_succ]
  refine wpAnyH_done (by kernel_rfl) ?_ _
  refine NoPanic.normal ?_
  go_wp2_with fail
  all_goals
    go_ret
    exact ⟨rfl, below_chg B4' C5 B4'.size (fun k h => h.elim)⟩

set_option maxRecDepth 100000 in
set_option maxHeartbeats 1000000 in
theorem physRows_emp (p : Nat) (ad : Addr) (w : World) (h3 : p ≤ 8192) :
    Calls Try.prog 7 #[.int .i64 p, .slice (some ad) 0 0, .int .i64 0, .int .i64 0] w fun e w' => e = .returned (.bool true) ∧ Below w.heap.size w w' := by
  have d6 : decide (0 ≤ (p : Int)) = true := decide_eq_true (by omega)
  have d7 : decide ((p : Int) ≤ 8192) = true := decide_eq_true (by omega)
  have d8 : decide ((0 : Int) ≤ 8192 - p) = true := decide_eq_true (by omega)
  go_enter Try.func7, Try.ntmps7
  go_wp2_with fail
  refine (alive4 _).mono ?_
  rintro e w1 ⟨rfl, B1⟩
  go_wp2_with fail
  refine (new_at 2 8192 pgN_two _).mono ?_
  rintro e w2 ⟨a, b, rfl, M2, C2, ha, hb⟩
  have hz1 := B1.size
  have B2 : Below w.heap.size w w2 := B1.trans (C2.below_of B1.size (fun _ h => h.elim))
  have HS2 : Hid (Src w2 (some ad) 0 0 (u8s []) 1) := ⟨rfl, fun h => (by cases h), fun _ _ j u hu => (by simp [u8s] at hu)⟩
  clear C2 B1
  go_wp2_with fail
  refine (put_any M2 p 0 0 _ [] HS2.out (by simp)).mono ?_
  rintro e w3 ⟨he, M3, C3⟩
  have B3 : Below w.heap.size w w3 := below_chg B2 C3 B2.size (fun k h => by omega)
  rw [show okR 8192 (p : Int) (0 : Nat) = true from decide_eq_true (by omega)] at he
  subst he
  have HS3 : Hid (Src w3 (some ad) 0 0 (u8s []) 1) := ⟨rfl, fun h => (by cases h), fun _ _ j u hu => (by simp [u8s] at hu)⟩
  clear C3 B2 HS2 M2
  have L1 : sl (ptV 8192 (fun _ => 0) p []) (p + 0) 0 = [] := rfl
  have L2 : ((sl (ptV 8192 (fun _ => 0) p []) 0 8192).drop p).take 0 = [] := by simp
  generalize ptV 8192 (fun _ => 0) p [] = f3 at M3 L1 L2
  have G := get_any M3 0 8192
  rw [show getN 8192 0 8192 = 8192 from rfl] at G
  have HL1 := Lib.hid L1
  have HL2 := Lib.hid L2
  clear L1 L2
  go_wp2_with fail
  refine G.mono ?_
  rintro e w4 ⟨ao4, cap4, rfl, o4, C4⟩
  clear G
  obtain ⟨hcap4, hnn, hsome⟩ := own_slice o4
  obtain ⟨g4, rfl, hg4⟩ : ∃ g4, ao4 = some ⟨g4, 0, none⟩ ∧ w3.heap.size ≤ g4 := by
    cases ao4 with
    | none => have := hnn rfl; omega
    | some ad => obtain ⟨g, rfl, h⟩ := hsome ad rfl; exact ⟨g, rfl, h⟩
  clear hnn hsome
  have M4 := M3.chg C4 (fun h => h) (fun h => h)
  have B4 : Below w.heap.size w w4 := below_chg B3 C4 B3.size (fun k h => h.elim)
  have HS4 := HS3.out.chg C4 (fun _ _ h => h)
  have HA4 : Src w4 (some ⟨g4, 0, none⟩) 8192 cap4 (u8s (sl f3 0 8192)) 1 := own_src o4
  have S1 := HS4
  have S2 := src_cut_if HA4 hcap4 p 0 (by omega)
  rw [HL2.out] at S2
  have c1 := fun wx => conv_rule (ao := some ad) (m := 0) (c := 0) (xs := []) wx
  have c2 := fun wx => conv_rule (ao := (if cap4 = p then some ⟨g4, 0, none⟩ else some ⟨g4, p, none⟩)) (m := 0) (c := cap4 - p) (xs := []) wx
  have c3 := fun wx => conv_rule (ao := some ad) (m := 0) (c := 0) (xs := []) wx
  clear HA4
  simp only [Nat.zero_add] at S2
  have G2 : ∀ wx, Mem 61 wx a b 8192 f3 → Calls Try.prog 24 #[.pointer (some ⟨a, 0, none⟩), .int .i64 (p : Int), .int .i64 0] wx fun e w' => ∃ ao cap, Made wx 5 1 0 (u8s []) e w' ao cap := by
    intro wx hM
    have := get_any hM (p : Int) 0
    rw [show getN 8192 (p : Int) 0 = 0 from by unfold getN; rw [show okR 8192 (p : Int) 0 = true from decide_eq_true (by omega)]; rfl, show (p : Int).toNat = p + 0 from by omega, HL1.out] at this
    exact this
  have SD : Src w4.drew (some ad) 0 0 (u8s []) 1 ∧ Src w4.drew (if cap4 = p then some ⟨g4, 0, none⟩ else some ⟨g4, p, none⟩) 0 (cap4 - p) (u8s []) 1 ∧ Src w4.drew (some ad) 0 0 (u8s []) 1 := ⟨S1.drew, S2.drew, HS4.drew⟩
  have SDH := Lib.hid SD
  have HG := Lib.hid (G2 w4.drew M4.drew)
  have B4' := B4.drew
  generalize hws : strOfNums [] = str1 at c1 c2 c3
  have HW1 := Lib.hid hws
  clear SD S1 S2 HS4 G2 M3 M4 B3 C4 o4 HL1 HL2 HS3 hws
  have q5 : (p : Int) ≤ cap4 := by omega
  have q0 : IntKind.i64.wrap 0 = 0 := IntWalk.i64_in _ (by omega)
  have q3 : IntKind.i64.wrap (p : Int) = p := IntWalk.i64_in _ (by omega)
  go_wp2_with fail
  refine wp_region_noPanic ?_
  refine wp_region_held_drew (S := fun w' => Src w' (some ad) 0 0 (u8s []) 1 ∧ Src w' (if cap4 = p then some ⟨g4, 0, none⟩ else some ⟨g4, p, none⟩) 0 (cap4 - p) (u8s []) 1 ∧ Src w' (some ad) 0 0 (u8s []) 1) (by kernel_rfl) (SDH.out) (fun hHeld => ?_)
  refine wpAnyH_take (i := 0) (oi := ?oi0) (v := ?v0) ?hi0 (by kernel_rfl) (by kernel_rfl) (by kernel_rfl) (fun _ _ _ h => h) (Or.inl ⟨?hw0, ?hy0⟩) (by assumption) ?hr0
  case hi0 => simp only [List.getElem?_toArray, List.getElem?_cons_succ, List.getElem?_cons_zero]; rfl
  case hw0 => rfl
  case hy0 => intro wq hSq; (try dsimp only at hSq); go_simp; (try with_reducible rfl)
  try simp only [Act.put, List.setIfInBounds_toArray, List.set_cons_zero, List.set_cons_succ]
  refine wpAnyH_take (i := 1) (oi := ?oi1) (v := ?v1) ?hi1 (by kernel_rfl) (by kernel_rfl) (by kernel_rfl) (fun _ _ _ h => h) (Or.inl ⟨?hw1, ?hy1⟩) (by assumption) ?hr1
  case hi1 => simp only [List.getElem?_toArray, List.getElem?_cons_succ, List.getElem?_cons_zero]; rfl
  case hw1 => rfl
  case hy1 => intro wq hSq; (try dsimp only at hSq); go_simp; (try with_reducible rfl)
  try simp only [Act.put, List.setIfInBounds_toArray, List.set_cons_zero, List.set_cons_succ]
  refine wpAnyH_take (i := 2) (oi := ?oi2) (v := ?v2) ?hi2 (by kernel_rfl) (by kernel_rfl) (by kernel_rfl) (fun _ _ _ h => h) (Or.inl ⟨?hw2, ?hy2⟩) (by assumption) ?hr2
  case hi2 => simp only [List.getElem?_toArray, List.getElem?_cons_succ, List.getElem?_cons_zero]; rfl
  case hw2 => rfl
  case hy2 => intro wq hSq; (try dsimp only at hSq); go_simp; (try with_reducible rfl)
  try simp only [Act.put, List.setIfInBounds_toArray, List.set_cons_zero, List.set_cons_succ]
  refine wpAnyH_take (i := 3) (oi := ?oi3) (v := ?v3) ?hi3 (by kernel_rfl) (by kernel_rfl) (by kernel_rfl) (fun _ _ _ h => h) (Or.inl ⟨?hw3, ?hy3⟩) (by assumption) ?hr3
  case hi3 => simp only [List.getElem?_toArray, List.getElem?_cons_succ, List.getElem?_cons_zero]; rfl
  case hw3 => rfl
  case hy3 => intro wq hSq; (try dsimp only at hSq); go_simp; (try with_reducible rfl)
  try simp only [Act.put, List.setIfInBounds_toArray, List.set_cons_zero, List.set_cons_succ]
  refine wpAnyH_take (i := 4) (oi := ?oi4) (v := ?v4) ?hi4 (by kernel_rfl) (by kernel_rfl) (by kernel_rfl) (fun _ _ _ h => h) (Or.inl ⟨?hw4, ?hy4⟩) (by assumption) ?hr4
  case hi4 => simp only [List.getElem?_toArray, List.getElem?_cons_succ, List.getElem?_cons_zero]; rfl
  case hw4 => rfl
  case hy4 => intro wq hSq; (try dsimp only at hSq); go_simp; (try with_reducible rfl)
  try simp only [Act.put, List.setIfInBounds_toArray, List.set_cons_zero, List.set_cons_succ]
  refine wpAnyH_take (i := 7) (oi := ?oi7) (v := ?v7) ?hi7 (by kernel_rfl) (by kernel_rfl) (by kernel_rfl) (fun _ _ _ h => h) (Or.inl ⟨?hw7, ?hy7⟩) (by assumption) ?hr7
  case hi7 => simp only [List.getElem?_toArray, List.getElem?_cons_succ, List.getElem?_cons_zero]; rfl
  case hw7 => rfl
  case hy7 => intro wq hSq; (try dsimp only at hSq); go_simp; (try with_reducible rfl)
  try simp only [Act.put, List.setIfInBounds_toArray, List.set_cons_zero, List.set_cons_succ]
  refine wpAnyH_take (i := 8) (oi := ?oi8) (v := ?v8) ?hi8 (by kernel_rfl) (by kernel_rfl) (by kernel_rfl) (fun _ _ _ h => h) (Or.inl ⟨?hw8, ?hy8⟩) (by assumption) ?hr8
  case hi8 => simp only [List.getElem?_toArray, List.getElem?_cons_succ, List.getElem?_cons_zero]; rfl
  case hw8 => rfl
  case hy8 => intro wq hSq; (try dsimp only at hSq); go_simp; (try with_reducible rfl)
  try simp only [Act.put, List.setIfInBounds_toArray, List.set_cons_zero, List.set_cons_succ]
  refine wpAnyH_take (i := 9) (oi := ?oi9) (v := ?v9) ?hi9 (by kernel_rfl) (by kernel_rfl) (by kernel_rfl) (fun _ _ _ h => h) (Or.inl ⟨?hw9, ?hy9⟩) (by assumption) ?hr9
  case hi9 => simp only [List.getElem?_toArray, List.getElem?_cons_succ, List.getElem?_cons_zero]; rfl
  case hw9 => rfl
  case hy9 => intro wq hSq; (try dsimp only at hSq); go_simp; (try with_reducible rfl)
  try simp only [Act.put, List.setIfInBounds_toArray, List.set_cons_zero, List.set_cons_succ]
  refine wpAnyH_take (i := 10) (oi := ?oi10) (v := ?v10) ?hi10 (by kernel_rfl) (by kernel_rfl) (by kernel_rfl) (fun _ _ _ h => h) (Or.inl ⟨?hw10, ?hy10⟩) (by assumption) ?hr10
  case hi10 => simp only [List.getElem?_toArray, List.getElem?_cons_succ, List.getElem?_cons_zero]; rfl
  case hw10 => rfl
  case hy10 => intro wq hSq; (try dsimp only at hSq); go_simp; (try with_reducible rfl)
  try simp only [Act.put, List.setIfInBounds_toArray, List.set_cons_zero, List.set_cons_succ]
  refine wpAnyH_take (i := 11) (oi := ?oi11) (v := ?v11) ?hi11 (by kernel_rfl) (by kernel_rfl) (by kernel_rfl) (fun _ _ _ h => h) (Or.inl ⟨?hw11, ?hy11⟩) (by assumption) ?hr11
  case hi11 => simp only [List.getElem?_toArray, List.getElem?_cons_succ, List.getElem?_cons_zero]; rfl
  case hw11 => rfl
  case hy11 => intro wq hSq; (try dsimp only at hSq); go_simp; (try with_reducible rfl)
  try simp only [Act.put, List.setIfInBounds_toArray, List.set_cons_zero, List.set_cons_succ]
  refine wpAnyH_take (i := 12) (oi := ?oi12) (v := ?v12) ?hi12 (by kernel_rfl) (by kernel_rfl) (by kernel_rfl) (fun _ _ _ h => h) (Or.inl ⟨?hw12, ?hy12⟩) (by assumption) ?hr12
  case hi12 => simp only [List.getElem?_toArray, List.getElem?_cons_succ, List.getElem?_cons_zero]; rfl
  case hw12 => rfl
  case hy12 => intro wq hSq; (try dsimp only at hSq); go_simp; (try with_reducible rfl)
  try simp only [Act.put, List.setIfInBounds_toArray, List.set_cons_zero, List.set_cons_succ]
  refine wpAnyH_take (i := 13) (oi := ?oi13) (v := ?v13) ?hi13 (by kernel_rfl) (by kernel_rfl) (by kernel_rfl) (fun _ _ _ h => h) (Or.inl ⟨?hw13, ?hy13⟩) (by assumption) ?hr13
  case hi13 => simp only [List.getElem?_toArray, List.getElem?_cons_succ, List.getElem?_cons_zero]; rfl
  case hw13 => rfl
  case hy13 => intro wq hSq; (try dsimp only at hSq); go_simp; (try with_reducible rfl)
  try simp only [Act.put, List.setIfInBounds_toArray, List.set_cons_zero, List.set_cons_succ]
  refine wpAnyH_ready (rs := [5]) (by kernel_rfl) (by simp) ?_
  refine AllReadyH.cons rfl (fun K hK => ?_) AllReadyH.nil
  go_simp
  refine HG.out.mono ?_
  rintro e w5 ⟨ao5, cap5, rfl, o5, C5⟩
  have c5 := fun wx => conv_rule (ao := ao5) (m := 0) (c := cap5) (xs := []) wx
  rw [HW1.out] at c5
  have hHeld2 : (fun w' => (Src w' (some ad) 0 0 (u8s []) 1 ∧ Src w' (if cap4 = p then some ⟨g4, 0, none⟩ else some ⟨g4, p, none⟩) 0 (cap4 - p) (u8s []) 1 ∧ Src w' (some ad) 0 0 (u8s []) 1) ∧ Src w' ao5 0 cap5 (u8s []) 1) _ := ⟨⟨SDH.out.1.chg C5 (fun _ _ h => h), SDH.out.2.1.chg C5 (fun _ _ h => h), SDH.out.2.2.chg C5 (fun _ _ h => h)⟩, own_src o5⟩
  refine hK.out _ _ hHeld2.1 (fun _ => wpAnyH_mono (S2 := fun w' => (Src w' (some ad) 0 0 (u8s []) 1 ∧ Src w' (if cap4 = p then some ⟨g4, 0, none⟩ else some ⟨g4, p, none⟩) 0 (cap4 - p) (u8s []) 1 ∧ Src w' (some ad) 0 0 (u8s []) 1) ∧ Src w' ao5 0 cap5 (u8s []) 1) (fun _ h => h.1) _ _ _ _ ?_)
  clear hK K hHeld
  try simp only [Act.put, List.setIfInBounds_toArray, List.set_cons_zero, List.set_cons_succ]
  refine wpAnyH_take (i := 6) (oi := ?oi6) (v := ?v6) ?hi6 (by kernel_rfl) (by kernel_rfl) (by kernel_rfl) (fun _ _ _ h => h) (Or.inl ⟨?hw6, ?hy6⟩) (by assumption) ?hr6
  case hi6 => simp only [List.getElem?_toArray, List.getElem?_cons_succ, List.getElem?_cons_zero]; rfl
  case hw6 => rfl
  case hy6 => intro wq hSq; (try dsimp only at hSq); go_simp; (try with_reducible rfl)
  try simp only [Act.put, List.setIfInBounds_toArray, List.set_cons_zero, List.set_cons_succ]
  refine wpAnyH_take (i := 14) (oi := ?oi14) (v := ?v14) ?hi14 (by kernel_rfl) (by kernel_rfl) (by kernel_rfl) (fun _ _ _ h => h) (Or.inl ⟨?hw14, ?hy14⟩) (by assumption) ?hr14
  case hi14 => simp only [List.getElem?_toArray, List.getElem?_cons_succ, List.getElem?_cons_zero]; rfl
  case hw14 => rfl
  case hy14 => intro wq hSq; (try dsimp only at hSq); go_simp; (try with_reducible rfl)
  try simp only [Act.put, List.setIfInBounds_toArray, List.set_cons_zero, List.set_cons_succ]
  refine wpAnyH_take (i := 15) (oi := ?oi15) (v := ?v15) ?hi15 (by kernel_rfl) (by kernel_rfl) (by kernel_rfl) (fun _ _ _ h => h) (Or.inl ⟨?hw15, ?hy15⟩) (by assumption) ?hr15
  case hi15 => simp only [List.getElem?_toArray, List.getElem?_cons_succ, List.getElem?_cons_zero]; rfl
  case hw15 => rfl
  case hy15 => intro wq hSq; (try dsimp only at hSq); go_simp; (try with_reducible rfl)
  try simp only [Act.put, List.setIfInBounds_toArray, List.set_cons_zero, List.set_cons_succ]
  refine wpAnyH_take (i := 16) (oi := ?oi16) (v := ?v16) ?hi16 (by kernel_rfl) (by kernel_rfl) (by kernel_rfl) (fun _ _ _ h => h) (Or.inl ⟨?hw16, ?hy16⟩) (by assumption) ?hr16
  case hi16 => simp only [List.getElem?_toArray, List.getElem?_cons_succ, List.getElem?_cons_zero]; rfl
  case hw16 => rfl
  case hy16 => intro wq hSq; (try dsimp only at hSq); go_simp; (try with_reducible rfl)
  try simp only [Act.put, List.setIfInBounds_toArray, List.set_cons_zero, List.set_cons_succ]
  refine wpAnyH_take (i := 17) (oi := ?oi17) (v := ?v17) ?hi17 (by kernel_rfl) (by kernel_rfl) (by kernel_rfl) (fun _ _ _ h => h) (Or.inl ⟨?hw17, ?hy17⟩) (by assumption) ?hr17
  case hi17 => simp only [List.getElem?_toArray, List.getElem?_cons_succ, List.getElem?_cons_zero]; rfl
  case hw17 => rfl
  case hy17 => intro wq hSq; (try dsimp only at hSq); go_simp; (try with_reducible rfl)
  try simp only [Act.put, List.setIfInBounds_toArray, List.set_cons_zero, List.set_cons_succ]
  refine wpAnyH_take (i := 18) (oi := ?oi18) (v := ?v18) ?hi18 (by kernel_rfl) (by kernel_rfl) (by kernel_rfl) (fun _ _ _ h => h) (Or.inl ⟨?hw18, ?hy18⟩) (by assumption) ?hr18
  case hi18 => simp only [List.getElem?_toArray, List.getElem?_cons_succ, List.getElem?_cons_zero]; rfl
  case hw18 => rfl
  case hy18 => intro wq hSq; (try dsimp only at hSq); go_simp; (try with_reducible rfl)
  try simp only [Act.put, List.setIfInBounds_toArray, List.set_cons_zero, List.set_cons_succ]
  refine wpAnyH_take (i := 19) (oi := ?oi19) (v := ?v19) ?hi19 (by kernel_rfl) (by kernel_rfl) (by kernel_rfl) (fun _ _ _ h => h) (Or.inl ⟨?hw19, ?hy19⟩) (by assumption) ?hr19
  case hi19 => simp only [List.getElem?_toArray, List.getElem?_cons_succ, List.getElem?_cons_zero]; rfl
  case hw19 => rfl
  case hy19 => intro wq hSq; (try dsimp only at hSq); go_simp; (try with_reducible rfl)
  try simp only [Act.put, List.setIfInBounds_toArray, List.set_cons_zero, List.set_cons_succ]
  refine wpAnyH_take (i := 20) (oi := ?oi20) (v := ?v20) ?hi20 (by kernel_rfl) (by kernel_rfl) (by kernel_rfl) (fun _ _ _ h => h) (Or.inl ⟨?hw20, ?hy20⟩) (by assumption) ?hr20
  case hi20 => simp only [List.getElem?_toArray, List.getElem?_cons_succ, List.getElem?_cons_zero]; rfl
  case hw20 => rfl
  case hy20 => intro wq hSq; (try dsimp only at hSq); go_simp; (try with_reducible rfl)
  try simp only [Act.put, List.setIfInBounds_toArray, List.set_cons_zero, List.set_cons_succ]
  refine wpAnyH_take (i := 21) (oi := ?oi21) (v := ?v21) ?hi21 (by kernel_rfl) (by kernel_rfl) (by kernel_rfl) (fun _ _ _ h => h) (Or.inl ⟨?hw21, ?hy21⟩) (by assumption) ?hr21
  case hi21 => simp only [List.getElem?_toArray, List.getElem?_cons_succ, List.getElem?_cons_zero]; rfl
  case hw21 => rfl
  case hy21 => intro wq hSq; (try dsimp only at hSq); go_simp; (try with_reducible rfl)
  try simp only [Act.put, List.setIfInBounds_toArray, List.set_cons_zero, List.set_cons_succ]
  refine wpAnyH_take (i := 22) (oi := ?oi22) (v := ?v22) ?hi22 (by kernel_rfl) (by kernel_rfl) (by kernel_rfl) (fun _ _ _ h => h) (Or.inl ⟨?hw22, ?hy22⟩) (by assumption) ?hr22
  case hi22 => simp only [List.getElem?_toArray, List.getElem?_cons_succ, List.getElem?_cons_zero]; rfl
  case hw22 => rfl
  case hy22 => intro wq hSq; (try dsimp only at hSq); go_simp; (try with_reducible rfl)
  try simp only [Act.put, List.setIfInBounds_toArray, List.set_cons_zero, List.set_cons_succ]
  refine wpAnyH_take (i := 23) (oi := ?oi23) (v := ?v23) ?hi23 (by kernel_rfl) (by kernel_rfl) (by kernel_rfl) (fun _ _ _ h => h) (Or.inl ⟨?hw23, ?hy23⟩) (by assumption) ?hr23
  case hi23 => simp only [List.getElem?_toArray, List.getElem?_cons_succ, List.getElem?_cons_zero]; rfl
  case hw23 => rfl
  case hy23 => intro wq hSq; (try dsimp only at hSq); go_simp; (try with_reducible rfl)
  try simp only [Act.put, List.setIfInBounds_toArray, List.set_cons_zero, List.set_cons_succ]
  refine wpAnyH_take (i := 24) (oi := ?oi24) (v := ?v24) ?hi24 (by kernel_rfl) (by kernel_rfl) (by kernel_rfl) (fun _ _ _ h => h) (Or.inl ⟨?hw24, ?hy24⟩) (by assumption) ?hr24
  case hi24 => simp only [List.getElem?_toArray, List.getElem?_cons_succ, List.getElem?_cons_zero]; rfl
  case hw24 => rfl
  case hy24 => intro wq hSq; (try dsimp only at hSq); go_simp; (try with_reducible rfl)
  try simp only [Act.put, List.setIfInBounds_toArray, List.set_cons_zero, List.set_cons_succ]
  refine wpAnyH_take (i := 25) (oi := ?oi25) (v := ?v25) ?hi25 (by kernel_rfl) (by kernel_rfl) (by kernel_rfl) (fun _ _ _ h => h) (Or.inl ⟨?hw25, ?hy25⟩) (by assumption) ?hr25
  case hi25 => simp only [List.getElem?_toArray, List.getElem?_cons_succ, List.getElem?_cons_zero]; rfl
  case hw25 => rfl
  case hy25 => intro wq hSq; (try dsimp only at hSq); go_simp; (try with_reducible rfl)
  try simp only [Act.put, List.setIfInBounds_toArray, List.set_cons_zero, List.set_cons_succ]
  refine wpAnyH_take (i := 26) (oi := ?oi26) (v := ?v26) ?hi26 (by kernel_rfl) (by kernel_rfl) (by kernel_rfl) (fun _ _ _ h => h) (Or.inl ⟨?hw26, ?hy26⟩) (by assumption) ?hr26
  case hi26 => simp only [List.getElem?_toArray, List.getElem?_cons_succ, List.getElem?_cons_zero]; rfl
  case hw26 => rfl
  case hy26 => intro wq hSq; (try dsimp only at hSq); go_simp; (try with_reducible rfl)
  try simp only [Act.put, List.setIfInBounds_toArray, List.set_cons_zero, List.set_cons_succ]
  refine wpAnyH_take (i := 27) (oi := ?oi27) (v := ?v27) ?hi27 (by kernel_rfl) (by kernel_rfl) (by kernel_rfl) (fun _ _ _ h => h) (Or.inl ⟨?hw27, ?hy27⟩) (by assumption) ?hr27
  case hi27 => simp only [List.getElem?_toArray, List.getElem?_cons_succ, List.getElem?_cons_zero]; rfl
  case hw27 => rfl
  case hy27 => intro wq hSq; (try dsimp only at hSq); go_simp; (try with_reducible rfl)
  try simp only [Act.put, List.setIfInBounds_toArray, List.set_cons_zero, List.set_cons_succ]
  refine wpAnyH_take (i := 28) (oi := ?oi28) (v := ?v28) ?hi28 (by kernel_rfl) (by kernel_rfl) (by kernel_rfl) (fun _ _ _ h => h) (Or.inl ⟨?hw28, ?hy28⟩) (by assumption) ?hr28
  case hi28 => simp only [List.getElem?_toArray, List.getElem?_cons_succ, List.getElem?_cons_zero]; rfl
  case hw28 => rfl
  case hy28 => intro wq hSq; (try dsimp only at hSq); go_simp; (try with_reducible rfl)
  try simp only [Act.put, List.setIfInBounds_toArray, List.set_cons_zero, List.set_cons_succ]
  refine wpAnyH_done (by kernel_rfl) ?_ _
  refine NoPanic.normal ?_
  go_wp2_with fail
  all_goals
    go_ret
    exact ⟨rfl, below_chg B4' C5 B4'.size (fun k h => h.elim)⟩

theorem zeros_get (w : World) {g cap : Nat} (h : Src w (some ⟨g, 0, none⟩) 8192 cap (u8s (sl (fun _ => 0) 0 8192)) 1) (i : Nat) (hi : i < 8192) : w.cell? ⟨g, i, none⟩ = some (.int .u8 0) := by
  have := h.get _ rfl i (.int .u8 0) (by simp [u8s, sl, hi])
  rw [Addr.add_lit, Nat.zero_add] at this
  exact this

set_option maxRecDepth 100000 in
set_option maxHeartbeats 1000000 in
theorem physRows_no (addr : Int) (fr m len cap : Nat) (ao : Option Addr) (xs : List Int) (w : World) (hs : Src w ao len cap (u8s xs) 1) (hx : ∀ x ∈ xs, 0 ≤ x ∧ x < 256) 
    (h1 : len ≤ 5000) (h2 : fr + m ≤ len) (h3 : addr < 0 ∨ 8192 < addr ∨ (0 ≤ addr ∧ addr ≤ 8192 ∧ 8192 - addr < len)) :
    Calls Try.prog 7 #[.int .i64 addr, .slice ao len cap, .int .i64 fr, .int .i64 m] w fun e w' => e = .returned (.bool true) ∧ Below w.heap.size w w' := by
  have d1 : decide ((5000 : Int) < len) = false := decide_eq_false (by omega)
  have d2 : decide ((fr : Int) < 0) = false := decide_eq_false (by omega)
  have d3 : decide ((m : Int) < 0) = false := decide_eq_false (by omega)
  have d4 : decide (len < fr) = false := decide_eq_false (by omega)
  have d5 : decide ((len : Int) - fr < m) = false := decide_eq_false (by omega)
  have HO : Hid (okR 8192 addr (len : Int) = false) := decide_eq_false (by omega)
  have HS := Lib.hid hs
  have HX := Lib.hid hx
  clear hs hx
  go_enter Try.func7, Try.ntmps7
  go_wp2_with fail
  refine (alive4 _).mono ?_
  rintro e w1 ⟨rfl, B1⟩
  go_wp2_with fail
  refine (new_at 2 8192 pgN_two _).mono ?_
  rintro e w2 ⟨a, b, rfl, M2, C2, ha, hb⟩
  have hz1 := B1.size
  have B2 : Below w.heap.size w w2 := B1.trans (C2.below_of B1.size (fun _ h => h.elim))
  have HS2 : Hid (Src w2 ao len cap (u8s xs) 1) := HS.out.chg (Chg.of_below B2 (fun _ => False)) (fun _ _ h => h)
  clear C2 B1 HS
  go_wp2_with fail
  refine (put_any M2 addr len cap _ xs HS2.out HX.out).mono ?_
  rintro e w3 ⟨he, M3, C3⟩
  have B3 : Below w.heap.size w w3 := below_chg B2 C3 B2.size (fun k h => by omega)
  have hl : xs.length = len := by have := HS2.out.len; simpa [u8s] using this
  have hv : ptV 8192 (fun _ => 0) addr xs = fun _ => 0 := by unfold ptV; rw [hl, HO.out]; rfl
  rw [hv] at M3
  rw [HO.out] at he
  subst he
  clear C3 B2 HS2 M2 hv hl
  have G := get_any M3 0 8192
  rw [show getN 8192 0 8192 = 8192 from rfl] at G
  have HG := Lib.hid G
  clear G
  have h3' : addr < 0 ∨ (0 ≤ addr ∧ (8192 < addr ∨ (addr ≤ 8192 ∧ 8192 - addr < len))) := by omega
  clear h3
  rcases h3' with h3 | ⟨h3, h4 | ⟨h4, h5⟩⟩
  all_goals
    go_wp2_with fail
    refine HG.out.mono ?_
    rintro e w4 ⟨ao4, cap4, rfl, o4, C4⟩
    obtain ⟨hcap4, hnn, hsome⟩ := own_slice o4
    obtain ⟨g4, rfl, hg4⟩ : ∃ g4, ao4 = some ⟨g4, 0, none⟩ ∧ w3.heap.size ≤ g4 := by
      cases ao4 with
      | none => have := hnn rfl; omega
      | some ad => obtain ⟨g, rfl, h⟩ := hsome ad rfl; exact ⟨g, rfl, h⟩
    clear hnn hsome
    have B4 : Below w.heap.size w w4 := below_chg B3 C4 B3.size (fun k h => h.elim)
    have HA4 := Lib.hid (own_src o4)
    clear o4 C4
    go_wp2_with fail
    go_loop [13] (fun i => ∃ k : Nat, k ≤ 8192 ∧ i = .int .i64 k) (fun i => 8192 - (intOf i).toNat)
    case atStart => exact ⟨0, by omega, rfl⟩
    case round =>
      obtain ⟨k, hk, rfl⟩ := hrel
      by_cases hlt : k < 8192
      · have hcell := zeros_get w4 HA4.out k hlt
        go_wp2_with fail
        go_round
        case rel => exact ⟨k + 1, by omega, by go_num⟩
        case measure => simp [intOf]; omega
      · go_wp2_with fail
        go_ret
        exact ⟨rfl, B4⟩

set_option maxRecDepth 100000 in
set_option maxHeartbeats 1000000 in
theorem physRows_far (addr fr m : Int) (len cap : Nat) (ao : Option Addr) (w : World) (h : 5000 < len ∨ fr < 0 ∨ m < 0 ∨ (len : Int) < fr ∨ (0 ≤ fr ∧ fr ≤ len ∧ (len : Int) - fr < m)) (hl : len ≤ 9223372036854775807) (hm : m ≤ 9223372036854775807) :
    Calls Try.prog 7 #[.int .i64 addr, .slice ao len cap, .int .i64 fr, .int .i64 m] w fun e w' => e = .returned (.bool true) ∧ Below w.heap.size w w' := by
  have go : ∀ Q : Prop, Q → Q := fun _ q => q
  clear go
  by_cases c1 : (5000 : Int) < len
  · clear h
    go_enter Try.func7, Try.ntmps7
    go_wp2_with (go_at_call 15; refine (alive4 _).mono ?_; rintro e w1 ⟨rfl, B1⟩)
    go_ret
    exact ⟨rfl, B1⟩
  by_cases c2 : fr < 0
  · clear h
    go_enter Try.func7, Try.ntmps7
    go_wp2_with (go_at_call 15; refine (alive4 _).mono ?_; rintro e w1 ⟨rfl, B1⟩)
    go_ret
    exact ⟨rfl, B1⟩
  by_cases c3 : m < 0
  · clear h
    go_enter Try.func7, Try.ntmps7
    go_wp2_with (go_at_call 15; refine (alive4 _).mono ?_; rintro e w1 ⟨rfl, B1⟩)
    go_ret
    exact ⟨rfl, B1⟩
  obtain ⟨fr, rfl⟩ := Int.eq_ofNat_of_zero_le (show 0 ≤ fr by omega)
  by_cases c4 : len < fr
  · clear h
    go_enter Try.func7, Try.ntmps7
    go_wp2_with (go_at_call 15; refine (alive4 _).mono ?_; rintro e w1 ⟨rfl, B1⟩)
    go_ret
    exact ⟨rfl, B1⟩
  have c5 : (len : Int) - fr < m := by omega
  clear h
  go_enter Try.func7, Try.ntmps7
  go_wp2_with (go_at_call 15; refine (alive4 _).mono ?_; rintro e w1 ⟨rfl, B1⟩)
  go_ret
  exact ⟨rfl, B1⟩

/-- A []byte that came in. -/
theorem open_bytes {H : Type} {enc : TypeId × Value → H} {W : World} {base : Nat} {v : Value} {d : DataW H} {p : List MemPlace} (hv : Value.okWide Try.prog W .any base 36 v) (h : DataW.Trod enc Try.prog W 0 (fun _ => true) true 36 v d p) :
    ∃ (ao : Option Addr) (len cap : Nat) (xs : List Int), v = .slice ao len cap ∧ len ≤ cap ∧ cap ≤ maxLen ∧ Src W ao len cap (u8s xs) 1 ∧ (∀ x ∈ xs, 0 ≤ x ∧ x < 256) ∧ (∀ ad, ao = some ad → 0 < cap → ad.block < W.heap.size ∧ ad.spot = none) := by
  obtain ⟨a0, len, cap, rfl⟩ := okWide_slice Try.underlying36 hv
  obtain ⟨fuel, hf⟩ := h
  rcases open_ints Try.underlying36 Try.underlying5 (by kernel_rfl) hf with ⟨hcs, _⟩ | ⟨x, l, c, zs, hcs, _, hl, hm, hz, _, hcell, hwz⟩
  · simp [Value.cells] at hcs
    obtain ⟨rfl, rfl, rfl⟩ := hcs
    exact ⟨none, 0, 0, [], rfl, Nat.le_refl _, by unfold maxLen; omega, ⟨rfl, fun _ => ⟨rfl, rfl⟩, fun ad h => (by cases h)⟩, by simp, fun ad h => (by cases h)⟩
  · simp [Value.cells] at hcs
    obtain ⟨rfl, rfl, rfl⟩ := hcs
    have hz' : zs.length = cap := by simpa using hz
    refine ⟨some x, len, cap, zs.take len, rfl, hl, hm, ⟨by simp [u8s]; omega, fun h => (by cases h), fun ad he j u hu => ?_⟩, fun y hy => ?_, fun ad he hc => ?_⟩
    · injection he with he
      subst he
      obtain ⟨hj, rfl⟩ := u8s_get hu
      have hj2 : j < len := by simp at hj; omega
      rw [hcell j (by omega)]
      simp [List.getElem?_take, hj2]
    · have hy2 := List.mem_of_mem_take hy
      have hw := hwz y hy2
      simp [Lit.wf, IntKind.min, IntKind.max, IntKind.signed, IntKind.bits] at hw
      omega
    · injection he with he
      subst he
      have h0 := hcell 0 (by omega)
      have hs : (x.add 0).spot = none := World.cell?_spot h0
      have hb := World.block_lt_of_cell? W _ h0
      have e1 : (x.add 0).block = x.block := by unfold Addr.add; split <;> rfl
      have e2 : (x.add 0).spot = none → x.spot = none := by unfold Addr.add; split <;> simp_all
      rw [e1] at hb
      exact ⟨hb, e2 hs⟩

theorem physRows_any (addr fr m : Int) (len cap : Nat) (ao : Option Addr) (xs : List Int) (w : World) (hl : len ≤ cap) (hc : cap ≤ maxLen) (hs : Src w ao len cap (u8s xs) 1) (hx : ∀ x ∈ xs, 0 ≤ x ∧ x < 256)
    (hb : ∀ ad, ao = some ad → 0 < cap → ad.block < w.heap.size ∧ ad.spot = none) (hm : m ≤ 9223372036854775807) :
    Calls Try.prog 7 #[.int .i64 addr, .slice ao len cap, .int .i64 fr, .int .i64 m] w fun e w' => e = .returned (.bool true) ∧ Below w.heap.size w w' := by
  unfold maxLen at hc
  by_cases h : 5000 < len ∨ fr < 0 ∨ m < 0 ∨ (len : Int) < fr ∨ (0 ≤ fr ∧ fr ≤ len ∧ (len : Int) - fr < m)
  · exact physRows_far addr fr m len cap ao w h (by omega) hm
  obtain ⟨fr, rfl⟩ := Int.eq_ofNat_of_zero_le (show 0 ≤ fr by omega)
  obtain ⟨m, rfl⟩ := Int.eq_ofNat_of_zero_le (show 0 ≤ m by omega)
  by_cases hc0 : cap = 0
  · subst hc0
    obtain rfl : len = 0 := by omega
    obtain rfl : fr = 0 := by omega
    obtain rfl : m = 0 := by omega
    have hxs : xs = [] := by have := hs.len; simp [u8s] at this; exact this
    subst hxs
    by_cases h3 : 0 ≤ addr ∧ addr ≤ 8192
    · obtain ⟨p, rfl⟩ := Int.eq_ofNat_of_zero_le h3.1
      cases ao with
      | none => exact physRows_nil p w (by omega)
      | some ad => exact physRows_emp p ad w (by omega)
    · exact physRows_no addr 0 0 0 0 ao [] w hs hx (by omega) (by omega) (by omega)
  · by_cases h3 : addr < 0 ∨ 8192 < addr ∨ (0 ≤ addr ∧ addr ≤ 8192 ∧ 8192 - addr < len)
    · exact physRows_no addr fr m len cap ao xs w hs hx (by omega) (by omega) h3
    · obtain ⟨p, rfl⟩ := Int.eq_ofNat_of_zero_le (show 0 ≤ addr by omega)
      cases ao with
      | none => have := (hs.nil rfl).2; omega
      | some ad =>
        obtain ⟨h5, h6⟩ := hb ad rfl (by omega)
        obtain ⟨bb, off, spot⟩ := ad
        have h6' : spot = none := h6
        subst h6'
        exact physRows_in p fr m bb off len cap xs w hs hx h5 (by omega) (by omega) (by omega) hl

theorem physRows_walk : LawWalk 7 Try.f7 := by
  intro H enc W base args ds p hval hA
  rw [Try.params7] at hA hval
  obtain ⟨v0, v1, v2, v3, d0, d1, d2, d3, p0, p1, p2, p3, rfl, rfl, rfl, h0, h1, h2, h3⟩ := trodAll_four hA
  obtain ⟨a0, rfl, rfl, rfl, w0⟩ := open_int Try.underlying3 (hval 0 3 v0 rfl rfl) h0
  obtain ⟨ao, len, cap, xs, rfl, hl, hc, hs, hx, hb⟩ := open_bytes (hval 1 36 v1 rfl rfl) h1
  obtain ⟨a2, rfl, rfl, rfl, w2⟩ := open_int Try.underlying3 (hval 2 3 v2 rfl rfl) h2
  obtain ⟨a3, rfl, rfl, rfl, w3⟩ := open_int Try.underlying3 (hval 3 3 v3 rfl rfl) h3
  exact physRows_any a0 a2 a3 len cap ao xs W hl hc hs hx hb (by simp [Lit.wf, IntKind.min, IntKind.max, IntKind.signed, IntKind.bits] at w3; omega)

set_option maxRecDepth 100000 in
theorem physRows_lifted (os : Os) (started : os.Started) (H : Type) (enc : TypeId × Value → H) :
    ReturnsInHanded {} Try.checked os 7 .any (Rows.physRowsSpec.pre6 enc Try.prog Try.f7 Rows.physRowsRow.domain false) (Rows.physRowsSpec.post enc Try.prog Try.f7 false true false false) :=
  law_lifted (s := Rows.physRowsSpec) Try.func7 (by kernel_rfl) rfl (by kernel_rfl) (by kernel_rfl)
    (fun H ds h => by
      match ds, h with
      | [d0, d1, d2, d3], _ => rfl)
    physRows_walk os started H enc
    (ChangeSpec.witness6 (enc := enc) (C := Try.checked) false ⟨#[], #[.int .i64 0, .slice none 0 0, .int .i64 0, .int .i64 0], []⟩ 8 (by kernel_rfl) (by kernel_rfl) (by kernel_rfl) (by kernel_rfl))

/-- THE STATEMENT. -/
theorem physRows_holds : Rows.PhysRowsSaid :=
  OpenClaim.holds_of_wide 7 Try.f7 rfl rfl rfl rfl rfl rfl rfl ⟨rfl, rfl, rfl, rfl, rfl⟩ rfl rfl rfl rfl rfl (by kernel_rfl) Try.func7 (by kernel_rfl)
    (of_decide_eq_true (by kernel_rfl)) (by unfold Func.isWrapper; first | (rw [if_pos (by decide +kernel)]; kernel_rfl) | (rw [if_neg (by decide +kernel)]; exact ⟨rfl, rfl⟩))
    (fun os started H enc _ => physRows_lifted os started H enc)
#print axioms physRows_holds
end Go.Proofs.Ytmkhpahkcicfnaa

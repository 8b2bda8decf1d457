/- health: the list of events. -/
import Derived.RangeFuncBox
import Derived.RangeFuncNested
import Derived.RangeFuncLeaves
import Derived.Shelf.Abstract
import Derived.WalkKit
import Derived.OwnWalkIn
import Derived.TacticsInMore
import Derived.LoopNIn
import Derived.LoopIn
import Derived.Test.YtdhkbephofnfdaaHSee
import Derived.Test.YtdhkbephofnfdaaTailIn
namespace Go.Proofs.Ytdhkbephofnfdaa
open Go.RowKit Go.Shelf

attribute [local go_sem] Oper.semAt_some

/-- What the iterator reads. -/
structure EvsAt (W : World) (Bs g gr nr cr first : Nat) (evs : List EvH) : Prop where
  box : W.cell? ⟨Bs, 0, none⟩ = some (.pointer (some ⟨g, 0, none⟩))
  ring : W.cell? ⟨g, 1, none⟩ = some (.slice (some ⟨gr, 0, none⟩) nr cr)
  fst : W.cell? ⟨g, 2, none⟩ = some (.int .i64 (first : Nat))
  cells : ∀ k (h : k < evs.length) j, j < 3 → W.cell? ⟨gr, (first + k) % nr * 3 + j, none⟩ = (evCells evs[k])[j]?
/-- What a round keeps: whatever lay below n₀, and the block Bs. -/
structure KB (n₀ Bs : Nat) (A B : World) : Prop where
  bel : Below n₀ A B
  blk : B.heap[Bs]? = A.heap[Bs]?
theorem KB.refl (n₀ Bs : Nat) (A : World) : KB n₀ Bs A A := ⟨Below.refl _ _, rfl⟩
theorem KB.trans {n₀ Bs : Nat} {A B C : World} (h : KB n₀ Bs A B) (k : KB n₀ Bs B C) : KB n₀ Bs A C := ⟨h.bel.trans k.bel, k.blk.trans h.blk⟩
theorem KB.cell {n₀ Bs : Nat} {A B : World} (h : KB n₀ Bs A B) {v : Value} (hc : A.cell? ⟨Bs, 0, none⟩ = some v) : B.cell? ⟨Bs, 0, none⟩ = some v := by
  unfold World.cell? at *
  rw [h.blk]
  exact hc
theorem EvsAt.below {n₀ : Nat} {A B : World} {Bs g gr nr cr first : Nat} {evs : List EvH} (h : EvsAt A Bs g gr nr cr first evs) (k : KB n₀ Bs A B) (h2 : g < n₀) (h3 : gr < n₀) : EvsAt B Bs g gr nr cr first evs :=
  have b := k.bel
  ⟨k.cell h.box, (b.cell (p := ⟨g, 1, none⟩) h2).trans h.ring, (b.cell (p := ⟨g, 2, none⟩) h2).trans h.fst, fun k hk j hj => (b.cell (p := ⟨gr, _, none⟩) h3).trans (h.cells k hk j hj)⟩

set_option maxRecDepth 100000 in
set_option maxHeartbeats 2000000 in
theorem events1_in (F : Fence) (n : Nat) (hf : F.fn 64) (hro : F.round = none) (hn : 1 ≤ n) (l Bs n₀ g gr nr cr first : Nat) (evs : List EvH) (hlen : evs.length = nr) (hnr : 0 < nr) (h1000 : nr ≤ 1000) (hfi : first < 1000) (h2 : g < n₀) (h3 : gr < n₀) (J Jx : List EvH → World → Prop)
    (hY : ∀ pre x W, J pre W → pre.length < evs.length → YieldAt F (n - 1) Try.prog l #[evV x] W fun e W' =>
      (e = .returned (.bool true) ∧ J (pre ++ [x]) W' ∧ KB n₀ Bs W W') ∨ (e = .returned (.bool false) ∧ Jx (pre ++ [x]) W'))
    (hJd : ∀ pre W, J pre W → J pre W.drew) (W : World) (hE : EvsAt W Bs g gr nr cr first evs) (h0 : J [] W) :
    CallsIn F n Try.prog 64 #[.func (.yield l) #[] #[], .pointer (some ⟨Bs, 0, none⟩)] W fun e W' => (∃ v, e = .returned v) ∧
      ((∃ ys, ys = evs ∧ J ys W') ∨ (∃ pre, pre <+: evs ∧ Jx pre W')) := by
  refine callsIn_of_wp Try.func64 rfl hf ?_ hro
  simp only [Try.ntmps64, List.size_toArray, List.length_cons, List.length_nil, Nat.reduceAdd, Nat.reduceSub, Array.replicate_succ, Array.replicate_zero, List.push_toArray, List.append_toArray, List.nil_append, List.cons_append]
  have hb0 := hE.box
  have hb1 := hE.ring
  gi_wp2
  gi_loopw [9] (fun i wr => ∃ k : Nat, k ≤ nr ∧ i = .int .i64 k ∧ J (evs.take k) wr ∧ KB n₀ Bs W wr)
    (fun i _ => nr - (intOf i).toNat)
  case atStart => exact ⟨0, Nat.zero_le _, rfl, h0, KB.refl _ _ _⟩
  case round =>
    obtain ⟨k, hk, rfl, hJs, hnx⟩ := hrel
    have hEr := hE.below hnx h2 h3
    by_cases hlt : k < nr
    · have hke : k < evs.length := by omega
      obtain ⟨x, hx⟩ : ∃ x, evs[k] = x := ⟨_, rfl⟩
      obtain ⟨id, hid⟩ : ∃ id, (first + k) % nr = id := ⟨_, rfl⟩
      have c0 := hEr.cells k hke 0 (by decide)
      have c1 := hEr.cells k hke 1 (by decide)
      have c2 := hEr.cells k hke 2 (by decide)
      rw [hx, hid] at c0 c1 c2
      have hidl : id < nr := by rw [← hid]; exact Nat.mod_lt _ hnr
      have HTK := Lib.hid (show evs.take (k + 1) = evs.take k ++ [x] by rw [List.take_succ_eq_append_getElem hke, hx])
      have kt : ((first : Int) + (k : Int)).tmod (nr : Int) = (id : Int) := by rw [Int.tmod_eq_emod_of_nonneg (by omega), ← hid, Int.natCast_emod]; rfl
      have kw : IntKind.i64.wrap ((first : Int) + (k : Int)) = (first : Int) + (k : Int) := IntWalk.i64_in _ (by omega)
      have kn : ¬ nr = 0 := by omega
      have i0 : (0 : Int) ≤ (id : Int) := by omega
      have i1 : (id : Int) < (nr : Int) := by omega
      obtain ⟨fn, tmps, assign, body, hy, hR⟩ := hY (evs.take k) x wr.drew (hJd _ _ hJs) (by rw [List.length_take]; omega)
      obtain ⟨x0, x1, x2⟩ := x
      simp only [evV] at hy
      have b0 := hEr.box
      have b1 := hEr.ring
      have b2 := hEr.fst
      gi_wp2
      refine wpIn_region_noPanic ?_
      refine wpIn_region_L 19 (fun w' => w'.cell? ⟨Bs, 0, none⟩ = some (.pointer (some ⟨g, 0, none⟩)) ∧ w'.cell? ⟨g, 1, none⟩ = some (.slice (some ⟨gr, 0, none⟩) nr cr) ∧ w'.cell? ⟨g, 2, none⟩ = some (.int .i64 (first : Nat)) ∧ w'.cell? ⟨gr, id * 3, none⟩ = some (.int .i64 x0) ∧ w'.cell? ⟨gr, id * 3 + 1, none⟩ = some (.int .i64 x1) ∧ w'.cell? ⟨gr, id * 3 + 2, none⟩ = some (.int .i64 x2)) (by kernel_rfl) (⟨b0, b1, b2, c0, c1, c2⟩) (fun hHeld => ?_)
      refine wpAnyLIn_take (i := 0) (oi := ?oi0) (v := ?v0) hro ?hi0 (by kernel_rfl) (by kernel_rfl) (by kernel_rfl) (by kernel_rfl) (fun _ _ _ h => h) (Or.inl ⟨?hw0, ?hy0⟩) ?hb0 (by assumption) ?hr0
      case hi0 => simp only [List.getElem?_toArray, List.getElem?_cons_succ, List.getElem?_cons_zero]; rfl
      case hw0 => rfl
      case hy0 => intro wq hSq; (try dsimp only at hSq); go_simp; (try with_reducible rfl)
      case hb0 => intro wq _; rfl
      try simp only [Act.put, List.setIfInBounds_toArray, List.set_cons_zero, List.set_cons_succ]
      refine wpAnyLIn_take (i := 1) (oi := ?oi1) (v := ?v1) hro ?hi1 (by kernel_rfl) (by kernel_rfl) (by kernel_rfl) (by kernel_rfl) (fun _ _ _ h => h) (Or.inl ⟨?hw1, ?hy1⟩) ?hb1 (by assumption) ?hr1
      case hi1 => simp only [List.getElem?_toArray, List.getElem?_cons_succ, List.getElem?_cons_zero]; rfl
      case hw1 => rfl
      case hy1 => intro wq hSq; (try dsimp only at hSq); go_simp; (try with_reducible rfl)
      case hb1 => intro wq _; rfl
      try simp only [Act.put, List.setIfInBounds_toArray, List.set_cons_zero, List.set_cons_succ]
      refine wpAnyLIn_take (i := 2) (oi := ?oi2) (v := ?v2) hro ?hi2 (by kernel_rfl) (by kernel_rfl) (by kernel_rfl) (by kernel_rfl) (fun _ _ _ h => h) (Or.inl ⟨?hw2, ?hy2⟩) ?hb2 (by assumption) ?hr2
      case hi2 => simp only [List.getElem?_toArray, List.getElem?_cons_succ, List.getElem?_cons_zero]; rfl
      case hw2 => rfl
      case hy2 => intro wq hSq; (try dsimp only at hSq); go_simp; (try with_reducible rfl)
      case hb2 => intro wq _; rfl
      try simp only [Act.put, List.setIfInBounds_toArray, List.set_cons_zero, List.set_cons_succ]
      refine wpAnyLIn_take (i := 3) (oi := ?oi3) (v := ?v3) hro ?hi3 (by kernel_rfl) (by kernel_rfl) (by kernel_rfl) (by kernel_rfl) (fun _ _ _ h => h) (Or.inl ⟨?hw3, ?hy3⟩) ?hb3 (by assumption) ?hr3
      case hi3 => simp only [List.getElem?_toArray, List.getElem?_cons_succ, List.getElem?_cons_zero]; rfl
      case hw3 => rfl
      case hy3 => intro wq hSq; (try dsimp only at hSq); go_simp; (try with_reducible rfl)
      case hb3 => intro wq _; rfl
      try simp only [Act.put, List.setIfInBounds_toArray, List.set_cons_zero, List.set_cons_succ]
      refine wpAnyLIn_take (i := 4) (oi := ?oi4) (v := ?v4) hro ?hi4 (by kernel_rfl) (by kernel_rfl) (by kernel_rfl) (by kernel_rfl) (fun _ _ _ h => h) (Or.inl ⟨?hw4, ?hy4⟩) ?hb4 (by assumption) ?hr4
      case hi4 => simp only [List.getElem?_toArray, List.getElem?_cons_succ, List.getElem?_cons_zero]; rfl
      case hw4 => rfl
      case hy4 => intro wq hSq; (try dsimp only at hSq); go_simp; (try with_reducible rfl)
      case hb4 => intro wq _; rfl
      try simp only [Act.put, List.setIfInBounds_toArray, List.set_cons_zero, List.set_cons_succ]
      refine wpAnyLIn_take (i := 5) (oi := ?oi5) (v := ?v5) hro ?hi5 (by kernel_rfl) (by kernel_rfl) (by kernel_rfl) (by kernel_rfl) (fun _ _ _ h => h) (Or.inl ⟨?hw5, ?hy5⟩) ?hb5 (by assumption) ?hr5
      case hi5 => simp only [List.getElem?_toArray, List.getElem?_cons_succ, List.getElem?_cons_zero]; rfl
      case hw5 => rfl
      case hy5 => intro wq hSq; (try dsimp only at hSq); go_simp; (try with_reducible rfl)
      case hb5 => intro wq _; rfl
      try simp only [Act.put, List.setIfInBounds_toArray, List.set_cons_zero, List.set_cons_succ]
      refine wpAnyLIn_take (i := 6) (oi := ?oi6) (v := ?v6) hro ?hi6 (by kernel_rfl) (by kernel_rfl) (by kernel_rfl) (by kernel_rfl) (fun _ _ _ h => h) (Or.inl ⟨?hw6, ?hy6⟩) ?hb6 (by assumption) ?hr6
      case hi6 => simp only [List.getElem?_toArray, List.getElem?_cons_succ, List.getElem?_cons_zero]; rfl
      case hw6 => rfl
      case hy6 => intro wq hSq; (try dsimp only at hSq); go_simp; (try with_reducible rfl)
      case hb6 => intro wq _; rfl
      try simp only [Act.put, List.setIfInBounds_toArray, List.set_cons_zero, List.set_cons_succ]
      refine wpAnyLIn_take (i := 7) (oi := ?oi7) (v := ?v7) hro ?hi7 (by kernel_rfl) (by kernel_rfl) (by kernel_rfl) (by kernel_rfl) (fun _ _ _ h => h) (Or.inl ⟨?hw7, ?hy7⟩) ?hb7 (by assumption) ?hr7
      case hi7 => simp only [List.getElem?_toArray, List.getElem?_cons_succ, List.getElem?_cons_zero]; rfl
      case hw7 => rfl
      case hy7 => intro wq hSq; (try dsimp only at hSq); go_simp; (try with_reducible rfl)
      case hb7 => intro wq _; rfl
      try simp only [Act.put, List.setIfInBounds_toArray, List.set_cons_zero, List.set_cons_succ]
      refine wpAnyLIn_take (i := 8) (oi := ?oi8) (v := ?v8) hro ?hi8 (by kernel_rfl) (by kernel_rfl) (by kernel_rfl) (by kernel_rfl) (fun _ _ _ h => h) (Or.inl ⟨?hw8, ?hy8⟩) ?hb8 (by assumption) ?hr8
      case hi8 => simp only [List.getElem?_toArray, List.getElem?_cons_succ, List.getElem?_cons_zero]; rfl
      case hw8 => rfl
      case hy8 => intro wq hSq; (try dsimp only at hSq); go_simp; (try with_reducible rfl)
      case hb8 => intro wq _; rfl
      try simp only [Act.put, List.setIfInBounds_toArray, List.set_cons_zero, List.set_cons_succ]
      refine wpAnyLIn_take (i := 9) (oi := ?oi9) (v := ?v9) hro ?hi9 (by kernel_rfl) (by kernel_rfl) (by kernel_rfl) (by kernel_rfl) (fun _ _ _ h => h) (Or.inl ⟨?hw9, ?hy9⟩) ?hb9 (by assumption) ?hr9
      case hi9 => simp only [List.getElem?_toArray, List.getElem?_cons_succ, List.getElem?_cons_zero]; rfl
      case hw9 => rfl
      case hy9 => intro wq hSq; (try dsimp only at hSq); go_simp; (try with_reducible rfl)
      case hb9 => intro wq _; rfl
      try simp only [Act.put, List.setIfInBounds_toArray, List.set_cons_zero, List.set_cons_succ]
      refine wpAnyLIn_take (i := 10) (oi := ?oi10) (v := ?v10) hro ?hi10 (by kernel_rfl) (by kernel_rfl) (by kernel_rfl) (by kernel_rfl) (fun _ _ _ h => h) (Or.inl ⟨?hw10, ?hy10⟩) ?hb10 (by assumption) ?hr10
      case hi10 => simp only [List.getElem?_toArray, List.getElem?_cons_succ, List.getElem?_cons_zero]; rfl
      case hw10 => rfl
      case hy10 => intro wq hSq; (try dsimp only at hSq); go_simp; (try with_reducible rfl)
      case hb10 => intro wq _; rfl
      try simp only [Act.put, List.setIfInBounds_toArray, List.set_cons_zero, List.set_cons_succ]
      refine wpAnyLIn_take (i := 11) (oi := ?oi11) (v := ?v11) hro ?hi11 (by kernel_rfl) (by kernel_rfl) (by kernel_rfl) (by kernel_rfl) (fun _ _ _ h => h) (Or.inl ⟨?hw11, ?hy11⟩) ?hb11 (by assumption) ?hr11
      case hi11 => simp only [List.getElem?_toArray, List.getElem?_cons_succ, List.getElem?_cons_zero]; rfl
      case hw11 => rfl
      case hy11 => intro wq hSq; (try dsimp only at hSq); go_simp; (try with_reducible rfl)
      case hb11 => intro wq _; rfl
      try simp only [Act.put, List.setIfInBounds_toArray, List.set_cons_zero, List.set_cons_succ]
      refine wpAnyLIn_take (i := 12) (oi := ?oi12) (v := ?v12) hro ?hi12 (by kernel_rfl) (by kernel_rfl) (by kernel_rfl) (by kernel_rfl) (fun _ _ _ h => h) (Or.inl ⟨?hw12, ?hy12⟩) ?hb12 (by assumption) ?hr12
      case hi12 => simp only [List.getElem?_toArray, List.getElem?_cons_succ, List.getElem?_cons_zero]; rfl
      case hw12 => rfl
      case hy12 => intro wq hSq; (try dsimp only at hSq); go_simp; (try with_reducible rfl)
      case hb12 => intro wq _; rfl
      try simp only [Act.put, List.setIfInBounds_toArray, List.set_cons_zero, List.set_cons_succ]
      refine wpAnyLIn_take (i := 13) (oi := ?oi13) (v := ?v13) hro ?hi13 (by kernel_rfl) (by kernel_rfl) (by kernel_rfl) (by kernel_rfl) (fun _ _ _ h => h) (Or.inl ⟨?hw13, ?hy13⟩) ?hb13 (by assumption) ?hr13
      case hi13 => simp only [List.getElem?_toArray, List.getElem?_cons_succ, List.getElem?_cons_zero]; rfl
      case hw13 => rfl
      case hy13 => intro wq hSq; (try dsimp only at hSq); go_simp; (try with_reducible rfl)
      case hb13 => intro wq _; rfl
      try simp only [Act.put, List.setIfInBounds_toArray, List.set_cons_zero, List.set_cons_succ]
      refine wpAnyLIn_take (i := 14) (oi := ?oi14) (v := ?v14) hro ?hi14 (by kernel_rfl) (by kernel_rfl) (by kernel_rfl) (by kernel_rfl) (fun _ _ _ h => h) (Or.inl ⟨?hw14, ?hy14⟩) ?hb14 (by assumption) ?hr14
      case hi14 => simp only [List.getElem?_toArray, List.getElem?_cons_succ, List.getElem?_cons_zero]; rfl
      case hw14 => rfl
      case hy14 => intro wq hSq; (try dsimp only at hSq); go_simp; (try with_reducible rfl)
      case hb14 => intro wq _; rfl
      try simp only [Act.put, List.setIfInBounds_toArray, List.set_cons_zero, List.set_cons_succ]
      refine wpAnyLIn_take (i := 15) (oi := ?oi15) (v := ?v15) hro ?hi15 (by kernel_rfl) (by kernel_rfl) (by kernel_rfl) (by kernel_rfl) (fun _ _ _ h => h) (Or.inl ⟨?hw15, ?hy15⟩) ?hb15 (by assumption) ?hr15
      case hi15 => simp only [List.getElem?_toArray, List.getElem?_cons_succ, List.getElem?_cons_zero]; rfl
      case hw15 => rfl
      case hy15 => intro wq hSq; (try dsimp only at hSq); go_simp; (try with_reducible rfl)
      case hb15 => intro wq _; rfl
      try simp only [Act.put, List.setIfInBounds_toArray, List.set_cons_zero, List.set_cons_succ]
      refine wpAnyLIn_take (i := 16) (oi := ?oi16) (v := ?v16) hro ?hi16 (by kernel_rfl) (by kernel_rfl) (by kernel_rfl) (by kernel_rfl) (fun _ _ _ h => h) (Or.inl ⟨?hw16, ?hy16⟩) ?hb16 (by assumption) ?hr16
      case hi16 => simp only [List.getElem?_toArray, List.getElem?_cons_succ, List.getElem?_cons_zero]; rfl
      case hw16 => rfl
      case hy16 => intro wq hSq; (try dsimp only at hSq); go_simp; (try with_reducible rfl)
      case hb16 => intro wq _; rfl
      try simp only [Act.put, List.setIfInBounds_toArray, List.set_cons_zero, List.set_cons_succ]
      refine wpAnyLIn_take (i := 17) (oi := ?oi17) (v := ?v17) hro ?hi17 (by kernel_rfl) (by kernel_rfl) (by kernel_rfl) (by kernel_rfl) (fun _ _ _ h => h) (Or.inl ⟨?hw17, ?hy17⟩) ?hb17 (by assumption) ?hr17
      case hi17 => simp only [List.getElem?_toArray, List.getElem?_cons_succ, List.getElem?_cons_zero]; rfl
      case hw17 => rfl
      case hy17 => intro wq hSq; (try dsimp only at hSq); go_simp; (try with_reducible rfl)
      case hb17 => intro wq _; rfl
      try simp only [Act.put, List.setIfInBounds_toArray, List.set_cons_zero, List.set_cons_succ]
      refine wpAnyLIn_take (i := 18) (oi := ?oi18) (v := ?v18) hro ?hi18 (by kernel_rfl) (by kernel_rfl) (by kernel_rfl) (by kernel_rfl) (fun _ _ _ h => h) (Or.inl ⟨?hw18, ?hy18⟩) ?hb18 (by assumption) ?hr18
      case hi18 => simp only [List.getElem?_toArray, List.getElem?_cons_succ, List.getElem?_cons_zero]; rfl
      case hw18 => rfl
      case hy18 => intro wq hSq; (try dsimp only at hSq); go_simp; (try with_reducible rfl)
      case hb18 => intro wq _; rfl
      try simp only [Act.put, List.setIfInBounds_toArray, List.set_cons_zero, List.set_cons_succ]
      refine wpAnyLIn_tail (l := [20]) (by kernel_rfl) (by kernel_rfl) ?_
      simp only [tailOps, List.filterMap_cons, List.filterMap_nil, List.getElem?_toArray, List.getElem?_cons_succ, List.getElem?_cons_zero]
      gi_wp2
      refine hR.mono ?_
      rintro e W3 (⟨rfl, hJ3, hk3⟩ | ⟨rfl, hJx3⟩)
      · gi_wp2
        refine NoPanic.normal ?_
        gi_wp2
        go_roundw
        case rel => exact ⟨k + 1, by omega, by simp, by rw [HTK.out]; exact hJ3, (hnx.trans ⟨(Below.refl n₀ wr).drew, rfl⟩).trans hk3⟩
        case measure => simp [intOf]; omega
      · gi_wp2
        refine NoPanic.normal ?_
        gi_wp2
        refine bodyPost_ret (results_none rfl _ _ _) rfl ?_
        exact ⟨⟨_, rfl⟩, .inr ⟨_, ⟨evs.drop (k + 1), by rw [← HTK.out, List.take_append_drop]⟩, hJx3⟩⟩
    · obtain rfl : k = nr := by omega
      have hte : evs.take evs.length = evs := List.take_length
      rw [← hlen, hte] at hJs
      gi_wp2
      go_end0
      exact ⟨⟨_, rfl⟩, .inl ⟨_, rfl, hJs⟩⟩

set_option maxRecDepth 100000 in
set_option maxHeartbeats 1000000 in
theorem events1_nil_in (F : Fence) (n : Nat) (hf : F.fn 64) (hro : F.round = none) (l Bs g cr : Nat) (ar : Option Addr) (J : List EvH → World → Prop) (W : World) (hb : W.cell? ⟨Bs, 0, none⟩ = some (.pointer (some ⟨g, 0, none⟩))) (hr : W.cell? ⟨g, 1, none⟩ = some (.slice ar 0 cr)) (h0 : J [] W) :
    CallsIn F n Try.prog 64 #[.func (.yield l) #[] #[], .pointer (some ⟨Bs, 0, none⟩)] W fun e W' => (∃ v, e = .returned v) ∧ J [] W' := by
  refine callsIn_of_wp Try.func64 rfl hf ?_ hro
  simp only [Try.ntmps64, List.size_toArray, List.length_cons, List.length_nil, Nat.reduceAdd, Nat.reduceSub, Array.replicate_succ, Array.replicate_zero, List.push_toArray, List.append_toArray, List.nil_append, List.cons_append]
  gi_wp2
  gi_loopw [9] (fun i wr => i = .int .i64 0 ∧ J [] wr) (fun _ _ => 0)
  case atStart => exact ⟨rfl, h0⟩
  case round =>
    obtain ⟨rfl, hJs⟩ := hrel
    gi_wp2
    go_end0
    exact ⟨⟨_, rfl⟩, hJs⟩

set_option maxHeartbeats 1000000 in
theorem events_in (F : Fence) (n : Nat) (hf : F.fn 50) (hro : F.round = none) (g : Nat) (w : World) :
    CallsIn F n Try.prog 50 #[.pointer (some ⟨g, 0, none⟩)] w fun e w' => e = .returned (.func (.func 64) #[] #[.pointer (some ⟨w.heap.size, 0, none⟩)]) ∧ w' = w.alloc (.cells #[.pointer (some ⟨g, 0, none⟩)] 53) := by
  refine callsIn_of_wp Try.func50 rfl hf ?_ hro
  simp only [Try.ntmps50, List.size_toArray, List.length_cons, List.length_nil, Nat.reduceAdd, Nat.reduceSub, Array.replicate_succ, Array.replicate_zero, List.push_toArray, List.append_toArray, List.nil_append, List.cons_append]
  gi_wp2
  go_ret
  exact ⟨rfl, rfl⟩

/-- The iterator of a monitor: all its events, in their order. -/
theorem events_stops (F : Fence) (n : Nat) (hf : F.fn 64) (hro : F.round = none) (hn : 1 ≤ n) (Bs n₀ : Nat) (B : Nat → Prop) (g : Nat) (S : HS) (w : World) (hBs : Bs < w.heap.size) (hn₀ : n₀ ≤ w.heap.size) (hB : ∀ k, B k → k < n₀)
    (hc : w.cell? ⟨Bs, 0, none⟩ = some (.pointer (some ⟨g, 0, none⟩))) (hM : MonAt w B g S) :
    SeqStopsK F n Try.prog 64 #[.pointer (some ⟨Bs, 0, none⟩)] (fun x : EvH => #[evV x]) (KB n₀ Bs) (fun ys => ys = S.evs) (fun pre => pre <+: S.evs) S.evs.length w := fun l J Jx W hW hJ _ hY h0 => by
  obtain ⟨ap, ar, cp, cr, first, ring, H⟩ := hM
  have hb := hW.mono hn₀
  have hlen := H.rg.len
  have hc' := (hW.cell (p := ⟨Bs, 0, none⟩) hBs).trans hc
  have hg := hB g H.bg
  have hr : W.cell? ⟨g, 1, none⟩ = some (.slice ar ring.length cr) := (hb.cell (p := ⟨g, 1, none⟩) hg).trans (H.box.cell 1)
  have hfi : W.cell? ⟨g, 2, none⟩ = some (.int .i64 (first : Nat)) := (hb.cell (p := ⟨g, 2, none⟩) hg).trans (H.box.cell 2)
  by_cases h00 : ring.length = 0
  · rw [h00] at hr
    refine (events1_nil_in F n hf hro l Bs g cr ar J W hc' hr h0).mono ?_
    rintro e W' ⟨he, hj⟩
    have : S.evs = [] := List.eq_nil_of_length_eq_zero (by omega)
    exact ⟨he, .inl ⟨[], this.symm, hj⟩⟩
  · obtain ⟨gr, cap, hv, _, _, _, _⟩ := own_block H.events (by omega)
    injection hv with e1 e2 e3
    subst e1 e3
    have hgr := hB gr (H.be gr rfl)
    refine events1_in F n hf hro hn l Bs n₀ g gr ring.length cr first S.evs hlen (by omega) H.rg.le H.rg.lt hg hgr J Jx hY (fun pre X hX => hJ pre X X.drew none hX ⟨rfl, rfl, rfl, Nat.le_refl _, fun _ _ _ => rfl⟩ (fun r h => by cases h)) W ⟨hc', hr, hfi, fun k hk j hj => ?_⟩ h0
    have hlt : (first + k) % ring.length < ring.length := Nat.mod_lt _ (by omega)
    have hge := H.rg.get k (by omega)
    rw [List.getElem?_eq_getElem hk, List.getElem?_eq_getElem hlt] at hge
    injection hge with hge
    rw [hge]
    refine ((hb.cell (p := ⟨gr, _, none⟩) hgr).trans ?_)
    have hj3 : j < (evCells ring[(first + k) % ring.length]).length := by rw [ev_len]; exact hj
    exact (own_cell3 ev_len H.events _ j hj hlt (List.getElem?_eq_getElem hj3)).trans (List.getElem?_eq_getElem hj3).symm

theorem box_own {β : Type} (B : Nat) (t : TypeId) (f : β → Array Value) : Own (fun s W => Box W B t (f s)) := fun s X Y row hs hg hrow =>
  (hg.block B hs.lt (fun e' => by obtain ⟨o, ho, hc⟩ := hrow B e'.symm; rw [show X.heap[B]? = _ from hs] at ho; cases ho; cases hc)).trans hs

set_option maxRecDepth 100000 in
set_option maxHeartbeats 2000000 in
theorem list_in (F : Fence) (n : Nat) (h3 : F.fn 33) (h4 : F.fn 50) (h5 : F.fn 64) (hro : F.round = none) (hn : 3 ≤ n) (B : Nat → Prop) (g : Nat) (S : HS) (w : World) (hB : ∀ k, B k → k < w.heap.size) (hM : MonAt w B g S) :
    CallsIn F n Try.prog 33 #[.pointer (some ⟨g, 0, none⟩)] w fun e W' => ∃ v, e = .returned v ∧ W'.ownsRow w.heap.size 68 3 v S.evs.length (S.evs.flatMap evCells) ∧ Below w.heap.size w W' := by
  have h1 : 1 ≤ n := by omega
  have hle : S.evs.length ≤ 1000 := by obtain ⟨_, _, _, _, _, _, H⟩ := hM; have := H.rg.len; have := H.rg.le; omega
  obtain ⟨i0, hi, hz0, hz1, hz2⟩ := info_parts info_ev
  refine callsIn_of_wp_marks Try.func33 rfl h3 ?_ hro
  simp only [Try.ntmps33, List.size_toArray, List.length_cons, List.length_nil, Nat.reduceAdd, Nat.reduceSub, Array.replicate_succ, Array.replicate_zero, List.push_toArray, List.append_toArray, List.nil_append, List.cons_append]
  gi_wp2_with (gi_at_call 50; refine (events_in F (n - 1) h4 hro _ _).mono ?_; rintro e w' ⟨rfl, rfl⟩)
  have bO := Boxed.new w 63 (.slice none 0 0)
  have bN := Boxed.new (w.alloc (.cells #[.slice none 0 0] 63)) 53 (.pointer (some ⟨g, 0, none⟩))
  rw [World.size_alloc] at bN
  have hB0 : Below w.heap.size w ((w.alloc (.cells #[.slice none 0 0] 63)).alloc (.cells #[.pointer (some ⟨g, 0, none⟩)] 53)) := ((Below.refl _ w).alloc (Nat.le_refl _) _).alloc (by simp) _
  have hM0 := (hM.keep ((Chg.refl w _).alloc (.cells #[.slice none 0 0] 63))).keep ((Chg.refl _ _).alloc (.cells #[.pointer (some ⟨g, 0, none⟩)] 53))
  have hsz : ((w.alloc (.cells #[.slice none 0 0] 63)).alloc (.cells #[.pointer (some ⟨g, 0, none⟩)] 53)).heap.size = w.heap.size + 2 := by simp
  obtain ⟨W0, hW0⟩ : ∃ W0, (w.alloc (.cells #[.slice none 0 0] 63)).alloc (.cells #[.pointer (some ⟨g, 0, none⟩)] 53) = W0 := ⟨_, rfl⟩
  have bO0 := bO.alloc (.cells #[.pointer (some ⟨g, 0, none⟩)] 53)
  rw [hW0] at bN bO0 hB0 hsz hM0 ⊢
  clear hW0 bO
  refine wpIn_rangeFunc_ownH hro h1 (gf := 64) (lb := #[.pointer (some ⟨w.heap.size + 1, 0, none⟩)]) rfl h5 (enters_of Try.func64 (by kernel_rfl) rfl)
    (events_stops F (n - 1) h5 hro (by omega) (w.heap.size + 1) w.heap.size B g S W0 (by omega) (by omega) hB bN.cell hM0) KB.trans (fun W l o o' hl ho hc _ => ⟨belowK_b (w := w) (Nat.le_refl _) W l o o' (by omega) ho hc (by assumption), (grownBy_putObj' W l o').block _ (by have := (Array.getElem?_eq_some_iff.1 ho).1; omega) (by simp; omega)⟩) (Below.refl _ _) (fun _ => rfl)
    (fun pre W => ((∃ v, Boxed W w.heap.size 63 v ∧ W.ownsRow w.heap.size 68 3 v pre.length (pre.flatMap evCells)) ∧ Boxed W (w.heap.size + 1) 53 (.pointer (some ⟨g, 0, none⟩))) ∧ Below w.heap.size w W)
    (fun _ _ _ => False)
    (OwnFrom.and (OwnFrom.and (Own.from (by simpa using holdsRow_own w.heap.size w.heap.size 63 68 3 (fun pre : List EvH => pre.length) (fun pre => pre.flatMap evCells) (fun _ _ => True)) _) (Own.from (boxed_own _ _ _) _)) (ownFrom_below (Nat.le_refl _) (by omega)))
    (fun _ _ _ _ _ hs _ _ => hs)
    ⟨⟨⟨_, bO0, World.ownsRow_nil _ _ _ _⟩, bN⟩, hB0⟩
    (fun x a' W => ∃ Bx, w.heap.size + 1 < Bx ∧ Box W Bx 68 (evCells x).toArray ∧ a' = { tmps := #[.pointer (some ⟨g, 0, none⟩), undef, .slice none 0 0, .pointer (some ⟨w.heap.size, 0, none⟩), .pointer (some ⟨Bx, 0, none⟩), .pointer (some ⟨g, 0, none⟩), .func (.func 64) #[] #[.pointer (some ⟨w.heap.size + 1, 0, none⟩)], evV x, undef, undef, undef, undef, undef], defers := [] })
    (fun x a' _ X Y row hs hg hr => by obtain ⟨Bx, h1, h2, h3⟩ := hs; exact ⟨Bx, h1, box_own Bx 68 (fun (_ : Unit) => (evCells x).toArray) () X Y row h2 hg (fun r e => (hr r e).2), h3⟩)
    ?assign ?body ?done ?stop
  case assign =>
    rintro l pre x W K ⟨⟨⟨v, hv, hrow⟩, bN1⟩, hB1⟩ hK
    obtain ⟨x0, x1, x2⟩ := x
    unfold evV at *
    gi_wp2
    exact hK _ _ ((KeepsOthers.alloc _ _).from _) ⟨(Below.refl _ W).alloc hB1.size _, Below.heap_alloc _ _ _ bN1.lt⟩ ⟨⟨⟨v, hv.alloc _, own_alloc hrow _⟩, bN1.alloc _⟩, hB1.alloc hB1.size _⟩ ⟨W.heap.size, bN1.lt, Box.new W _ _, rfl⟩
  case body =>
    rintro l pre x a' W hl _ ⟨⟨⟨v, hv, hrow⟩, bN1⟩, hB1⟩ ⟨Bx, hBx, bX, rfl⟩ hlt
    have hc := hv.cell
    obtain ⟨x0, x1, x2⟩ := x
    have bX : Box W Bx 68 #[.int .i64 x0, .int .i64 x1, .int .i64 x2] := bX
    have x0c := bX.cell 0
    have x1c := bX.cell 1
    have x2c := bX.cell 2
    unfold evV at *
    have hN := ((Box.new W 68 #[.int .i64 x0, .int .i64 x1, .int .i64 x2]).src 1 1 3 [.int .i64 x0, .int .i64 x1, .int .i64 x2] rfl rfl).get _ rfl
    gi_wp2_with (gi_at_builtin; refine wpListIn_append_own _ rfl _ _ 63 rfl w.heap.size 68 i0 _ 3 24 Try.underlying63 hi hz0 hz1 hz2 rfl (by decide) _ _ _ rfl (own_alloc hrow _) ⟨W.heap.size, 0, none⟩ 1 1 [.int .i64 x0, .int .i64 x1, .int .i64 x2] rfl rfl hN (by simp [Value.oneCell']) (by unfold maxLen; omega) (by omega) (by have := hB1.size; simp; omega) ?_; intro v' w1 hown' hgrow _; obtain ⟨g', cap', rfl⟩ := ownsRow_succ hown'; obtain ⟨hv1, hv2, hr2, hk2, hb2⟩ := hv.appended (by decide) hrow hB1.size (Nat.le_refl _) hown' hgrow; have hc1 := hv1.cell; have hf1 := hv1.frozen)
    have hne : some (w.heap.size + 1) ≠ v.ownBlock := bN1.not_row (by decide) hrow
    have hgB : W.heap[w.heap.size + 1]? = some (.cells #[.pointer (some ⟨g, 0, none⟩)] 53 (0, 0)) := bN1
    have hgB1 := ((bN1.alloc (.cells #[.int .i64 x0, .int .i64 x1, .int .i64 x2] 68)).kept hgrow hne).other (B' := w.heap.size) (by omega) (.slice (some ⟨g', 0, none⟩) (pre.length + 1) cap')
    refine ⟨hk2.from _, ⟨hb2, ?_⟩, ⟨⟨⟨_, hv2, ?_⟩, hgB1⟩, hB1.trans hb2⟩⟩
    · have hgB2 := hgB1
      unfold Boxed at hgB2
      exact hgB2.trans hgB.symm
    · have e1 : (pre ++ [(⟨x0, x1, x2⟩ : EvH)]).length = pre.length + 1 := by simp
      rw [e1, List.flatMap_append]
      exact hr2
  case done =>
    rintro D ys W hD rfl ⟨⟨⟨v, hv, hrow⟩, bN1⟩, hB1⟩ hK
    have hc := hv.cell
    gi_wp2
    refine ⟨by simp, .inl ⟨_, _, rfl, run_takeDeferred hK, ?_⟩⟩
    exact ⟨_, results_tmp rfl _ _ _, v, rfl, ownsRow_putObj hrow _ hK rfl, hB1.trans (belowK_b (w := w) (Nat.le_refl _) W D _ _ (by omega) hK rfl rfl)⟩
  case stop =>
    rintro D c pre W _ _ h _
    exact h.elim

/-- List tells the events, in a slice of its own. -/
theorem list_any (B : Nat → Prop) (g : Nat) (S : HS) (w : World) (hB : ∀ k, B k → k < w.heap.size) (hM : MonAt w B g S) :
    Calls Try.prog 33 #[.pointer (some ⟨g, 0, none⟩)] w fun e W' => ∃ v, e = .returned v ∧ W'.ownsRow w.heap.size 68 3 v S.evs.length (S.evs.flatMap evCells) ∧ Chg w W' (fun _ => False) := by
  refine (callsIn_wide (n := 3)).1 ?_
  refine (list_in Fence.wide 3 trivial trivial trivial rfl (Nat.le_refl _) B g S w hB hM).mono ?_
  rintro e W' ⟨v, he, ho, hb⟩
  exact ⟨v, he, ho, Chg.of_below hb _⟩
end Go.Proofs.Ytdhkbephofnfdaa

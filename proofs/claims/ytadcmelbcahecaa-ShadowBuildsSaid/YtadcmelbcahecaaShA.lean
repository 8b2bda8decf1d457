/- shadow: span, Fits, the pages that are mapped. -/
import Derived.RangeFuncBox
import Derived.RangeFuncNested
import Derived.RangeFuncLeaves
import Derived.Shelf.Abstract
import Derived.WalkKit
import Derived.OwnWalkIn
import Derived.TacticsInMore
import Derived.LoopNIn
import Derived.LoopIn
import Derived.Test.YtadcmelbcahecaaWalkM
import Derived.Test.YtadcmelbcahecaaLst
namespace Go.Proofs.Ytadcmelbcahecaa
open Go.RowKit Go.Shelf

/-- What a round keeps: all blocks below n but one. -/
structure KO (n ob : Nat) (A B : World) : Prop where
  size : A.heap.size ≤ B.heap.size
  blk : ∀ k, k < n → k ≠ ob → B.heap[k]? = A.heap[k]?
theorem KO.refl (n ob : Nat) (A : World) : KO n ob A A := ⟨Nat.le_refl _, fun _ _ _ => rfl⟩
theorem KO.trans {n ob : Nat} {A B C : World} (h : KO n ob A B) (k : KO n ob B C) : KO n ob A C := ⟨Nat.le_trans h.size k.size, fun i hi ho => (k.blk i hi ho).trans (h.blk i hi ho)⟩
theorem KO.cell {n ob : Nat} {A B : World} (h : KO n ob A B) {p : Addr} {v : Value} (hp : p.block < n) (ho : p.block ≠ ob) (hc : A.cell? p = some v) : B.cell? p = some v := by
  unfold World.cell? at *
  rw [h.blk _ hp ho]
  exact hc

/-- An entry of a page: with paging off, each page is itself. -/
def mvE (n : Nat) (f : Nat → Int) (ptbr v : Int) : Int × Bool := if onB ptbr = true then mapV n f ptbr v else (v * 4096 + 31, true)
/-- The pages from one on that are mapped within so many frames, with their entries. -/
def mpL (g : Int → Int × Bool) (pages lo : Int) : Nat → List (Int × Int)
  | 0 => []
  | k + 1 => mpL g pages lo k ++ (if (g (lo + k)).2 = true ∧ (g (lo + k)).1 / 4096 < pages then [(lo + k, (g (lo + k)).1)] else [])
theorem mpL_len (g : Int → Int × Bool) (pages lo : Int) (k : Nat) : ∀ d, (mpL g pages lo k).length ≤ (mpL g pages lo (k + d)).length := by
  intro d
  induction d with
  | zero => exact Nat.le_refl _
  | succ d ih =>
    show _ ≤ (mpL g pages lo (k + d) ++ _).length
    rw [List.length_append]
    omega
theorem mpL_pre (g : Int → Int × Bool) (pages lo : Int) (k : Nat) : ∀ d, mpL g pages lo k <+: mpL g pages lo (k + d) := by
  intro d
  induction d with
  | zero => exact List.prefix_refl _
  | succ d ih => exact ih.trans (List.prefix_append _ _)
theorem mpL_yes {g : Int → Int × Bool} {pages lo : Int} {k : Nat} {e : Int} (h : g (lo + k) = (e, true)) (hp : e / 4096 < pages) : mpL g pages lo (k + 1) = mpL g pages lo k ++ [(lo + k, e)] := by
  show _ ++ _ = _
  rw [h, if_pos ⟨rfl, hp⟩]
theorem mpL_no {g : Int → Int × Bool} {pages lo : Int} {k : Nat} (h : ¬ ((g (lo + k)).2 = true ∧ (g (lo + k)).1 / 4096 < pages)) : mpL g pages lo (k + 1) = mpL g pages lo k := by
  show _ ++ _ = _
  rw [if_neg h, List.append_nil]

/-- What the iterator reads. -/
structure ShAt (W : World) (bf be bg a b n : Nat) (f : Nat → Int) (lo hi ptbr pages : Int) : Prop where
  m : Mem 74 W a b n f
  fr : W.cell? ⟨bf, 0, none⟩ = some (.int .i64 lo)
  en : W.cell? ⟨be, 0, none⟩ = some (.int .i64 hi)
  gm : W.cell? ⟨bg, 0, none⟩ = some (.iface 24 (.pointer (some ⟨a, 0, none⟩)))
  gp : W.cell? ⟨bg, 1, none⟩ = some (.int .i64 ptbr)
  gg : W.cell? ⟨bg, 2, none⟩ = some (.int .i64 pages)
/-- Where these lie: below n₀, and not the block that is written. -/
structure ShIn (n₀ ob bf be bg a b : Nat) : Prop where
  f1 : bf < n₀
  f2 : bf ≠ ob
  e1 : be < n₀
  e2 : be ≠ ob
  g1 : bg < n₀
  g2 : bg ≠ ob
  a1 : a < n₀
  a2 : a ≠ ob
  b1 : b < n₀
  b2 : b ≠ ob
theorem ShAt.keep {A B : World} {bf be bg a b n n₀ ob : Nat} {f : Nat → Int} {lo hi ptbr pages : Int} (h : ShAt A bf be bg a b n f lo hi ptbr pages) (i : ShIn n₀ ob bf be bg a b) (k : KO n₀ ob A B) : ShAt B bf be bg a b n f lo hi ptbr pages :=
  ⟨⟨h.m.ptr.of_block (k.blk a i.a1 i.a2), h.m.row.of_block (k.blk b i.b1 i.b2), h.m.rng, h.m.ne, h.m.le, h.m.mul⟩, k.cell i.f1 i.f2 h.fr, k.cell i.e1 i.e2 h.en, k.cell i.g1 i.g2 h.gm, k.cell i.g1 i.g2 h.gp, k.cell i.g1 i.g2 h.gg⟩

theorem or30 (v : Int) (h0 : 0 ≤ v) (h1 : v < 1048576) : bits .or .i64 (v * 4096) 30 = v * 4096 + 30 := or12 v 30 h0 (by omega) (by decide) (by decide)
theorem or31 (v : Int) (h0 : 0 ≤ v) (h1 : v < 1048576) : bits .or .i64 (v * 4096 + 30) 1 = v * 4096 + 31 := by
  have := bits_join .i64 62 (by decide) (fun n _ _ => by rw [IntKind.wrap_i64]; omega) 1 ((v * 2048 + 15) * 2) 1 (by omega) (by omega) (by omega) (by omega) (by omega) (by omega)
  rw [show v * 4096 + 30 = (v * 2048 + 15) * 2 by omega, show v * 4096 + 31 = (v * 2048 + 15) * 2 + 1 by omega]
  exact this

theorem mapV_rng {n : Nat} {f : Nat → Int} (hf : ∀ i, i < n → 0 ≤ f i ∧ f i < 256) (ptbr v : Int) : 0 ≤ (mapV n f ptbr v).1 ∧ (mapV n f ptbr v).1 < 4294967296 := by
  unfold mapV
  split
  · exact ⟨by decide, by decide⟩
  · split
    · rename_i e he
      have : 0 ≤ e ∧ e < 4294967296 := by
        unfold entOf at he
        by_cases a1 : okB n (adr1 ptbr (v % 1048576)) 4 = false
        · rw [if_pos a1] at he
          cases he
        rw [if_neg a1] at he
        by_cases a2 : dirB (ldV n f (adr1 ptbr (v % 1048576)) 4) = false
        · rw [if_pos a2] at he
          cases he
        rw [if_neg a2] at he
        by_cases a3 : okB n (adr2 (ldV n f (adr1 ptbr (v % 1048576)) 4) (v % 1048576)) 4 = false
        · rw [if_pos a3] at he
          cases he
        rw [if_neg a3] at he
        cases he
        exact ldV_rng hf _ _
      split
      · exact this
      · exact ⟨by decide, by decide⟩
    · exact ⟨by decide, by decide⟩

set_option maxRecDepth 100000 in
set_option maxHeartbeats 2000000 in
theorem mapped1_in (F : Fence) (n : Nat) (hf : F.fn 39) (hfm : F.fn 40) (hro : F.round = none) (hn : 1 ≤ n) (l n₀ ob bf be bg a b nn : Nat) (f : Nat → Int) (lo ptbr pages : Int) (c : Nat) (h0 : 0 ≤ lo) (h1 : lo + c ≤ 1048576) (J Jx : List (Int × Int) → World → Prop)
    (hI : ShIn n₀ ob bf be bg a b)
    (hMap : ∀ v wx, Mem 74 wx a b nn f → CallsIn F (n - 1) Try.prog 40 #[.iface 24 (.pointer (some ⟨a, 0, none⟩)), .int .i64 ptbr, .int .i64 v] wx fun e w' => e = .returned (.tuple #[.int .i64 (mapV nn f ptbr v).1, .bool (mapV nn f ptbr v).2]) ∧ wx = w')
    (hY : ∀ pre x W, J pre W → pre.length < (mpL (mvE nn f ptbr) pages lo c).length → YieldAt F (n - 1) Try.prog l #[.int .i64 x.1, .int .i64 x.2] W fun e W' =>
      (e = .returned (.bool true) ∧ J (pre ++ [x]) W' ∧ KO n₀ ob W W') ∨ (e = .returned (.bool false) ∧ Jx (pre ++ [x]) W'))
    (W : World) (hE : ShAt W bf be bg a b nn f lo (lo + c) ptbr pages) (hJ0 : J [] W) :
    CallsIn F n Try.prog 39 #[.func (.yield l) #[] #[], .pointer (some ⟨bf, 0, none⟩), .pointer (some ⟨be, 0, none⟩), .pointer (some ⟨bg, 0, none⟩)] W fun e W' => (∃ v, e = .returned v) ∧
      ((∃ ys, ys = mpL (mvE nn f ptbr) pages lo c ∧ J ys W') ∨ (∃ pre, pre <+: mpL (mvE nn f ptbr) pages lo c ∧ Jx pre W')) := by
  refine callsIn_of_wp Try.func39 rfl hf ?_ hro
  simp only [Try.ntmps39, List.size_toArray, List.length_cons, List.length_nil, Nat.reduceAdd, Nat.reduceSub, Array.replicate_succ, Array.replicate_zero, List.push_toArray, List.append_toArray, List.nil_append, List.cons_append]
  have hb0 := hE.fr
  gi_wp2
  gi_loopw [5] (fun i wr => ∃ k : Nat, k ≤ c ∧ i = .int .i64 (lo + k) ∧ J (mpL (mvE nn f ptbr) pages lo k) wr ∧ KO n₀ ob W wr)
    (fun i _ => (lo + c - intOf i).toNat)
  case atStart => exact ⟨0, Nat.zero_le _, by simp, hJ0, KO.refl _ _ _⟩
  case round =>
    obtain ⟨k, hk, rfl, hJs, hnx⟩ := hrel
    have hEr := hE.keep hI hnx
    have b1 := hEr.en
    have b2 := hEr.gm
    have b3 := hEr.gp
    have b4 := hEr.gg
    by_cases hlt : k < c
    · obtain ⟨v, hv⟩ : ∃ v : Int, lo + k = v := ⟨_, rfl⟩
      have hv0 : 0 ≤ v := by omega
      have hv1 : v < 1048576 := by omega
      have hw : IntKind.i64.wrap (v + 1) = v + 1 := IntWalk.i64_in _ (by omega)
      have hlt2 : v < lo + c := by omega
      have HN := Lib.hid (show v + 1 = lo + ((k + 1 : Nat) : Int) by omega)
      by_cases hon : ptbr / 2147483648 % 2 = 1
      · have e2 : (bits .and .i64 ptbr 2147483648 != 0) = true := by rw [bit31, bne_iff_ne]; omega
        have o1 := or30 v hv0 hv1
        have o2 := or31 v hv0 hv1
        have HG : Hid (mvE nn f ptbr (lo + k) = mapV nn f ptbr v) := by
          show _ = _
          unfold mvE onB
          rw [if_pos (by simpa using hon), hv]
        have HM := hMap v
        obtain ⟨⟨e, ok⟩, hme⟩ : ∃ m, mapV nn f ptbr v = m := ⟨_, rfl⟩
        rw [hme] at HG
        have he0 := mapV_rng hE.m.rng ptbr v
        simp only [hme] at HM he0
        obtain ⟨he0, he1⟩ := he0
        have hMr := hEr.m
        clear hme
        have HP : Hid (∀ (u : Int × Bool), mvE nn f ptbr (lo + k) = u → ((u.2 = true ∧ u.1 / 4096 < pages) → mpL (mvE nn f ptbr) pages lo (k + 1) = mpL (mvE nn f ptbr) pages lo k ++ [(v, u.1)]) ∧ (¬ (u.2 = true ∧ u.1 / 4096 < pages) → mpL (mvE nn f ptbr) pages lo (k + 1) = mpL (mvE nn f ptbr) pages lo k)) := fun u hu => ⟨fun hh => by
          rw [← hv]
          exact mpL_yes (by rw [hu]; exact Prod.ext rfl hh.1) hh.2, fun hh => mpL_no (by rw [hu]; exact hh)⟩
        rw [hv]
        clear hon
        cases ok
        · have HT := Lib.hid ((HP.out _ HG.out).2 (fun h => by cases h.1))
          clear hv
          gi_wp2_with (gi_at_call 40; refine (HM _ hMr).mono ?_; rintro e w' ⟨rfl, rfl⟩)
          refine ⟨fun _ h => (by cases h), ?_⟩
          gi_wp2
          go_roundw
          case rel => exact ⟨k + 1, by omega, by rw [HN.out], by rw [HT.out]; exact hJs, hnx⟩
          case measure => simp [intOf]; omega
        · by_cases hp : e / 4096 < pages
          · have HT := Lib.hid ((HP.out _ HG.out).1 ⟨rfl, hp⟩)
            obtain ⟨fn, tmps, assign, body, hy, hR⟩ := hY _ (v, e) wr hJs (by
              have := mpL_len (mvE nn f ptbr) pages lo (k + 1) (c - (k + 1))
              rw [show k + 1 + (c - (k + 1)) = c by omega, HT.out, List.length_append] at this
              simp only [List.length_cons, List.length_nil] at this
              omega)
            clear hv
            gi_wp2_with (gi_at_call 40; refine (HM _ hMr).mono ?_; rintro e w' ⟨rfl, rfl⟩)
            refine hR.mono ?_
            rintro e W3 (⟨rfl, hJ3, hk3⟩ | ⟨rfl, hJx3⟩)
            · gi_wp2
              go_roundw
              case rel => exact ⟨k + 1, by omega, by rw [HN.out], by rw [HT.out]; exact hJ3, hnx.trans hk3⟩
              case measure => simp [intOf]; omega
            · gi_wp2
              refine bodyPost_ret (results_none rfl _ _ _) rfl ?_
              exact ⟨⟨_, rfl⟩, .inr ⟨_, by rw [← HT.out, show c = k + 1 + (c - (k + 1)) by omega]; exact mpL_pre _ _ _ _ _, hJx3⟩⟩
          · have HT := Lib.hid ((HP.out _ HG.out).2 (fun h => hp h.2))
            clear hv
            gi_wp2_with (gi_at_call 40; refine (HM _ hMr).mono ?_; rintro e w' ⟨rfl, rfl⟩)
            refine ⟨fun _ h => (by cases h), ?_⟩
            gi_wp2
            go_roundw
            case rel => exact ⟨k + 1, by omega, by rw [HN.out], by rw [HT.out]; exact hJs, hnx⟩
            case measure => simp [intOf]; omega
      · have e2 : (bits .and .i64 ptbr 2147483648 != 0) = false := by rw [bit31, bne_eq_false_iff_eq]; omega
        have o1 := or30 v hv0 hv1
        have o2 := or31 v hv0 hv1
        have d1 : (v * 4096 + 31) / 4096 = v := by omega
        have HG : Hid (mvE nn f ptbr (lo + k) = (v * 4096 + 31, true)) := by
          show _ = _
          unfold mvE onB
          rw [if_neg (by simpa using hon), hv]
        by_cases hp : v < pages
        · have HT := Lib.hid (show mpL (mvE nn f ptbr) pages lo (k + 1) = mpL (mvE nn f ptbr) pages lo k ++ [(v, v * 4096 + 31)] by rw [← hv] at *; exact mpL_yes HG.out (by rw [d1]; exact hp))
          obtain ⟨fn, tmps, assign, body, hy, hR⟩ := hY _ (v, v * 4096 + 31) wr hJs (by
            have := mpL_len (mvE nn f ptbr) pages lo (k + 1) (c - (k + 1))
            rw [show k + 1 + (c - (k + 1)) = c by omega, HT.out, List.length_append] at this
            simp only [List.length_cons, List.length_nil] at this
            omega)
          rw [hv]
          clear hv hon
          gi_wp2
          refine hR.mono ?_
          rintro e W3 (⟨rfl, hJ3, hk3⟩ | ⟨rfl, hJx3⟩)
          · gi_wp2
            go_roundw
            case rel => exact ⟨k + 1, by omega, by rw [HN.out], by rw [HT.out]; exact hJ3, hnx.trans hk3⟩
            case measure => simp [intOf]; omega
          · gi_wp2
            refine bodyPost_ret (results_none rfl _ _ _) rfl ?_
            exact ⟨⟨_, rfl⟩, .inr ⟨_, by rw [← HT.out, show c = k + 1 + (c - (k + 1)) by omega]; exact mpL_pre _ _ _ _ _, hJx3⟩⟩
        · have HT := Lib.hid (mpL_no (g := mvE nn f ptbr) (lo := lo) (k := k) (pages := pages) (by rw [HG.out]; dsimp only; rw [d1]; exact fun h => hp h.2))
          rw [hv]
          clear hv hon
          gi_wp2
          refine ⟨fun _ h => (by cases h), ?_⟩
          gi_wp2
          go_roundw
          case rel => exact ⟨k + 1, by omega, by rw [HN.out], by rw [HT.out]; exact hJs, hnx⟩
          case measure => simp [intOf]; omega
    · obtain rfl : k = c := by omega
      have hlt2 : ¬ lo + (k : Int) < lo + (k : Int) := by omega
      gi_wp2
      go_end0
      first | exact ⟨⟨_, rfl⟩, .inl hJs⟩ | exact ⟨⟨_, rfl⟩, .inl ⟨_, rfl, hJs⟩⟩
end Go.Proofs.Ytadcmelbcahecaa

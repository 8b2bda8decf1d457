/- shadow: the one entry of one page against the guest's own walk; no program in sight. -/
import Derived.Test.YtadcmelbcahecaaShP
import Derived.Test.YtadcmelbcahecaaRWalk
namespace Go.Proofs.Ytadcmelbcahecaa
open Go.RowKit

/-- What of an entry's bits is left when the entry's own bits go: nothing. -/
theorem andNot_part (e : Int) (X : BitVec 64) (s : Int) (h : s = IntKind.i64.wrap ((BitVec.ofInt 64 e &&& X).toNat : Int)) : bits .andNot .i64 s e = 0 := by
  have hs : BitVec.ofInt 64 s = BitVec.ofInt 64 e &&& X := by
    subst h
    apply BitVec.eq_of_toNat_eq
    have h1 := ofInt64_toNat (IntKind.i64.wrap ((BitVec.ofInt 64 e &&& X).toNat : Int))
    have h2 := (BitVec.ofInt 64 e &&& X).isLt
    rw [IntKind.wrap_i64] at h1 ⊢
    omega
  show IntKind.i64.wrap ((BitVec.ofInt 64 s &&& ~~~ BitVec.ofInt 64 e).toNat : Int) = 0
  have : BitVec.ofInt 64 s &&& ~~~ BitVec.ofInt 64 e = 0#64 := by
    rw [hs, BitVec.and_comm (BitVec.ofInt 64 e) X, BitVec.and_assoc, BitVec.and_not_self]
    exact BitVec.and_zero
  rw [this]
  rfl
theorem bits_part (T : List Int) (e : Int) : bits .andNot .i64 (shBits T e) e = 0 := by
  unfold shBits
  split
  · refine andNot_part e (BitVec.ofInt 64 30 &&& ~~~ BitVec.ofInt 64 4) _ ?_
    rw [← andnot4, ← bit14]
    show IntKind.i64.wrap ((BitVec.ofInt 64 (IntKind.i64.wrap ((BitVec.ofInt 64 e &&& BitVec.ofInt 64 30).toNat : Int)) &&& ~~~ BitVec.ofInt 64 4).toNat : Int) = _
    have hs : BitVec.ofInt 64 (IntKind.i64.wrap ((BitVec.ofInt 64 e &&& BitVec.ofInt 64 30).toNat : Int)) = BitVec.ofInt 64 e &&& BitVec.ofInt 64 30 := by
      apply BitVec.eq_of_toNat_eq
      have h1 := ofInt64_toNat (IntKind.i64.wrap ((BitVec.ofInt 64 e &&& BitVec.ofInt 64 30).toNat : Int))
      have h2 := (BitVec.ofInt 64 e &&& BitVec.ofInt 64 30).isLt
      rw [IntKind.wrap_i64] at h1 ⊢
      omega
    rw [hs, BitVec.and_assoc]
  · refine andNot_part e (BitVec.ofInt 64 30) _ ?_
    rw [← bit14]
    rfl

theorem ents_one (n : Nat) (f : Nat → Int) (ptbr pages vp : Int) (h0 : 0 ≤ vp) (h1 : vp < 1048576) (hp : 1 ≤ pages) :
    entsL n f ptbr pages 100 vp 1 = if (mvE n f ptbr vp).2 = true ∧ (mvE n f ptbr vp).1 / 4096 < pages then [shEnt (tabL n f ptbr pages) 100 (vp, (mvE n f ptbr vp).1)] else [] := by
  have e1 : shLo vp = vp := by unfold shLo; rw [if_neg (by omega)]; omega
  have e2 : shN vp 1 = 1 := by unfold shN; rw [if_neg (by omega)]; omega
  have e3 : shC vp 1 = 1 := by unfold shC shHi; rw [e1, e2]; omega
  unfold entsL
  rw [e1, e3, show max 0 pages = pages by omega]
  show List.map _ ([] ++ (if (mvE n f ptbr (vp + (0 : Nat))).2 = true ∧ (mvE n f ptbr (vp + (0 : Nat))).1 / 4096 < pages then [(vp + ((0 : Nat) : Int), (mvE n f ptbr (vp + (0 : Nat))).1)] else [])) = _
  rw [show vp + ((0 : Nat) : Int) = vp by omega, List.nil_append]
  split <;> rfl

theorem needBit_k (k : Nat) : needBit (k : Int) = 8 ∨ needBit (k : Int) = 2 ∨ needBit (k : Int) = 4 := by
  unfold needBit
  split
  · exact .inl rfl
  · split
    · exact .inr (.inr rfl)
    · exact .inr (.inl rfl)

/-- An entry by which a user may: its bit stands in the shadow's, but where it is the writing one. -/
theorem acc_bit (T : List Int) (e : Int) (k : Nat) (h : accU e k = true) : bits .and .i64 (shBits T e) (needBit k) ≠ 0 ∨ needBit (k : Int) = 4 := by
  unfold accU at h
  simp only [Bool.and_eq_true, decide_eq_true_eq] at h
  obtain ⟨_, h2, _⟩ := h
  unfold hasB at h2
  unfold needBit
  by_cases k0 : (k : Int) % 4 = 0
  · rw [if_pos k0] at h2 ⊢
    have := of_decide_eq_true h2
    left
    rw [bit3]
    unfold shBits
    split <;> omega
  · rw [if_neg k0] at h2 ⊢
    by_cases k2 : (k : Int) % 4 = 2
    · rw [if_pos k2]
      exact .inr rfl
    · rw [if_neg k2] at h2 ⊢
      have := of_decide_eq_true h2
      left
      rw [bit1]
      unfold shBits
      split <;> omega

/-- What the law asks. -/
structure Wk (n : Nat) (f : Nat → Int) (ptbr pages vp : Int) (k : Nat) (L : List EntD) (pa c : Int) : Prop where
  yes : c = 0 → pa / 4096 < pages → 0 ≤ pa / 4096 ∧ ∃ bi, L = [⟨vp, 100 + pa / 4096, bi⟩] ∧ (bits .and .i64 bi (needBit k) ≠ 0 ∨ needBit (k : Int) = 4)
  no : ¬ (c = 0 ∧ pa / 4096 < pages) → L = [] ∨ ∃ fr bi, L = [⟨vp, fr, bi⟩] ∧ 100 ≤ fr ∧ fr < 100 + pages ∧ ((mapV n f ptbr vp).2 = false ∨ bits .andNot .i64 bi (mapV n f ptbr vp).1 = 0)

theorem needFault_ne (kind : Int) : needFault kind ≠ 0 := by
  unfold needFault
  split
  · decide
  · split <;> decide

theorem wk_law {n : Nat} {f : Nat → Int} (hf : ∀ i, i < n → 0 ≤ f i ∧ f i < 256) (ptbr pages va : Int) (k : Nat) (hk : k < 4) (v0 : 0 ≤ va) (v1 : va < 4294967296) (hp : 1 ≤ pages) (hp2 : pages ≤ 16) (L : List EntD) (hL : entsL n f ptbr pages 100 (va / 4096) 1 = L) :
    Wk n f ptbr pages (va / 4096) k L (walkU n f ptbr va k).1 (walkU n f ptbr va k).2 := by
  have hE := ents_one n f ptbr pages (va / 4096) (by omega) (by omega) hp
  rw [hL] at hE
  have hvm : va % 4294967296 = va := by omega
  cases hon : onB ptbr with
  | false =>
    have hw : walkU n f ptbr va k = (va, 0) := by unfold walkU; rw [if_pos hon, hvm]
    have hm : mvE n f ptbr (va / 4096) = (va / 4096 * 4096 + 31, true) := by unfold mvE; rw [if_neg (by rw [hon]; decide)]
    have e1 : (va / 4096 * 4096 + 31) / 4096 = va / 4096 := by omega
    rw [hm] at hE
    dsimp only at hE
    rw [e1] at hE
    have hT : tabL n f ptbr pages = [] := by unfold tabL; rw [if_pos hon]
    rw [hT] at hE
    rw [hw]
    refine ⟨fun _ hlt => ?_, fun hn => ?_⟩
    · rw [if_pos ⟨rfl, hlt⟩] at hE
      refine ⟨by show 0 ≤ va / 4096; omega, 30, ?_, ?_⟩
      · rw [hE]
        unfold shEnt shBits
        dsimp only
        rw [e1, IntWalk.wrap64_in _ (by omega), if_neg (by simp), show (va / 4096 * 4096 + 31) / 2 % 16 * 2 = 30 by omega]
      · rcases needBit_k k with h | h | h <;> rw [h]
        · left; decide
        · left; decide
        · right; rfl
    · left
      rw [hE, if_neg (fun h => hn ⟨rfl, h.2⟩)]
  | true =>
    have hmv : mvE n f ptbr (va / 4096) = mapV n f ptbr (va / 4096) := by unfold mvE; rw [if_pos hon]
    have hmd : va / 4096 % 1048576 = va / 4096 := by omega
    have hm : mapV n f ptbr (va / 4096) = match entOf n f ptbr (va / 4096) with
      | .ent e => if e % 2 = 1 then (e, true) else (0, false)
      | _ => (0, false) := by unfold mapV; rw [if_neg (by rw [hon]; decide), hmd]; rfl
    have hw : walkU n f ptbr va k = match entOf n f ptbr (va / 4096) with
      | .ent e => if accU e k = true then (e / 4096 * 4096 + va % 4096, 0) else (0, needFault k)
      | .dir => (0, needFault k)
      | _ => (0, 4) := by unfold walkU; rw [if_neg (by rw [hon]; decide), hvm]; rfl
    rw [hmv] at hE
    have hnf := needFault_ne (k : Int)
    -- no access: the list has none, or one of the guest's
    have hno : L = [] ∨ ∃ fr bi, L = [⟨va / 4096, fr, bi⟩] ∧ 100 ≤ fr ∧ fr < 100 + pages ∧ ((mapV n f ptbr (va / 4096)).2 = false ∨ bits .andNot .i64 bi (mapV n f ptbr (va / 4096)).1 = 0) := by
      by_cases hc : (mapV n f ptbr (va / 4096)).2 = true ∧ (mapV n f ptbr (va / 4096)).1 / 4096 < pages
      · right
        rw [if_pos hc] at hE
        have hr := mapV_rng hf ptbr (va / 4096)
        refine ⟨100 + (mapV n f ptbr (va / 4096)).1 / 4096, shBits (tabL n f ptbr pages) (mapV n f ptbr (va / 4096)).1, ?_, by omega, by omega, .inr (bits_part _ _)⟩
        rw [hE]
        unfold shEnt
        dsimp only
        rw [IntWalk.wrap64_in _ (by omega)]
      · left
        rw [hE, if_neg hc]
    cases he : entOf n f ptbr (va / 4096) with
    | bus =>
      rw [he] at hw
      rw [hw]
      exact ⟨fun h => absurd h (by show (4 : Int) ≠ 0; decide), fun _ => hno⟩
    | dir =>
      rw [he] at hw
      rw [hw]
      exact ⟨fun h => absurd h hnf, fun _ => hno⟩
    | bus2 p =>
      rw [he] at hw
      rw [hw]
      exact ⟨fun h => absurd h (by show (4 : Int) ≠ 0; decide), fun _ => hno⟩
    | ent e =>
      rw [he] at hw hm
      dsimp only at hw hm
      by_cases ha : accU e k = true
      · rw [if_pos ha] at hw
        have h1 : e % 2 = 1 := by
          unfold accU at ha
          simp only [Bool.and_eq_true, decide_eq_true_eq] at ha
          exact ha.1
        rw [if_pos h1] at hm
        have hr := mapV_rng hf ptbr (va / 4096)
        rw [hw]
        refine ⟨fun _ hlt => ?_, fun _ => hno⟩
        have e2 : (e / 4096 * 4096 + va % 4096) / 4096 = e / 4096 := by omega
        dsimp only at hlt ⊢
        rw [e2] at hlt ⊢
        rw [hm] at hE hr
        dsimp only at hE hr
        rw [if_pos ⟨rfl, hlt⟩] at hE
        refine ⟨by omega, shBits (tabL n f ptbr pages) e, ?_, acc_bit _ e k ha⟩
        rw [hE]
        unfold shEnt
        dsimp only
        rw [IntWalk.wrap64_in _ (by omega)]
      · rw [if_neg ha] at hw
        rw [hw]
        exact ⟨fun h => absurd h hnf, fun _ => hno⟩
end Go.Proofs.Ytadcmelbcahecaa

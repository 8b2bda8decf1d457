/- Plain laws of walks: what is loaded behind a store; the laws of chapter 5, with no program in sight. -/
import Derived.Test.YtmkhpahkcicfnaaWalkW
import Derived.Test.YtmkhpahkcicfnaaPhysUtil
namespace Go.Proofs.Ytmkhpahkcicfnaa
open Go.RowKit

theorem leN_congr {f g : Nat → Int} : ∀ (m p : Nat), (∀ i, p ≤ i → i < p + m → f i = g i) → leN f p m = leN g p m
  | 0, _, _ => rfl
  | m + 1, p, h => by
    simp only [leN]
    rw [h p (by omega) (by omega), leN_congr m (p + 1) (fun i h1 h2 => h i (by omega) (by omega))]

theorem ld_st_same {n : Nat} {f : Nat → Int} {p : Int} {v : Int} (h : okB n p 4 = true) : ldV n (stV n f p 4 v) p 4 = v % 4294967296 := by
  unfold ldV stV
  rw [if_pos h, if_pos h]
  exact le4_at f p.toNat v
theorem ld_st_other {n : Nat} {f : Nat → Int} {p q : Int} {v : Int} (hq : p + 4 ≤ q ∨ q + 4 ≤ p) : ldV n (stV n f p 4 v) q 4 = ldV n f q 4 := by
  unfold ldV
  split
  · rename_i h
    obtain ⟨_, h2, _, h4⟩ := okB_true h
    refine leN_congr _ _ fun i h1 h2' => ?_
    unfold stV
    split
    · rename_i hp
      obtain ⟨_, h5, _, h6⟩ := okB_true hp
      rw [show (4 : Int).toNat = 4 from rfl] at h2'
      unfold stN
      rw [show (4 : Int).toNat = 4 from rfl]
      rw [if_neg (by omega)]
    · rfl
  · rfl
theorem ld_zero (n : Nat) (p s : Int) : ldV n (fun _ => 0) p s = 0 := by
  unfold ldV
  split
  · have : ∀ m q : Nat, leN (fun _ => 0) q m = 0 := by
      intro m
      induction m with
      | zero => intro q; rfl
      | succ m ih => intro q; simp only [leN, ih]; rfl
    exact this _ _
  · rfl
theorem okB_4 {n : Nat} {p : Int} (h0 : 0 ≤ p) (h1 : p % 4 = 0) (h2 : p + 4 ≤ n) : okB n p 4 = true := decide_eq_true ⟨by omega, h0, h1, h2⟩
theorem okB_4f {n : Nat} {p : Int} (h2 : p < 0 ∨ ¬ p + 4 ≤ n) : okB n p 4 = false := decide_eq_false (by omega)

theorem need_cases (kind : Int) : (kind % 4 = 0 ∧ needFault kind = 5) ∨ (kind % 4 = 2 ∧ needFault kind = 7) ∨ (kind % 4 ≠ 0 ∧ kind % 4 ≠ 2 ∧ needFault kind = 6) := by
  unfold needFault
  by_cases h : kind % 4 = 0
  · exact .inl ⟨h, by simp [h]⟩
  · by_cases h2 : kind % 4 = 2
    · exact .inr (.inl ⟨h2, by simp [h2]⟩)
    · exact .inr (.inr ⟨h, h2, by simp [h, h2]⟩)
theorem needFault_ne (kind : Int) : needFault kind ≠ 0 := by
  have := need_cases kind
  omega

/-- What a walk tells: the address and no fault, or no address and a fault. -/
theorem walk_form (n : Nat) (f : Nat → Int) (ptbr va kind : Int) (user : Bool) (hon : onB ptbr = true) :
    (∃ e, entOf n f ptbr (va % 4294967296 / 4096) = .ent e ∧ accB e kind user = true ∧ walkV n f ptbr va kind user = (e / 4096 * 4096 + va % 4096, 0)) ∨
    (walkV n f ptbr va kind user = (0, 4) ∧ ((entOf n f ptbr (va % 4294967296 / 4096) = .bus) ∨ ∃ p, entOf n f ptbr (va % 4294967296 / 4096) = .bus2 p)) ∨
    (walkV n f ptbr va kind user = (0, needFault kind) ∧ ((entOf n f ptbr (va % 4294967296 / 4096) = .dir) ∨ ∃ e, entOf n f ptbr (va % 4294967296 / 4096) = .ent e ∧ accB e kind user = false)) := by
  unfold walkV
  rw [hon]
  simp only [Bool.true_eq_false, if_false]
  cases he : entOf n f ptbr (va % 4294967296 / 4096) with
  | bus => exact .inr (.inl ⟨rfl, .inl rfl⟩)
  | dir => exact .inr (.inr ⟨rfl, .inl rfl⟩)
  | bus2 p => exact .inr (.inl ⟨rfl, .inr ⟨p, rfl⟩⟩)
  | ent e =>
    cases ha : accB e kind user with
    | true => exact .inl ⟨e, rfl, ha, by simp [ha]⟩
    | false => exact .inr (.inr ⟨by simp [ha], .inr ⟨e, rfl, ha⟩⟩)

theorem acc_user {e kind : Int} (h : accB e kind true = true) (hk : kind % 4 ≠ 0) : accB e kind false = true := by
  unfold accB at *
  simp only [Bool.and_eq_true, Bool.or_eq_true, Bool.not_eq_true', decide_eq_true_eq, Bool.not_true, Bool.not_false, Bool.false_or, Bool.and_true, Bool.true_or, decide_eq_false_iff_not, Bool.and_eq_false_iff] at *
  obtain ⟨h1, h2, h3, _⟩ := h
  exact ⟨h1, h2, trivial, .inl hk⟩

theorem law_user (n : Nat) (f : Nat → Int) (ptbr va kind : Int) :
    (walkV n f ptbr va kind true).2 ≠ 0 ∨ kind % 4 = 0 ∨ ((walkV n f ptbr va kind false).2 = 0 ∧ (walkV n f ptbr va kind true).1 = (walkV n f ptbr va kind false).1) := by
  cases hon : onB ptbr with
  | false => right; right; unfold walkV; rw [hon]; simp
  | true =>
    have hn := needFault_ne kind
    rcases walk_form n f ptbr va kind true hon with ⟨e, he, ha, hw⟩ | ⟨hw, _⟩ | ⟨hw, _⟩
    · by_cases hk : kind % 4 = 0
      · exact .inr (.inl hk)
      · have h2 := acc_user ha hk
        rcases walk_form n f ptbr va kind false hon with ⟨e', he', ha', hw'⟩ | ⟨_, hb⟩ | ⟨_, hb⟩
        · rw [he] at he'
          injection he' with he'
          subst he'
          right; right
          rw [hw, hw']
          exact ⟨rfl, rfl⟩
        · rw [he] at hb
          rcases hb with hb | ⟨_, hb⟩ <;> cases hb
        · rw [he] at hb
          rcases hb with hb | ⟨e', hb, hb2⟩
          · cases hb
          · injection hb with hb
            subst hb
            rw [h2] at hb2
            cases hb2
    · left; rw [hw]; decide
    · left; rw [hw]; exact hn

theorem ent_rng {n : Nat} {f : Nat → Int} (hf : ∀ i, i < n → 0 ≤ f i ∧ f i < 256) {ptbr vp e : Int} (h : entOf n f ptbr vp = .ent e) : 0 ≤ e ∧ e < 4294967296 := by
  unfold entOf at h
  split at h
  · cases h
  · split at h
    · cases h
    · split at h
      · cases h
      · injection h with h
        subst h
        exact ldV_rng hf _ _

/-- What two walks within one page tell. -/
structure Offs (x y : Int × Int) (a b : Int) : Prop where
  same : x.2 = y.2
  bad : x.2 ≠ 0 → x.1 = 0 ∧ y.1 = 0
  good : x.2 = 0 → 0 ≤ x.1 ∧ 0 ≤ y.1 ∧ x.1 / 4096 = y.1 / 4096 ∧ x.1 % 4096 = a ∧ y.1 % 4096 = b

theorem law_offs {n : Nat} {f : Nat → Int} (hf : ∀ i, i < n → 0 ≤ f i ∧ f i < 256) (ptbr vpn a b kind : Int) (user : Bool) (hv0 : 0 ≤ vpn) (hv1 : vpn < 1048576) (ha0 : 0 ≤ a) (ha1 : a < 4096) (hb0 : 0 ≤ b) (hb1 : b < 4096) :
    Offs (walkV n f ptbr (vpn * 4096 + a) kind user) (walkV n f ptbr (vpn * 4096 + b) kind user) a b := by
  have e1 : (vpn * 4096 + a) % 4294967296 = vpn * 4096 + a := by omega
  have e2 : (vpn * 4096 + b) % 4294967296 = vpn * 4096 + b := by omega
  have e3 : (vpn * 4096 + a) / 4096 = vpn := by omega
  have e4 : (vpn * 4096 + b) / 4096 = vpn := by omega
  have e5 : (vpn * 4096 + a) % 4096 = a := by omega
  have e6 : (vpn * 4096 + b) % 4096 = b := by omega
  have hn := needFault_ne kind
  unfold walkV
  rw [e1, e2, e3, e4, e5, e6]
  cases onB ptbr with
  | false => exact ⟨rfl, fun h => absurd rfl h, fun _ => ⟨by show 0 ≤ vpn * 4096 + a; omega, by show 0 ≤ vpn * 4096 + b; omega, by show (vpn * 4096 + a) / 4096 = (vpn * 4096 + b) / 4096; omega, e5, e6⟩⟩
  | true =>
    simp only [Bool.true_eq_false, if_false]
    cases he : entOf n f ptbr vpn with
    | bus => exact ⟨rfl, fun _ => ⟨rfl, rfl⟩, fun h => absurd h (by show (4 : Int) ≠ 0; decide)⟩
    | dir => exact ⟨rfl, fun _ => ⟨rfl, rfl⟩, fun h => absurd h hn⟩
    | bus2 p => exact ⟨rfl, fun _ => ⟨rfl, rfl⟩, fun h => absurd h (by show (4 : Int) ≠ 0; decide)⟩
    | ent e =>
      have hr := ent_rng hf he
      cases ha : accB e kind user with
      | true =>
        simp only [ha, if_true]
        exact ⟨rfl, fun h => absurd rfl h, fun _ => ⟨by show 0 ≤ e / 4096 * 4096 + a; omega, by show 0 ≤ e / 4096 * 4096 + b; omega, by show (e / 4096 * 4096 + a) / 4096 = (e / 4096 * 4096 + b) / 4096; omega, by show (e / 4096 * 4096 + a) % 4096 = a; omega, by show (e / 4096 * 4096 + b) % 4096 = b; omega⟩⟩
      | false =>
        simp only [ha, Bool.false_eq_true, if_false]
        exact ⟨rfl, fun _ => ⟨rfl, rfl⟩, fun h => absurd h hn⟩

/-- WalkEntry. -/
structure Entry (m : Int × Bool) (x : Int × Int) (kind : Int) : Prop where
  rng : 0 ≤ m.1 ∧ m.1 < 4294967296
  no : m.2 = false → x.2 ≠ 0
  may : m.2 = true → (hasB m.1 kind = true ∧ (kind % 4 ≠ 0 ∨ m.1 / 16 % 2 = 0)) → x.2 = 0 ∧ x.1 = m.1 / 4096 * 4096
  mayn : m.2 = true → ¬ (hasB m.1 kind = true ∧ (kind % 4 ≠ 0 ∨ m.1 / 16 % 2 = 0)) → x.2 ≠ 0

theorem law_entry {n : Nat} {f : Nat → Int} (hf : ∀ i, i < n → 0 ≤ f i ∧ f i < 256) (ptbr vpn kind : Int) (hon : onB ptbr = true) (hv0 : 0 ≤ vpn) (hv1 : vpn < 1048576) :
    Entry (mapV n f ptbr vpn) (walkV n f ptbr (vpn * 4096) kind false) kind := by
  have e1 : (vpn * 4096) % 4294967296 = vpn * 4096 := by omega
  have e2 : vpn * 4096 / 4096 = vpn := by omega
  have e3 : vpn % 1048576 = vpn := by omega
  have e4 : vpn * 4096 % 4096 = 0 := by omega
  have hn := needFault_ne kind
  unfold mapV walkV
  rw [e1, e2, e3, e4, hon]
  simp only [Bool.true_eq_false, if_false]
  cases he : entOf n f ptbr vpn with
  | bus => exact ⟨by simp, fun _ => by show (4 : Int) ≠ 0; decide, fun h => (by cases h), fun h => (by cases h)⟩
  | dir => exact ⟨by simp, fun _ => hn, fun h => (by cases h), fun h => (by cases h)⟩
  | bus2 p => exact ⟨by simp, fun _ => by show (4 : Int) ≠ 0; decide, fun h => (by cases h), fun h => (by cases h)⟩
  | ent e =>
    have hr := ent_rng hf he
    by_cases h1 : e % 2 = 1
    · simp only [h1, if_true]
      have hacc : accB e kind false = (hasB e kind && (decide (kind % 4 ≠ 0) || decide (e / 16 % 2 = 0))) := by
        unfold accB
        rw [decide_eq_true h1]
        rw [Bool.eq_iff_iff]
        simp
        intros
        omega
      refine ⟨hr, fun h => (by cases h), fun _ h => ?_, fun _ h => ?_⟩
      · have : accB e kind false = true := by rw [hacc]; simp; omega
        rw [this]
        exact ⟨rfl, by show e / 4096 * 4096 + 0 = _; omega⟩
      · have : accB e kind false = false := by rw [hacc, Bool.eq_false_iff]; intro h2; apply h; simp at h2; omega
        rw [this]
        exact hn
    · simp only [h1, if_false]
      refine ⟨by simp, fun _ => ?_, fun h => (by cases h), fun h => (by cases h)⟩
      have : accB e kind false = false := by unfold accB; rw [decide_eq_false h1]; rfl
      rw [this]
      exact hn
end Go.Proofs.Ytmkhpahkcicfnaa

/- shadow: the entries that one page makes; no program in sight. -/
import Derived.Test.YtadcmelbcahecaaShP
namespace Go.Proofs.Ytadcmelbcahecaa
open Go.RowKit

theorem leN_congr {f g : Nat → Int} : ∀ (m p : Nat), (∀ i, p ≤ i → i < p + m → f i = g i) → leN f p m = leN g p m
  | 0, _, _ => rfl
  | m + 1, p, h => by
    simp only [leN]
    rw [h p (by omega) (by omega), leN_congr m (p + 1) (fun i h1 h2 => h i (by omega) (by omega))]

theorem ld_st_same {n : Nat} {f : Nat → Int} {p : Int} {v : Int} (h : okB n p 4 = true) : ldV n (stV n f p 4 v) p 4 = v % 4294967296 := by
  unfold ldV stV
  rw [if_pos h, if_pos h]
  exact le4_at f p.toNat v
theorem ld_st_other {n : Nat} {f : Nat → Int} {p q : Int} {v : Int} (hq : p + 4 ≤ q ∨ q + 4 ≤ p) : ldV n (stV n f p 4 v) q 4 = ldV n f q 4 := by
  unfold ldV
  split
  · rename_i h
    obtain ⟨_, h2, _, h4⟩ := okB_true h
    refine leN_congr _ _ fun i h1 h2' => ?_
    unfold stV
    split
    · rename_i hp
      obtain ⟨_, h5, _, h6⟩ := okB_true hp
      rw [show (4 : Int).toNat = 4 from rfl] at h2'
      unfold stN
      rw [show (4 : Int).toNat = 4 from rfl]
      rw [if_neg (by omega)]
    · rfl
  · rfl
theorem ld_zero (n : Nat) (p s : Int) : ldV n (fun _ => 0) p s = 0 := by
  unfold ldV
  split
  · have : ∀ m q : Nat, leN (fun _ => 0) q m = 0 := by
      intro m
      induction m with
      | zero => intro q; rfl
      | succ m ih => intro q; simp only [leN, ih]; rfl
    exact this _ _
  · rfl
theorem okB_4 {n : Nat} {p : Int} (h0 : 0 ≤ p) (h1 : p % 4 = 0) (h2 : p + 4 ≤ n) : okB n p 4 = true := decide_eq_true ⟨by omega, h0, h1, h2⟩

/-- The memory of the law: the directory's one entry, the table's one entry. -/
def pgF (n : Nat) (vpn e : Int) : Nat → Int := pokes n [⟨1024, 8193⟩, ⟨2048 + vpn, e⟩] (fun _ => 0)
theorem pgF_eq (n : Nat) (vpn e : Int) (h0 : 0 ≤ vpn) (h1 : vpn < 1024) : pgF n vpn e = stV n (stV n (fun _ => 0) 4096 4 8193) (8192 + 4 * vpn) 4 e := by
  have e1 : pokeB ⟨1024, 8193⟩ = true := rfl
  have e2 : pokeB ⟨2048 + vpn, e⟩ = true := decide_eq_true (by constructor <;> (show _ ≤ _; dsimp only; omega))
  unfold pgF pokes
  rw [List.foldl_cons, List.foldl_cons, List.foldl_nil, if_pos e1, if_pos e2]
  show stV n (stV n _ (4 * 1024) 4 8193) (4 * (2048 + vpn)) 4 e = _
  rw [show (4 : Int) * 1024 = 4096 by omega, show 4 * (2048 + vpn) = 8192 + 4 * vpn by omega]

theorem pg_dir {n : Nat} (hn : 12288 ≤ n) {vpn e : Int} (h0 : 0 ≤ vpn) (h1 : vpn < 1024) (k : Int) (k0 : 0 ≤ k) (k1 : k < 1024) : ldV n (pgF n vpn e) (4096 + 4 * k) 4 = if k = 0 then 8193 else 0 := by
  rw [pgF_eq n vpn e h0 h1, ld_st_other (by omega)]
  split
  · rename_i h
    subst h
    show ldV n (stV n _ 4096 4 8193) 4096 4 = _
    rw [ld_st_same (okB_4 (by omega) (by omega) (by omega))]
    decide
  · rw [ld_st_other (by omega), ld_zero]
theorem pg_ent {n : Nat} (hn : 12288 ≤ n) {vpn e : Int} (h0 : 0 ≤ vpn) (h1 : vpn < 1024) (he0 : 0 ≤ e) (he1 : e < 4294967296) (v : Int) (v0 : 0 ≤ v) (v1 : v < 1024) : ldV n (pgF n vpn e) (8192 + 4 * v) 4 = if v = vpn then e else 0 := by
  rw [pgF_eq n vpn e h0 h1]
  split
  · rename_i h
    subst h
    rw [ld_st_same (okB_4 (by omega) (by omega) (by omega))]
    omega
  · rw [ld_st_other (by omega), ld_st_other (by omega), ld_zero]

theorem pg_dirs {n : Nat} (hn : 12288 ≤ n) {vpn e : Int} (h0 : 0 ≤ vpn) (h1 : vpn < 1024) : ∀ k, k + 1 ≤ 1024 → dirsL n (pgF n vpn e) 1 (k + 1) = [2]
  | 0, _ => by
    have hl := pg_dir hn (e := e) h0 h1 0 (by omega) (by omega)
    have hi : isDir n (pgF n vpn e) 1 0 = true := by
      unfold isDir
      show (okB n (4096 + 4 * 0) 4 && dirB (ldV n (pgF n vpn e) (4096 + 4 * 0) 4)) = true
      rw [hl, okB_4 (by omega) (by omega) (by omega)]
      rfl
    show [] ++ (if isDir n (pgF n vpn e) 1 0 = true then [ldV n (pgF n vpn e) (4096 + 4 * 0) 4 / 4096] else []) = [2]
    rw [if_pos hi, hl]
    rfl
  | k + 1, hk => by
    have hl := pg_dir hn (e := e) h0 h1 ((k + 1 : Nat) : Int) (by omega) (by omega)
    rw [if_neg (by omega)] at hl
    have hi : isDir n (pgF n vpn e) 1 (k + 1) = false := by
      unfold isDir
      rw [show (1 : Int) * 4096 + 4 * ((k + 1 : Nat) : Int) = 4096 + 4 * ((k + 1 : Nat) : Int) by omega, hl]
      rw [show dirB 0 = false from rfl, Bool.and_false]
    show dirsL n (pgF n vpn e) 1 (k + 1) ++ (if isDir n (pgF n vpn e) 1 (k + 1) = true then _ else []) = [2]
    rw [pg_dirs hn h0 h1 k (by omega), hi]
    rfl
theorem pg_sort : Lib.compact (([1, 2] : List Int).mergeSort fun x y => decide (x ≤ y)) = [1, 2] := by
  rw [List.mergeSort_of_pairwise (by decide)]
  decide
theorem pg_tab {n : Nat} (hn : 12288 ≤ n) {vpn e : Int} (h0 : 0 ≤ vpn) (h1 : vpn < 1024) (pages : Int) (hp : 3 ≤ pages) : tabL n (pgF n vpn e) 2147483649 pages = [1, 2] := by
  unfold tabL
  rw [if_neg (by decide), show (2147483649 : Int) % 1048576 = 1 from rfl, pg_dirs hn h0 h1 1023 (by decide), pg_sort]
  rw [List.filter_cons_of_pos (by simp; omega), List.filter_cons_of_pos (by simp; omega)]
  rfl

theorem pg_map {n : Nat} (hn : 12288 ≤ n) {vpn e : Int} (h0 : 0 ≤ vpn) (h1 : vpn < 1024) (he0 : 0 ≤ e) (he1 : e < 4294967296) (v : Int) (v0 : 0 ≤ v) (v1 : v < 1024) : mvE n (pgF n vpn e) 2147483649 v = if v = vpn ∧ e % 2 = 1 then (e, true) else (0, false) := by
  have hd := pg_dir hn (e := e) h0 h1 0 (by omega) (by omega)
  have he := pg_ent hn h0 h1 he0 he1 v v0 v1
  have hE : entOf n (pgF n vpn e) 2147483649 v = .ent (if v = vpn then e else 0) := by
    unfold entOf
    have a1 : adr1 2147483649 v = 4096 + 4 * 0 := by unfold adr1; omega
    have a2 : adr2 8193 v = 8192 + 4 * v := by unfold adr2; omega
    rw [a1, hd, if_pos rfl, a2, he, okB_4 (by omega) (by omega) (by omega), okB_4 (by omega) (by omega) (by omega)]
    rfl
  unfold mvE mapV
  rw [if_pos (by rfl), if_neg (by decide), show v % 1048576 = v by omega, hE]
  dsimp only
  by_cases hv : v = vpn
  · by_cases h2 : e % 2 = 1
    · rw [if_pos hv, if_pos h2, if_pos ⟨hv, h2⟩]
    · rw [if_pos hv, if_neg h2, if_neg (fun h => h2 h.2)]
  · rw [if_neg hv, if_neg (by decide), if_neg (fun h => hv h.1)]

theorem mpL_none (g : Int → Int × Bool) (pages lo : Int) : ∀ k : Nat, (∀ j : Nat, j < k → (g (lo + j)).2 = false) → mpL g pages lo k = []
  | 0, _ => rfl
  | k + 1, h => by
    unfold mpL
    rw [mpL_none g pages lo k (fun j hj => h j (by omega)), if_neg (by rw [h k (by omega)]; simp)]
    rfl

theorem pg_ents {n : Nat} (hn : 12288 ≤ n) {vpn e : Int} (h0 : 0 ≤ vpn) (h1 : vpn < 1024) (he0 : 0 ≤ e) (he1 : e < 4294967296) (pages first : Int) (hp : 3 ≤ pages) :
    entsL n (pgF n vpn e) 2147483649 pages first 0 1024 = if e % 2 = 1 ∧ e / 4096 < pages then [shEnt [1, 2] first (vpn, e)] else [] := by
  unfold entsL
  rw [show max 0 pages = pages by omega, pg_tab hn h0 h1 pages hp, show shLo 0 = 0 from rfl, show shC 0 1024 = vpn.toNat + (1 + (1023 - vpn.toNat)) by rw [show shC 0 1024 = 1024 from rfl]; omega]
  rw [mpL_add, mpL_add]
  rw [mpL_none _ _ _ vpn.toNat (fun j hj => by rw [pg_map hn h0 h1 he0 he1 _ (by omega) (by omega), if_neg (by omega)])]
  rw [mpL_none _ _ _ (1023 - vpn.toNat) (fun j hj => by rw [pg_map hn h0 h1 he0 he1 _ (by omega) (by omega), if_neg (by omega)])]
  rw [List.nil_append, List.append_nil, show (0 : Int) + (vpn.toNat : Int) = vpn by omega]
  have hg := pg_map hn h0 h1 he0 he1 vpn h0 h1
  show (List.map _ ([] ++ (if (mvE n (pgF n vpn e) 2147483649 (vpn + (0 : Nat))).2 = true ∧ (mvE n (pgF n vpn e) 2147483649 (vpn + (0 : Nat))).1 / 4096 < pages then [(vpn + ((0 : Nat) : Int), (mvE n (pgF n vpn e) 2147483649 (vpn + (0 : Nat))).1)] else []))) = _
  rw [show vpn + ((0 : Nat) : Int) = vpn by omega, List.nil_append]
  by_cases h2 : e % 2 = 1
  · rw [if_pos ⟨rfl, h2⟩] at hg
    rw [hg]
    by_cases h3 : e / 4096 < pages
    · rw [if_pos ⟨rfl, h3⟩, if_pos ⟨h2, h3⟩]
      rfl
    · rw [if_neg (fun h => h3 h.2), if_neg (fun h => h3 h.2)]
      rfl
  · rw [if_neg (fun h => h2 h.2)] at hg
    rw [hg, if_neg (by simp), if_neg (fun h => h2 h.1)]
    rfl

/-- What the law asks of its one entry. -/
theorem pg_law {n : Nat} (hn : 12288 ≤ n) {vpn fr bi : Int} (h0 : 0 ≤ vpn) (h1 : vpn < 1024) (f0 : 0 ≤ fr) (f1 : fr ≤ 100) (b0 : 0 ≤ bi) (b1 : bi < 32) (pages first : Int) (hp : 3 ≤ pages) (p0 : 0 ≤ first) (p1 : first ≤ 100) (L : List EntD) (hL : entsL n (pgF n vpn (fr * 4096 + bi)) 2147483649 pages first 0 1024 = L) :
    (bi % 2 = 0 ∨ pages ≤ fr → L = []) ∧ (bi % 2 = 1 → fr < pages → L = [⟨vpn, first + fr, if fr = 1 ∨ fr = 2 then bi / 2 % 16 * 2 - bi / 4 % 2 * 4 else bi / 2 % 16 * 2⟩]) := by
  have h := pg_ents hn h0 h1 (e := fr * 4096 + bi) (by omega) (by omega) pages first hp
  have e1 : (fr * 4096 + bi) / 4096 = fr := by omega
  have e2 : (fr * 4096 + bi) % 2 = bi % 2 := by omega
  rw [hL, e1, e2] at h
  refine ⟨fun hc => by rw [h, if_neg (by omega)], fun c1 c2 => ?_⟩
  rw [h, if_pos ⟨c1, c2⟩]
  have e3 : (fr * 4096 + bi) / 2 % 16 = bi / 2 % 16 := by omega
  have e4 : (fr * 4096 + bi) / 4 % 2 = bi / 4 % 2 := by omega
  unfold shEnt shBits
  dsimp only
  rw [e1, e3, e4, IntWalk.wrap64_in _ (by omega)]
  by_cases hc : fr = 1 ∨ fr = 2
  · rw [if_pos hc, if_pos (by rcases hc with rfl | rfl <;> rfl)]
  · rw [if_neg hc, if_neg (by simp; omega)]
end Go.Proofs.Ytadcmelbcahecaa

/- FramesRows: the configuration that it makes (plain). -/
import Derived.Test.YtdhkbephofnfdaaFramesP
import Derived.Test.YtdhkbephofnfdaaCfgArg
import Derived.Deep.DeepCutAuto
namespace Go.Proofs.Ytdhkbephofnfdaa
open Go.RowKit Go.ChangeShapes Go.WideShapes Go.Deep

def iCells (z : Int) : List Value := [.int .i64 z]
set_option maxRecDepth 100000 in
theorem open_ints {H : Type} {enc : TypeId × Value → H} {W : World} {base : Nat} {v : Value} {d : DataW H} {p : List MemPlace} (hv : Value.okWide Try.prog W .any base 50 v) (h : DataW.Trod enc Try.prog W 0 (fun _ => true) true 50 v d p) :
    ∃ (ao : Option Addr) (cap : Nat) (l : List Int), v = .slice ao l.length cap ∧ Lst W ao l.length cap (l.flatMap iCells) 1 ∧ (∀ ad, ao = some ad → 0 < l.length → ad.block < W.heap.size) := by
  obtain ⟨fuel, hf⟩ := Trod_slice Try.underlying50 hv h
  obtain ⟨ao, cap, l, h1, h2, h3, _⟩ := read_slice iCells (fun _ => True) 1 (fun _ => rfl) (by decide) Try.underlying50 (by kernel_rfl) (fun fuel cs x hc ht => by
    match cs, hc with
    | [c0], _ =>
      obtain ⟨z0, rfl, _⟩ := read_int Try.underlying3 ht
      exact ⟨z0, rfl, trivial⟩) hf
  exact ⟨ao, cap, l, h1, h2, h3⟩

def abcs : ByteArray := { data := #[97, 98, 99, 100, 101, 102, 103, 104] }
def aName (k : Nat) : ByteArray := abcs.extract k (k + 1)
def fList (l : List Int) (k : Nat) : List PartD := (List.range k).map (fun i => ⟨aName i, l.getD i 0, 0⟩)
def frC (l : List Int) (more : Int) : Cfg := ⟨4 + more + (l.take l.length).sum, 10, 0, fList l l.length, [], [⟨0, 10, 0⟩]⟩
theorem fList_length (l : List Int) (k : Nat) : (fList l k).length = k := by simp [fList]
theorem fList_get (l : List Int) (n k : Nat) (hk : k < n) (hn : n ≤ l.length) : (fList l n)[k]'(by rw [fList_length]; exact hk) = ⟨aName k, l[k]'(by omega), 0⟩ := by
  unfold fList
  rw [List.getElem_map, List.getElem_range]
  congr 1
  rw [List.getD_eq_getElem?_getD, List.getElem?_eq_getElem (by omega)]
  rfl
theorem fList_psum (l : List Int) (n : Nat) (hn : n ≤ l.length) : ∀ k, k ≤ n → psum (fList l n) k = (l.take k).sum := by
  intro k
  induction k with
  | zero => intro _; simp [psum]
  | succ k ih =>
    intro hk
    rw [psum_succ _ _ (by rw [fList_length]; omega), ih (by omega), fList_get l n k (by omega) hn, List.take_succ_eq_append_getElem (by omega), List.sum_append]
    simp
theorem take_in {l : List Int} (h : ∀ x ∈ l, 1 ≤ x ∧ x ≤ 25) : ∀ k, 0 ≤ (l.take k).sum ∧ (l.take k).sum ≤ 25 * k := by
  intro k
  induction k with
  | zero => simp
  | succ k ih =>
    by_cases hk : k < l.length
    · rw [List.take_succ_eq_append_getElem hk, List.sum_append]
      have := h _ (List.getElem_mem hk)
      simp
      omega
    · rw [List.take_of_length_le (by omega)]
      rw [List.take_of_length_le (by omega)] at ih
      omega
theorem fr_chk (l : List Int) (more : Int) (hl : 1 ≤ l.length ∧ l.length ≤ 8) (hm : 0 ≤ more ∧ more ≤ 20) (h : ∀ x ∈ l, 1 ≤ x ∧ x ≤ 25) : chk (frC l more) = 0 := by
  have hs := take_in h l.length
  have h1p : partsOk (frC l more) = true := by
    unfold partsOk
    show (wi ((fList l l.length).length : Int) 1 8 && (List.range (fList l l.length).length).all (partOk (fList l l.length))) = _
    rw [fList_length]
    have h2 : l.length = 1 ∨ l.length = 2 ∨ l.length = 3 ∨ l.length = 4 ∨ l.length = 5 ∨ l.length = 6 ∨ l.length = 7 ∨ l.length = 8 := by omega
    obtain ⟨n, hn⟩ : ∃ n, l.length = n := ⟨_, rfl⟩
    rw [hn] at h2 ⊢
    rcases h2 with rfl | rfl | rfl | rfl | rfl | rfl | rfl | rfl <;> (show (_ && (List.range _).all _) = true; kernel_rfl)
  have h2p : memOk (frC l more) = true := by
    unfold memOk
    show ((fList l l.length).all (fun p => wi p.pages 1 64) && decide (((fList l l.length).map (·.pages)).sum ≤ 4 + more + (l.take l.length).sum - 4)) = _
    rw [← psum_all, fList_length, fList_psum l l.length (Nat.le_refl _) _ (Nat.le_refl _), decide_eq_true (by omega), Bool.and_true, List.all_eq_true]
    intro p hp
    obtain ⟨i, hi, rfl⟩ := List.getElem_of_mem hp
    rw [fList_length] at hi
    rw [fList_get l _ i hi (Nat.le_refl _)]
    have := h _ (List.getElem_mem hi)
    exact decide_eq_true (by dsimp only; omega)
  have h3p : chansOk (frC l more) = true := by simp [chansOk, frC]
  have h4p : winsOk (frC l more) = true := by
    simp [winsOk, winBase, winsGo, winOk, frC, wi_iff, fList_length]
    omega
  unfold chk
  rw [h1p, h2p, h3p, h4p]
  show (if wi (4 + more + (l.take l.length).sum) 5 256 = false then (11 : Int) else _) = 0
  have : 1 ≤ (l.take l.length).sum := by
    have h0 := h _ (List.getElem_mem (show 0 < l.length by omega))
    rw [List.take_length]
    have : l = l[0] :: l.drop 1 := by
      have := List.drop_eq_getElem_cons (show 0 < l.length by omega)
      rwa [List.drop_zero] at this
    rw [this, List.sum_cons]
    have h9 : 0 ≤ (l.drop 1).sum := by
      have := take_in (l := l.drop 1) (fun x hx => h x (List.mem_of_mem_drop hx)) (l.drop 1).length
      rw [List.take_length] at this
      exact this.1
    omega
  rw [show wi (4 + more + (l.take l.length).sum) 5 256 = true from decide_eq_true (by omega)]
  rfl
theorem fr_names (l : List Int) (n : Nat) : ∀ p ∈ fList l n, p.name.size ≤ maxLen := by
  intro p hp
  obtain ⟨i, _, rfl⟩ := List.mem_map.1 hp
  show (aName i).size ≤ maxLen
  unfold aName maxLen
  rw [ByteArray.size_extract, show abcs.size = 8 from rfl]
  omega
/-- What the frames' functions tell of it. -/
theorem fr_facts (l : List Int) (more : Int) (hl : 1 ≤ l.length ∧ l.length ≤ 8) (hm : 0 ≤ more ∧ more ≤ 20) (h : ∀ x ∈ l, 1 ≤ x ∧ x ≤ 25) :
    (∀ k (hk : k < l.length), firstV (frC l more) k = 4 + (l.take k).sum ∧ hostV (frC l more) k (l[k] - 1) = (4 + (l.take (k + 1)).sum - 1, true)) ∧
    (∀ j, 0 ≤ j → j < more → (guestV (frC l more) (4 + (l.take l.length).sum + j)).1 = -2) ∧
    (guestV (frC l more) (4 + (l.take l.length).sum + more)).1 = -3 ∧ (guestV (frC l more) (-1)).1 = -3 ∧ firstV (frC l more) l.length = -1 := by
  have hc := fr_chk l more hl hm h
  have hF := fine_of hc
  have hlen : (frC l more).parts.length = l.length := fList_length l _
  have hps : ∀ k, k ≤ l.length → psum (frC l more).parts k = (l.take k).sum := fun k hk => fList_psum l _ (Nat.le_refl _) k hk
  refine ⟨fun k hk => ?_, fun j h0 h1 => ?_, ?_, ?_, ?_⟩
  · have hx := h _ (List.getElem_mem hk)
    have hg : (frC l more).parts[k]'(by rw [hlen]; exact hk) = ⟨aName k, l[k], 0⟩ := fList_get l _ k hk (Nat.le_refl _)
    have ha := frames_at hc (k := k) (by rw [hlen]; exact hk) (j := l[k] - 1) (by omega) (by rw [hg]; dsimp only; omega)
    constructor
    · unfold firstV
      rw [if_neg (by rw [hlen]; rintro (h | h | h) <;> first | exact absurd h (by omega) | exact h hc)]
      rw [show ((k : Int)).toNat = k from rfl, hps k (by omega)]
    · rw [ha.1, hps k (by omega), List.take_succ_eq_append_getElem hk, List.sum_append]
      simp
      omega
  · have hs := take_in h l.length
    unfold guestV
    rw [if_neg (by rintro (h | h | h) <;> first | exact absurd h (by omega) | exact h hc | exact absurd (show 4 + more + (l.take l.length).sum ≤ _ from h) (by omega)), if_neg (by omega), guestGo_end _ _ _ (by rw [hlen, hps _ (Nat.le_refl _)]; omega) (fun p hp => (hF.each p hp).1)]
  · have hs := take_in h l.length
    unfold guestV
    rw [if_pos (.inr (.inr (by show 4 + more + (l.take l.length).sum ≤ _; omega)))]
  · unfold guestV
    rw [if_pos (.inr (.inl (by decide)))]
  · unfold firstV
    rw [if_pos (.inr (.inl (by rw [hlen]; omega)))]
theorem fr_at {w : World} {base g2 : Nat} {l : List Int} {more : Int} {cp : Nat} {ap : Option Addr} (h1 : w.ownsRow base 30 3 (.slice ap l.length cp) l.length ((fList l l.length).flatMap partCells)) (h2 : Box w g2 34 #[.int .i64 0, .int .i64 10, .int .i64 0]) :
    CfgAt w (frC l more) ap none (some ⟨g2, 0, none⟩) cp 0 1 := by
  refine ⟨?_, Lst.none _ _, h2.lst 1 1 3 _ rfl rfl (by decide) (by unfold maxLen; omega), fr_names l _⟩
  show Lst w ap (fList l l.length).length cp _ 3
  rw [fList_length]
  exact own_lst h1
/-- 'abcdefgh[k : k+1]' at once. -/
theorem abc_cut (k : Nat) (h : k < 8) (wx : World) : (Instr.slice 9 (.string { data := #[97, 98, 99, 100, 101, 102, 103, 104] }) (some (.int .i64 k)) (some (.int .i64 ((k : Int) + 1))) none).run Try.prog wx = .ok (.string (aName k)) wx := by
  have := run_slice_string (P := Try.prog) wx 9 abcs .i64 .i64 k ((k : Int) + 1) Try.underlying9 (by omega) (by omega) (by rw [show abcs.size = 8 from rfl]; omega)
  rw [show ((k : Int)).toNat = k by omega, show ((k : Int) + 1).toNat = k + 1 by omega] at this
  exact this
end Go.Proofs.Ytdhkbephofnfdaa

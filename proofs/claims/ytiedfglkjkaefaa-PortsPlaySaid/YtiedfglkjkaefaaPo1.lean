/- ports: a Net in memory. -/
import Derived.Test.YtiedfglkjkaefaaPo0
namespace Go.Proofs.Ytiedfglkjkaefaa
open Go.RowKit

/-- A Net's shape: what no call turns. -/
structure NetD where
  n : Nat
  l : List ChanD
  c0 : Value
  c1 : Value
  c2 : Value
  c3 : Value
  ac : Option Addr
  cc : Nat
  c5 : Value
  ah : Option Addr
  hc : Nat
  bs : Nat → Nat
def tyC (x : ChanD) : TypeId := if x.kind = 0 then 77 else 80
def chV (D : NetD) (i : Nat) : Value := .iface (tyC (chD D.l i)) (.pointer (some ⟨D.bs i, 0, none⟩))
def chVs (D : NetD) (k : Nat) : List Value := (List.range k).map (chV D)
theorem chVs_len (D : NetD) (k : Nat) : (chVs D k).length = k := by simp [chVs]
theorem chVs_get (D : NetD) {k i : Nat} (h : i < k) : (chVs D k)[i]? = some (chV D i) := by simp [chVs, h]
def netCs (D : NetD) (ah : Value) : Array Value := #[D.c0, D.c1, D.c2, D.c3, .slice D.ac D.l.length D.cc, D.c5, ah]

structure NetAt (w : World) (F : Nat → Prop) (D : NetD) (Q : Que) (vs : Nat → Value) : Prop where
  box : Box w D.n 76 (netCs D (.slice D.ah D.l.length D.hc))
  ls : D.l = [] ∨ w.ownsRow 0 73 5 (.slice D.ac D.l.length D.cc) D.l.length (D.l.flatMap chanCells)
  row : w.ownsRow 0 85 1 (.slice D.ah D.l.length D.hc) D.l.length (chVs D D.l.length)
  max : D.l.length ≤ 16
  fn : F D.n
  fl : 0 < D.l.length → ∀ ad, D.ac = some ad → F ad.block
  fr : ∀ ad, D.ah = some ad → F ad.block
  fb : ∀ i, i < D.l.length → F (D.bs i)
  lt : ∀ k, F k → k < w.heap.size
  ne : ∀ i j, i < D.l.length → j < D.l.length → D.bs i = D.bs j → i = j
  vne : ∀ i j, i < D.l.length → j < D.l.length → i ≠ j → ∀ g, (vs i).ownBlock = some g → (vs j).ownBlock ≠ some g
  ch : ∀ i, (h : i < D.l.length) → ChAt w F D.l[i] (D.bs i) (vs i) (Q i)

section
variable {w w' : World} {F F' P : Nat → Prop}
theorem ChAt.chg {x : ChanD} {b : Nat} {v : Value} {q : List (List Int)} (h : ChAt w F x b v q) (c : Chg w w' P) (h1 : ¬ P b) (h2 : ∀ g, v.ownBlock = some g → (∃ cur, Box w g 22 cur) → ¬ P g) (h3 : ∀ g, F g → (∃ cur, Box w g 5 cur) → ¬ P g) (hF : ∀ k, F k → F' k) : ChAt w' F' x b v q := by
  refine ⟨h.ok, h.qk, ?_⟩
  rcases h.st with ⟨hk, hb, h4⟩ | ⟨hk, hb, hf, ms, h4, h5⟩
  · refine .inl ⟨hk, hb.chg c h1, ?_⟩
    rcases h4 with h4 | ⟨xs, h4, h5⟩
    · exact .inl h4
    · exact .inr ⟨xs, h4, h5.chg c h3 hF⟩
  · exact .inr ⟨hk, hb.chg c h1, fun g hg => hF g (hf g hg), ms, h4.chg c (fun g hg => h2 g hg (h4.ty hg)), h5.chg c h3 hF⟩
theorem ChAt.boxS {x : ChanD} {b : Nat} {v : Value} {q : List (List Int)} (h : ChAt w F x b v q) (hk : x.kind = 0) : Box w b 79 #[v] ∧ ((q = [] ∧ v = .slice none 0 0) ∨ ∃ xs, q = [xs] ∧ MsgAt w F v xs) := by
  rcases h.st with ⟨_, hb, h4⟩ | ⟨hk2, _⟩
  · exact ⟨hb, h4⟩
  · rw [hk] at hk2; exact absurd hk2 (by decide)
theorem ChAt.boxQ {x : ChanD} {b : Nat} {v : Value} {q : List (List Int)} (h : ChAt w F x b v q) (hk : x.kind = 1) : Box w b 82 #[.int .i64 x.depth, v] ∧ (∀ g, v.ownBlock = some g → F g) ∧ ∃ ms, QRow w v ms ∧ MsgsAt w F ms q := by
  rcases h.st with ⟨hk2, _⟩ | ⟨_, hb, h4⟩
  · rw [hk] at hk2; exact absurd hk2 (by decide)
  · exact ⟨hb, h4⟩
/-- An object's block is none of the other kinds. -/
theorem ChAt.far {x : ChanD} {b : Nat} {v : Value} {q : List (List Int)} (h : ChAt w F x b v q) {g : Nat} {t : TypeId} {cur : Array Value} (hg : Box w g t cur) (h1 : t ≠ 79) (h2 : t ≠ 82) : g ≠ b := by
  rcases h.st with ⟨_, hb, _⟩ | ⟨_, hb, _⟩
  · exact box_ty hg hb h1
  · exact box_ty hg hb h2

theorem NetAt.chg {D : NetD} {Q : Que} {vs : Nat → Value} (N : NetAt w F D Q vs) (c : Chg w w' P) (hn : ∀ k, F k → ¬ P k) : NetAt w' F D Q vs where
  box := N.box.chg c (hn _ N.fn)
  ls := by
    rcases N.ls with h | h
    · exact .inl h
    · by_cases h0 : D.l = []
      · exact .inl h0
      refine .inr (own_chg h c (fun g hg => hn g ?_))
      have hl : 0 < D.l.length := by cases hD : D.l with | nil => exact absurd hD h0 | cons a b => simp
      cases hac : D.ac with
      | none => rw [hac] at hg; cases hg
      | some ad =>
        rw [hac] at hg
        injection hg with hg
        have := N.fl hl ad hac
        have e : ad.block = g := hg
        rw [e] at this
        exact this
  row := own_chg N.row c (fun g hg => hn g (by
    cases hah : D.ah with
    | none => rw [hah] at hg; cases hg
    | some ad =>
      rw [hah] at hg
      injection hg with hg
      have := N.fr ad hah
      have e : ad.block = g := hg
      rw [e] at this
      exact this))
  max := N.max
  fn := N.fn
  fl := N.fl
  fr := N.fr
  fb := N.fb
  lt := fun k hk => Nat.lt_of_lt_of_le (N.lt k hk) c.size
  ne := N.ne
  vne := N.vne
  ch := fun i h => (N.ch i h).chg c (hn _ (N.fb i h)) (fun g hg _ => by
    rcases (N.ch i h).st with ⟨_, _, h4⟩ | ⟨_, _, hf, _⟩
    · rcases h4 with ⟨_, h4⟩ | ⟨xs, _, h5⟩
      · rw [h4] at hg; cases hg
      · exact hn g (h5.fp g hg)
    · exact hn g (hf g hg)) (fun g hg _ => hn g hg) (fun _ h => h)

/-- One channel turns. -/
theorem NetAt.turn {D : NetD} {Q : Que} {vs : Nat → Value} (N : NetAt w F D Q vs) (i : Nat) (hi : i < D.l.length) (v' : Value) (q' : List (List Int)) (C : Chg w w' (fun k => k = D.bs i ∨ ((vs i).ownBlock = some k ∧ ∃ cur, Box w k 22 cur))) (hF : ∀ k, F k → F' k) (hF' : ∀ k, F' k → k < w'.heap.size)
    (hv : ∀ g, v'.ownBlock = some g → (vs i).ownBlock = some g ∨ ¬ F g) (hc : ChAt w' F' D.l[i] (D.bs i) v' q') : NetAt w' F' D (qSet Q i q') (fun j => if j = i then v' else vs j) := by
  have K := N.ch i hi
  have far : ∀ {g : Nat} {t : TypeId} {cur : Array Value}, Box w g t cur → t ≠ 79 → t ≠ 82 → t ≠ 22 → ¬ (g = D.bs i ∨ ((vs i).ownBlock = some g ∧ ∃ cur, Box w g 22 cur)) := by
    intro g t cur hb h1 h2 h3 h
    rcases h with h | ⟨_, cur2, h⟩
    · exact K.far hb h1 h2 h
    · exact box_ty hb h h3 rfl
  have vlt : ∀ j, j < D.l.length → ∀ g, (vs j).ownBlock = some g → F g := by
    intro j hj g hg
    rcases (N.ch j hj).st with ⟨_, _, h4⟩ | ⟨_, _, hf, _⟩
    · rcases h4 with ⟨_, h4⟩ | ⟨xs, _, h5⟩
      · rw [h4] at hg; cases hg
      · exact h5.fp g hg
    · exact hf g hg
  refine ⟨N.box.chg C (far N.box (by decide) (by decide) (by decide)), ?_, ?_, N.max, hF _ N.fn, fun h ad e => hF _ (N.fl h ad e), fun ad e => hF _ (N.fr ad e), fun j hj => hF _ (N.fb j hj), hF', N.ne, ?_, ?_⟩
  · rcases N.ls with h | h
    · exact .inl h
    · refine .inr (own_chg h C (fun g hg => ?_))
      obtain ⟨cur, hb⟩ := own_u8 h hg
      exact far hb (by decide) (by decide) (by decide)
  · refine own_chg N.row C (fun g hg => ?_)
    obtain ⟨cur, hb⟩ := own_u8 N.row hg
    exact far hb (by decide) (by decide) (by decide)
  · intro a b ha hb hab g hg
    (try dsimp only at hg ⊢)
    by_cases e1 : a = i
    · subst e1
      rw [if_pos rfl] at hg
      rw [if_neg (fun e => hab e.symm)]
      rcases hv g hg with h | h
      · exact N.vne a b ha hb hab g h
      · exact fun h2 => h (vlt b hb g h2)
    · rw [if_neg e1] at hg
      by_cases e2 : b = i
      · subst e2
        rw [if_pos rfl]
        intro h2
        rcases hv g h2 with h | h
        · exact N.vne a b ha hb hab g hg h
        · exact h (vlt a ha g hg)
      · rw [if_neg e2]
        exact N.vne a b ha hb hab g hg
  · intro j hj
    (try dsimp only)
    by_cases e : j = i
    · subst e
      rw [if_pos rfl, qSet_same]
      exact hc
    · rw [if_neg e, qSet_other Q e]
      refine (N.ch j hj).chg C ?_ ?_ ?_ hF
      · rintro (h | ⟨_, cur, h⟩)
        · exact e (N.ne j i hj hi h)
        · exact (N.ch j hj).far h (by decide) (by decide) rfl
      · rintro g hg ⟨cur, hb⟩ (h | ⟨h, _⟩)
        · exact K.far hb (by decide) (by decide) h
        · exact N.vne j i hj hi e g hg h
      · rintro g hg ⟨cur, hb⟩ h
        exact far hb (by decide) (by decide) (by decide) h
end

/-- What the walk reads of a Net that has channels. -/
theorem NetAt.cells {w : World} {F : Nat → Prop} {D : NetD} {Q : Que} {vs : Nat → Value} (N : NetAt w F D Q vs) (h0 : 0 < D.l.length) : ∃ gc gh, D.ac = some ⟨gc, 0, none⟩ ∧ D.ah = some ⟨gh, 0, none⟩ ∧ D.l.length ≤ D.cc ∧ D.cc ≤ maxLen ∧ D.l.length ≤ D.hc ∧ D.hc ≤ maxLen ∧
    Lst w (some ⟨gc, 0, none⟩) D.l.length D.cc (D.l.flatMap chanCells) 5 ∧ (∀ i, i < D.l.length → w.cell? ⟨gh, i, none⟩ = some (chV D i)) := by
  rcases N.ls with h | h
  · rw [h] at h0; exact absurd h0 (by decide)
  obtain ⟨gc, cc, e1, _, _, h1, h2⟩ := own_block h h0
  obtain ⟨gh, hc, e2, _, _, h3, h4⟩ := own_block N.row h0
  injection e1 with e1 _ e1'
  injection e2 with e2 _ e2'
  subst e1' e2'
  rw [e1] at h
  have hr := N.row
  rw [e2] at hr
  refine ⟨gc, gh, e1, e2, h1, h2, h3, h4, own_lst h, fun i hi => own_cells hr i _ (chVs_get D hi)⟩
end Go.Proofs.Ytiedfglkjkaefaa

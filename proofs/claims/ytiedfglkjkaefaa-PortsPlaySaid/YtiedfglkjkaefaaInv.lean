/- A region that draws its order, met by an invariant: each operation once, whatever order is drawn; what an operation yields may hang on the world (a fresh block). No program in sight. -/
import Derived.Test.YtiedfglkjkaefaaSeq
import Derived.Deep.RegionHeld3
namespace Go.Proofs.Ytiedfglkjkaefaa
open Go.RowKit

/-- The operations that must have come up ahead of number i. -/
def predsB (md : Region.Mode) (ops : Array Oper) (i : Nat) : List Nat :=
  match ops[i]? with
  | none => []
  | some o => (o.after.toList.filter (Region.binds md)).map (·.on)
def addAll (s t : List Nat) : List Nat := t.foldl (fun acc p => if acc.contains p then acc else p :: acc) s
theorem mem_addAll (t : List Nat) : ∀ (s : List Nat) (i : Nat), i ∈ addAll s t → i ∈ s ∨ i ∈ t := by
  induction t with
  | nil => intro s i h; exact .inl h
  | cons p t ih =>
    intro s i h
    rcases ih _ i h with h | h
    · dsimp only at h
      split at h
      · exact .inl h
      · rcases List.mem_cons.1 h with rfl | h
        · exact .inr (List.mem_cons_self ..)
        · exact .inl h
    · exact .inr (List.mem_cons_of_mem _ h)
def clo (md : Region.Mode) (ops : Array Oper) : Nat → List Nat → List Nat
  | 0, s => s
  | k + 1, s => clo md ops k (addAll s (s.flatMap (predsB md ops)))
def Down (md : Region.Mode) (ops : Array Oper) (L : Array Bool) : Prop := ∀ i, L.getD i false = true → ∀ p ∈ predsB md ops i, L.getD p false = true
theorem clo_down {md : Region.Mode} {ops : Array Oper} {L : Array Bool} (hd : Down md ops L) : ∀ (k : Nat) (s : List Nat), (∀ i ∈ s, L.getD i false = true) → ∀ i ∈ clo md ops k s, L.getD i false = true
  | 0, _, h => h
  | k + 1, s, h => clo_down hd k _ (fun i hi => by
      rcases mem_addAll _ _ _ hi with hi | hi
      · exact h i hi
      · obtain ⟨j, hj, hp⟩ := List.mem_flatMap.1 hi
        exact hd j (h j hj) i hp)
theorem clo_self {md : Region.Mode} {ops : Array Oper} : ∀ (k : Nat) (s : List Nat) (i : Nat), i ∈ s → i ∈ clo md ops k s
  | 0, _, _, h => h
  | k + 1, s, i, h => clo_self k _ i (by
      unfold addAll
      have : ∀ (t s : List Nat), i ∈ s → i ∈ t.foldl (fun acc p => if acc.contains p then acc else p :: acc) s := by
        intro t
        induction t with
        | nil => intro s h; exact h
        | cons p t ih =>
          intro s h
          apply ih
          dsimp only
          split
          · exact h
          · exact List.mem_cons_of_mem _ h
      exact this _ s h)

/-- What of the region the kernel reckons: who waits for whom. -/
def invOk (md : Region.Mode) (ops : Array Oper) (L : Array Bool) (rs : List Nat) (k : Nat) : Bool :=
  (L.size == ops.size) &&
  ((List.range ops.size).all fun i => (!(L.getD i false) || (predsB md ops i).all fun p => L.getD p false) && (predsB md ops i).all fun p => Nat.blt p i) &&
  (rs.all fun i => !(L.getD i true)) && (rs.eraseDups.length == rs.length) &&
  ((List.range ops.size).all fun f => L.getD f true || rs.contains f || rs.all fun r => (clo md ops k (predsB md ops f)).contains r)

def upd (x : Nat → Value) (i : Nat) (v : Value) : Nat → Value := fun k => bif Nat.beq k i then v else x k
theorem upd_same (x : Nat → Value) (i : Nat) (v : Value) : upd x i v i = v := by simp [upd]
theorem upd_ne (x : Nat → Value) (i : Nat) (v : Value) (k : Nat) (h : k ≠ i) : upd x i v k = x k := by
  have : Nat.beq k i = false := by
    cases hb : Nat.beq k i with
    | false => rfl
    | true => exact absurd (Nat.eq_of_beq_eq_true hb) h
  simp [upd, this]

theorem mem_preds {md : Region.Mode} {ops : Array Oper} {i p : Nat} : p ∈ predsB md ops i ↔ ∃ o, ops[i]? = some o ∧ ∃ e ∈ o.after, Region.binds md e = true ∧ e.on = p := by
  unfold predsB
  cases h : ops[i]? with
  | none => simp
  | some o =>
    simp only [List.mem_map, List.mem_filter, Array.mem_toList_iff, Option.some.injEq, exists_eq_left']
    constructor
    · rintro ⟨e, ⟨h1, h2⟩, h3⟩; exact ⟨e, h1, h2, h3⟩
    · rintro ⟨e, h1, h2, h3⟩; exact ⟨e, ⟨h1, h2⟩, h3⟩

theorem ready_iff {md : Region.Mode} {ops : Array Oper} {L : Array Bool} {i : Nat} : i ∈ Region.ready md ops L ↔ L.getD i true = false ∧ i < ops.size ∧ ∀ p ∈ predsB md ops i, L.getD p false = true := by
  rw [mem_ready]
  constructor
  · rintro ⟨h0, o, ho, h⟩
    refine ⟨h0, (Array.getElem?_eq_some_iff.1 ho).1, fun p hp => ?_⟩
    obtain ⟨o', ho', e, he, hb, rfl⟩ := mem_preds.1 hp
    rw [ho] at ho'
    injection ho' with ho'
    subst ho'
    exact h e he hb
  · rintro ⟨h0, hi, h⟩
    refine ⟨h0, ops[i], Array.getElem?_eq_getElem hi, fun e he hb => h _ (mem_preds.2 ⟨_, Array.getElem?_eq_getElem hi, e, he, hb, rfl⟩)⟩

theorem not_true_of {L : Array Bool} {i : Nat} (h : L.getD i true = false) : L.getD i false = false ∧ i < L.size := by
  rcases Nat.lt_or_ge i L.size with h' | h'
  · simp [h'] at h ⊢; exact h
  · simp [Array.getElem?_eq_none h'] at h
theorem true_of_not {L : Array Bool} {i : Nat} (hi : i < L.size) (h : ¬ L.getD i true = false) : L.getD i false = true := by
  simp [hi] at h ⊢; exact h

section
variable {P : Program} {ops : Array Oper} {Q : Exit → Act → World → Prop} {md : Region.Mode} {S : World → Prop}

/-- What is known of the order when number i comes up. -/
structure Order (md : Region.Mode) (ops : Array Oper) (k : Nat) (L : Array Bool) (i : Nat) : Prop where
  self : L.getD i true = false
  pre : ∀ p, (clo md ops k (predsB md ops i)).contains p = true → L.getD p false = true
  post : ∀ j, (clo md ops k (predsB md ops j)).contains i = true → L.getD j false = false

/-- One operation's own step. -/
def Step (P : Program) (md : Region.Mode) (ops : Array Oper) (Q : Exit → Act → World → Prop) (rs : List Nat) (k : Nat) (A : (Nat → Value) → Act) (T : Nat → Value → World → Prop) (G : Array Bool → World → Prop) (R : World → World → Prop) (i : Nat) : Prop :=
  ∃ o, ops[i]? = some o ∧ ∀ (x : Nat → Value) (w : World) (L : Array Bool), G L w → Order md ops k L i → (∀ j, (rs.contains j && (clo md ops k (predsB md ops i)).contains j) = true → T j (x j) w) →
    ∀ K' : Act → World → Prop, Shut (∀ v w', T i v w' → R w w' → G (L.setIfInBounds i true) w' → K' (A (upd x i v)) w') →
      if Region.wanted o (yielded ops (A x).tmps) = true then o.wp P (A x) w K' Q else K' ((A x).put o.dst undef) w

theorem Step.mk {rs : List Nat} {k : Nat} {A : (Nat → Value) → Act} {T : Nat → Value → World → Prop} {G : Array Bool → World → Prop} {R : World → World → Prop} {i : Nat} {o : Oper} (ho : ops[i]? = some o)
    (h : ∀ (x : Nat → Value) (w : World) (L : Array Bool), G L w → Order md ops k L i → (∀ j, (rs.contains j && (clo md ops k (predsB md ops i)).contains j) = true → T j (x j) w) →
      ∀ K' : Act → World → Prop, Shut (∀ v w', T i v w' → R w w' → G (L.setIfInBounds i true) w' → K' (A (upd x i v)) w') →
        if Region.wanted o (yielded ops (A x).tmps) = true then o.wp P (A x) w K' Q else K' ((A x).put o.dst undef) w) : Step P md ops Q rs k A T G R i := ⟨o, ho, h⟩

def Steps (P : Program) (md : Region.Mode) (ops : Array Oper) (Q : Exit → Act → World → Prop) (rs : List Nat) (k : Nat) (A : (Nat → Value) → Act) (T : Nat → Value → World → Prop) (G : Array Bool → World → Prop) (R : World → World → Prop) (l : List Nat) : Prop := ∀ i ∈ l, Step P md ops Q rs k A T G R i
theorem Steps.nil {rs : List Nat} {k : Nat} {A : (Nat → Value) → Act} {T : Nat → Value → World → Prop} {G : Array Bool → World → Prop} {R : World → World → Prop} : Steps P md ops Q rs k A T G R [] := fun _ h => by cases h
theorem Steps.cons {rs : List Nat} {k : Nat} {A : (Nat → Value) → Act} {T : Nat → Value → World → Prop} {G : Array Bool → World → Prop} {R : World → World → Prop} {i : Nat} {l : List Nat} {o : Oper} (ho : ops[i]? = some o)
    (h : ∀ (x : Nat → Value) (w : World) (L : Array Bool), G L w → Order md ops k L i → (∀ j, (rs.contains j && (clo md ops k (predsB md ops i)).contains j) = true → T j (x j) w) →
      ∀ K' : Act → World → Prop, Shut (∀ v w', T i v w' → R w w' → G (L.setIfInBounds i true) w' → K' (A (upd x i v)) w') →
        if Region.wanted o (yielded ops (A x).tmps) = true then o.wp P (A x) w K' Q else K' ((A x).put o.dst undef) w) (hl : Steps P md ops Q rs k A T G R l) : Steps P md ops Q rs k A T G R (i :: l) := fun j hj => by
  rcases List.mem_cons.1 hj with rfl | hj
  · exact ⟨o, ho, h⟩
  · exact hl j hj

theorem filter_drop (rs : List Nat) (i : Nat) (p q : Nat → Bool) (hn : rs.Nodup) (hi : i ∈ rs) (hp : p i = true) (hq : q i = false) (h : ∀ j, j ≠ i → q j = p j) : (rs.filter p).length = (rs.filter q).length + 1 := by
  induction rs with
  | nil => cases hi
  | cons a l ih =>
    have hn2 := List.nodup_cons.1 hn
    by_cases ha : a = i
    · subst ha
      have : l.filter q = l.filter p := List.filter_congr (fun x hx => h x (fun e => hn2.1 (e ▸ hx)))
      simp [hp, hq, this]
    · have hi2 : i ∈ l := (List.mem_cons.1 hi).resolve_left (fun e => ha e.symm)
      have := ih hn2.2 hi2
      have e := h a ha
      cases hpa : p a <;> rw [hpa] at e <;> simp [hpa, e, this]

theorem nodup_of_eraseDups : ∀ (n : Nat) (l : List Nat), l.length = n → l.eraseDups.length = l.length → l.Nodup := by
  intro n
  induction n using Nat.strongRecOn with
  | _ n ih =>
    intro l hn h
    cases l with
    | nil => exact List.nodup_nil
    | cons a l =>
      rw [List.eraseDups_cons] at h
      have h1 : (l.filter (fun b => !b == a)).eraseDups.length ≤ (l.filter (fun b => !b == a)).length := by
        have : ∀ (m : Nat) (l : List Nat), l.length ≤ m → l.eraseDups.length ≤ l.length := by
          intro m
          induction m with
          | zero => intro l hl; cases l with
            | nil => simp
            | cons _ _ => simp at hl
          | succ m ihm =>
            intro l hl
            cases l with
            | nil => simp
            | cons b l =>
              rw [List.eraseDups_cons, List.length_cons, List.length_cons]
              have h2 := List.length_filter_le (fun c => !c == b) l
              have := ihm (l.filter (fun c => !c == b)) (by rw [List.length_cons] at hl; omega)
              omega
        exact this _ _ (Nat.le_refl _)
      have h2 := List.length_filter_le (fun b => !b == a) l
      rw [List.length_cons, List.length_cons] at h
      have h3 : (l.filter (fun b => !b == a)).length = l.length := by omega
      have h4 : l.filter (fun b => !b == a) = l := by
        rw [List.filter_eq_self]
        exact List.length_filter_eq_length_iff.1 h3
      rw [h4] at h
      refine List.nodup_cons.2 ⟨fun ha => ?_, ih l.length (by rw [← hn]; simp) l rfl (by omega)⟩
      have := List.filter_eq_self.1 h4 a ha
      simp at this

theorem foldl_set (rs : List Nat) : ∀ (L : Array Bool), (rs.foldl (fun l i => l.setIfInBounds i true) L).size = L.size ∧ ∀ j, (rs.foldl (fun l i => l.setIfInBounds i true) L).getD j false = (L.getD j false || (rs.contains j && decide (j < L.size))) := by
  induction rs with
  | nil => intro L; exact ⟨rfl, fun j => by simp⟩
  | cons i rs ih =>
    intro L
    rw [List.foldl_cons]
    obtain ⟨h1, h2⟩ := ih (L.setIfInBounds i true)
    refine ⟨by rw [h1, Array.size_setIfInBounds], fun j => ?_⟩
    rw [h2 j, Array.size_setIfInBounds]
    by_cases hji : j = i
    · subst hji
      by_cases hlt : j < L.size
      · simp [hlt]
      · simp [hlt, Array.getElem?_eq_none (show L.size ≤ j by omega)]
    · rw [getD_set_ne false (Ne.symm hji)]
      simp [hji]

theorem wpAnyH_inv (rs : List Nat) (k : Nat) (A : (Nat → Value) → Act) (T : Nat → Value → World → Prop) (G : Array Bool → World → Prop) (R : World → World → Prop)
    {fuel : Nat} {L0 : Array Bool} {a : Act} {w : World} (fuelF : Nat)
    (hok : invOk md ops L0 rs k = true) (hfuel : fuel = fuelF + rs.length) (x0 : Nat → Value) (ha : a = A x0) (hG : G L0 w)
    (hGS : ∀ L w, G L w → S w) (hmono : ∀ j ∈ rs, ∀ v w w', R w w' → T j v w → T j v w')
    (hstep : Steps P md ops Q rs k A T G R rs)
    (hfin : ∀ x w, (∀ j, rs.contains j = true → T j (x j) w) → G (rs.foldl (fun l i => l.setIfInBounds i true) L0) w → wpAnyH P md ops Q S fuelF (rs.foldl (fun l i => l.setIfInBounds i true) L0) (A x) w) :
    wpAnyH P md ops Q S fuel L0 a w := by
  simp only [invOk, Bool.and_eq_true, List.all_eq_true, List.mem_range, beq_iff_eq, Bool.or_eq_true, Bool.not_eq_true', Nat.blt_eq] at hok
  obtain ⟨⟨⟨⟨hsz, hdn⟩, hun⟩, hdup⟩, hcl⟩ := hok
  have hnd : rs.Nodup := nodup_of_eraseDups _ rs rfl hdup
  have hdown0 : Down md ops L0 := fun i hi p hp => by
    have hlt : i < ops.size := by
      rcases Nat.lt_or_ge i L0.size with h' | h'
      · omega
      · simp [Array.getElem?_eq_none h'] at hi
    rcases (hdn i hlt).1 with h | h
    · rw [hi] at h; cases h
    · exact h p hp
  have main : ∀ (n : Nat) (L : Array Bool) (x : Nat → Value) (w : World), L.size = L0.size → Down md ops L → (∀ j, j ∉ rs → ∀ b, L.getD j b = L0.getD j b) → (∀ j ∈ rs, L.getD j false = true → T j (x j) w) → G L w →
      (rs.filter (fun j => !(L.getD j true))).length = n → wpAnyH P md ops Q S (fuelF + n) L (A x) w := by
    intro n
    induction n with
    | zero =>
      intro L x w hs hd ho hT hG hn
      have hall : ∀ j ∈ rs, L.getD j false = true := fun j hj => by
        have hlt := (not_true_of (hun j hj)).2
        refine true_of_not (by omega) (fun h => ?_)
        have := List.filter_eq_nil_iff.1 (List.eq_nil_of_length_eq_zero hn) j hj
        rw [h] at this
        exact this rfl
      have hLe : L = rs.foldl (fun l i => l.setIfInBounds i true) L0 := by
        obtain ⟨h1, h2⟩ := foldl_set rs L0
        refine Array.ext (by rw [h1, hs]) (fun j hj hj2 => ?_)
        have e := h2 j
        have e1 : L.getD j false = L[j] := by simp [hj]
        have e2 : (rs.foldl (fun l i => l.setIfInBounds i true) L0).getD j false = (rs.foldl (fun l i => l.setIfInBounds i true) L0)[j] := by simp [hj2]
        rw [← e1, ← e2, e]
        by_cases hjr : j ∈ rs
        · rw [hall j hjr]; simp [hjr]; omega
        · rw [ho j hjr]; simp [hjr]
      subst hLe
      exact hfin x w (fun j hj => by
        have hj : j ∈ rs := by simpa using hj
        exact hT j hj (hall j hj)) hG
    | succ n ih =>
      intro L x w hs hd ho hT hG hn
      refine ⟨fun h0 => ?_, fun i hi => ?_⟩
      · exfalso
        have hex : ∃ j, j < ops.size ∧ L.getD j true = false := by
          have hne : rs.filter (fun j => !(L.getD j true)) ≠ [] := fun e => by rw [e] at hn; simp at hn
          obtain ⟨j, hj⟩ := List.exists_mem_of_ne_nil _ hne
          rw [List.mem_filter] at hj
          have h1 : L.getD j true = false := by
            cases hb : L.getD j true with
            | false => rfl
            | true => have := hj.2; rw [hb] at this; cases this
          exact ⟨j, by have := (not_true_of h1).2; omega, h1⟩
        have least : ∀ m j, j ≤ m → j < ops.size → L.getD j true = false → False := by
          intro m
          induction m with
          | zero =>
            intro j hj hlt hf
            have : j ∈ Region.ready md ops L := ready_iff.2 ⟨hf, hlt, fun p hp => by have := (hdn j hlt).2 p hp; omega⟩
            rw [h0] at this; cases this
          | succ m ihm =>
            intro j hj hlt hf
            have : j ∈ Region.ready md ops L := ready_iff.2 ⟨hf, hlt, fun p hp => by
              have h1 := (hdn j hlt).2 p hp
              refine true_of_not (by omega) (fun h => ihm p (by omega) (by omega) h)⟩
            rw [h0] at this; cases this
        obtain ⟨j, h1, h2⟩ := hex
        exact least j j (Nat.le_refl _) h1 h2
      · obtain ⟨hif, hilt, hip⟩ := ready_iff.1 hi
        have hcp := clo_down hd k _ hip
        by_cases hir : i ∈ rs
        · obtain ⟨o, ho2, hst⟩ := hstep i hir
          refine wpOp_step ho2 (fun K' hK => ?_)
          refine hst x w L hG ⟨hif, fun p hp => hcp p (by simpa using hp), fun j hj => ?_⟩ (fun j hj => ?_) K' (fun v w' hTv hR hG' => ?_)
          · cases hb : L.getD j false with
            | false => rfl
            | true =>
              have := clo_down hd k _ (hd j hb) i (by simpa using hj)
              rw [(not_true_of hif).1] at this
              cases this
          · rw [Bool.and_eq_true] at hj
            exact hT j (by simpa using hj.1) (hcp j (by simpa using hj.2))
          · refine hK _ _ ⟨hGS _ _ hG', ?_⟩
            refine ih _ (upd x i v) w' (by rw [Array.size_setIfInBounds, hs]) ?_ ?_ ?_ hG' ?_
            · intro j hj p hp
              by_cases hji : j = i
              · subst hji; exact getD_set_true (hip p hp)
              · rw [getD_set_ne false (Ne.symm hji)] at hj
                exact getD_set_true (hd j hj p hp)
            · intro j hj b
              rw [getD_set_ne b (fun e : i = j => hj (e ▸ hir))]
              exact ho j hj b
            · intro j hj hLj
              by_cases hji : j = i
              · subst hji; rw [upd_same]; exact hTv
              · rw [getD_set_ne false (Ne.symm hji)] at hLj
                rw [upd_ne _ _ _ _ hji]
                exact hmono j hj _ _ _ hR (hT j hj hLj)
            · have := filter_drop rs i (fun j => !(L.getD j true)) (fun j => !((L.setIfInBounds i true).getD j true)) hnd hir (by show (!(L.getD i true)) = true; rw [hif]; rfl) (by
                have := (not_true_of hif).2
                simp [this]) (fun j hj => by
                show (!((L.setIfInBounds i true).getD j true)) = _
                rw [getD_set_ne true (Ne.symm hj)])
              omega
        · exfalso
          have h1 : L0.getD i true = false := by rw [← ho i hir true]; exact hif
          have hlt := hilt
          rcases hcl i hlt with (h | h) | h
          · rw [h1] at h; cases h
          · exact hir (by simpa using h)
          · have hne : rs.filter (fun j => !(L.getD j true)) ≠ [] := fun e => by rw [e] at hn; simp at hn
            obtain ⟨j, hj⟩ := List.exists_mem_of_ne_nil _ hne
            rw [List.mem_filter] at hj
            have h2 := hcp j (by simpa using h j hj.1)
            have h3 : L.getD j true = false := by
              cases hb : L.getD j true with
              | false => rfl
              | true => have := hj.2; rw [hb] at this; cases this
            rw [(not_true_of h3).1] at h2
            cases h2
  subst ha
  subst hfuel
  refine main rs.length L0 x0 w rfl hdown0 (fun _ _ _ => rfl) (fun j hj h => ?_) hG ?_
  · rw [(not_true_of (hun j hj)).1] at h; cases h
  · congr 1
    rw [List.filter_eq_self]
    intro j hj
    rw [hun j hj]; rfl

/-- The slot that number i fills. -/
def dstOf (ops : Array Oper) (i : Nat) : Option Tmp := (ops[i]?).bind (·.dst)
/-- A frame with the values of the operations rs laid in. -/
def lay (ops : Array Oper) (rs : List Nat) (a : Act) (x : Nat → Value) : Act := rs.foldl (fun b i => b.put (dstOf ops i) (x i)) a
theorem put_self (a : Act) (d : Option Tmp) (v : Value) (h : ∀ t, d = some t → a.tmps.getD t undef = v) : a.put d v = a := by
  cases d with
  | none => rfl
  | some t =>
    have := h t rfl
    subst this
    show ({ a with tmps := a.tmps.setIfInBounds t (a.tmps.getD t undef) } : Act) = a
    have : a.tmps.setIfInBounds t (a.tmps.getD t undef) = a.tmps := by
      refine Array.ext (by rw [Array.size_setIfInBounds]) (fun j h1 h2 => ?_)
      rw [Array.getElem_setIfInBounds]
      split
      · rename_i e; subst e; simp [h2]
      · rfl
    rw [this]
theorem lay_self (ops : Array Oper) (a : Act) : ∀ rs : List Nat, lay ops rs a (fun i => match dstOf ops i with | some d => a.tmps.getD d undef | none => undef) = a
  | [] => rfl
  | i :: rs => by
    unfold lay
    rw [List.foldl_cons, put_self a (dstOf ops i) _ (fun t ht => by dsimp only; rw [ht])]
    exact lay_self ops a rs
theorem put_put (a : Act) (d : Option Tmp) (u v : Value) : (a.put d u).put d v = a.put d v := by
  cases d with
  | none => rfl
  | some t => simp [Act.put, Array.setIfInBounds_setIfInBounds]
theorem lay_congr (ops : Array Oper) : ∀ (rs : List Nat) (a : Act) (x y : Nat → Value), (∀ i ∈ rs, x i = y i) → lay ops rs a x = lay ops rs a y
  | [], _, _, _, _ => rfl
  | i :: rs, a, x, y, h => by
    unfold lay
    rw [List.foldl_cons, List.foldl_cons, h i (List.mem_cons_self ..)]
    exact lay_congr ops rs _ x y (fun j hj => h j (List.mem_cons_of_mem _ hj))
theorem lay_put (ops : Array Oper) : ∀ (rs : List Nat) (a : Act) (x : Nat → Value) (i : Nat) (v : Value), (∀ j ∈ rs, ∀ d, dstOf ops j = some d → dstOf ops i ≠ some d) → lay ops rs (a.put (dstOf ops i) v) x = (lay ops rs a x).put (dstOf ops i) v
  | [], _, _, _, _, _ => rfl
  | j :: rs, a, x, i, v, h => by
    unfold lay
    rw [List.foldl_cons, List.foldl_cons, Act.put_comm a v (x j) (fun d hd he => h j (List.mem_cons_self ..) d he hd)]
    exact lay_put ops rs _ x i v (fun k hk => h k (List.mem_cons_of_mem _ hk))
/-- The slots of the operations rs are different ones. -/
def dstOk (ops : Array Oper) : List Nat → Bool
  | [] => true
  | i :: rs => (rs.all fun j => match dstOf ops j with | none => true | some d => !(dstOf ops i == some d)) && dstOk ops rs
theorem lay_upd (ops : Array Oper) : ∀ (rs : List Nat) (a : Act) (x : Nat → Value) (i : Nat) (v : Value), i ∈ rs → rs.Nodup → dstOk ops rs = true → lay ops rs a (upd x i v) = (lay ops rs a x).put (dstOf ops i) v
  | [], _, _, _, _, h, _, _ => by cases h
  | j :: rs, a, x, i, v, h, hn, hk => by
    rw [dstOk, Bool.and_eq_true, List.all_eq_true] at hk
    have hn2 := List.nodup_cons.1 hn
    by_cases hij : j = i
    · subst hij
      have hd : ∀ k ∈ rs, ∀ d, dstOf ops k = some d → dstOf ops j ≠ some d := fun k hk2 d hd he => by
        have := hk.1 k hk2
        rw [hd] at this
        rw [he] at this
        simp at this
      unfold lay
      rw [List.foldl_cons, List.foldl_cons, upd_same]
      have e1 := lay_congr ops rs (a.put (dstOf ops j) v) (upd x j v) x (fun k hk2 => upd_ne _ _ _ _ (fun e => hn2.1 (e ▸ hk2)))
      unfold lay at e1
      rw [e1]
      have e2 := lay_put ops rs (a.put (dstOf ops j) (x j)) x j v hd
      unfold lay at e2
      rw [put_put] at e2
      exact e2
    · have hir := (List.mem_cons.1 h).resolve_left (fun e => hij e.symm)
      unfold lay
      rw [List.foldl_cons, List.foldl_cons, upd_ne _ _ _ _ hij]
      exact lay_upd ops rs _ x i v hir hn2.2 hk.2

/-- One operation's own step, the frame written out. -/
def StepF (P : Program) (md : Region.Mode) (ops : Array Oper) (Q : Exit → Act → World → Prop) (rs : List Nat) (k : Nat) (A : (Nat → Value) → Act) (T : Nat → Value → World → Prop) (G : Array Bool → World → Prop) (R : World → World → Prop) (i : Nat) : Prop :=
  ∃ o, ops[i]? = some o ∧ ∀ (x : Nat → Value) (w : World) (L : Array Bool), G L w → Order md ops k L i → (∀ j, (rs.contains j && (clo md ops k (predsB md ops i)).contains j) = true → T j (x j) w) →
    ∀ K' : Act → World → Prop, Hid (∀ v w', T i v w' → R w w' → G (L.setIfInBounds i true) w' → K' ((A x).put o.dst v) w') →
      if Region.wanted o (yielded ops (A x).tmps) = true then o.wp P (A x) w K' Q else K' ((A x).put o.dst undef) w
def StepsF (P : Program) (md : Region.Mode) (ops : Array Oper) (Q : Exit → Act → World → Prop) (rs : List Nat) (k : Nat) (A : (Nat → Value) → Act) (T : Nat → Value → World → Prop) (G : Array Bool → World → Prop) (R : World → World → Prop) (l : List Nat) : Prop := ∀ i ∈ l, StepF P md ops Q rs k A T G R i
theorem StepsF.nil {rs : List Nat} {k : Nat} {A : (Nat → Value) → Act} {T : Nat → Value → World → Prop} {G : Array Bool → World → Prop} {R : World → World → Prop} : StepsF P md ops Q rs k A T G R [] := fun _ h => by cases h
theorem StepsF.cons {rs : List Nat} {k : Nat} {A : (Nat → Value) → Act} {T : Nat → Value → World → Prop} {G : Array Bool → World → Prop} {R : World → World → Prop} {i : Nat} {l : List Nat} {o : Oper} (ho : ops[i]? = some o)
    (h : ∀ (x : Nat → Value) (w : World) (L : Array Bool), G L w → Order md ops k L i → (∀ j, (rs.contains j && (clo md ops k (predsB md ops i)).contains j) = true → T j (x j) w) →
      ∀ K' : Act → World → Prop, Hid (∀ v w', T i v w' → R w w' → G (L.setIfInBounds i true) w' → K' ((A x).put o.dst v) w') →
        if Region.wanted o (yielded ops (A x).tmps) = true then o.wp P (A x) w K' Q else K' ((A x).put o.dst undef) w) (hl : StepsF P md ops Q rs k A T G R l) : StepsF P md ops Q rs k A T G R (i :: l) := fun j hj => by
  rcases List.mem_cons.1 hj with rfl | hj
  · exact ⟨o, ho, h⟩
  · exact hl j hj

theorem wpAnyH_inv' (rs : List Nat) (k : Nat) (T : Nat → Value → World → Prop) (G : Array Bool → World → Prop) (R : World → World → Prop)
    {fuel : Nat} {L0 : Array Bool} {a : Act} {w : World} (fuelF : Nat)
    (hok : invOk md ops L0 rs k = true) (hdst : dstOk ops rs = true) (hfuel : fuel = fuelF + rs.length) (hG : G L0 w)
    (hGS : ∀ L w, G L w → S w) (hmono : ∀ j ∈ rs, ∀ v w w', R w w' → T j v w → T j v w') {A : (Nat → Value) → Act} (hA : ∀ x, lay ops rs a x = A x)
    (hstep : StepsF P md ops Q rs k A T G R rs)
    (hfin : ∀ x w, (∀ j, rs.contains j = true → T j (x j) w) → G (rs.foldl (fun l i => l.setIfInBounds i true) L0) w → wpAnyH P md ops Q S fuelF (rs.foldl (fun l i => l.setIfInBounds i true) L0) (A x) w) :
    wpAnyH P md ops Q S fuel L0 a w := by
  have hA' : A = lay ops rs a := (funext hA).symm
  subst hA'
  have hdup : rs.eraseDups.length = rs.length := by
    simp only [invOk, Bool.and_eq_true, beq_iff_eq] at hok
    exact hok.1.2
  have hnd := nodup_of_eraseDups _ rs rfl hdup
  refine wpAnyH_inv rs k (lay ops rs a) T G R fuelF hok hfuel _ (lay_self ops a rs).symm hG hGS hmono (fun i hi => ?_) hfin
  obtain ⟨o, ho, h⟩ := hstep i hi
  refine ⟨o, ho, fun x w L hGL hO hT K' hK => h x w L hGL hO hT K' (Lib.hid (fun v w' h1 h2 h3 => ?_))⟩
  have := hK v w' h1 h2 h3
  rw [lay_upd ops rs a x i v hi hnd hdst] at this
  have hd : dstOf ops i = o.dst := by unfold dstOf; rw [ho]; rfl
  rwa [hd] at this
end
end Go.Proofs.Ytiedfglkjkaefaa

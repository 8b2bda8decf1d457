/- ports: what the channels hold, plainly; where a Net lies. -/
import Derived.Test.YtiedfglkjkaefaaCfgAt
import Derived.Test.YtiedfglkjkaefaaOwn2
namespace Go.Proofs.Ytiedfglkjkaefaa
open Go.RowKit

/-- The channel of a port, from a list's place on. -/
def portGo (part port : Int) : List ChanD → Nat → Nat → Int
  | [], _, _ => -1
  | x :: l, i, k => if x.src = part ∨ x.dst = part then (if (k : Int) = port then (i : Int) else portGo part port l (i + 1) (k + 1)) else portGo part port l (i + 1) k
def portV (l : List ChanD) (part port : Int) : Int := portGo part port l 0 0
theorem portGo_rng (part port : Int) : ∀ (l : List ChanD) (i k : Nat), portGo part port l i k = -1 ∨ ((i : Int) ≤ portGo part port l i k ∧ portGo part port l i k < (i : Int) + l.length)
  | [], _, _ => .inl rfl
  | x :: l, i, k => by
    have h1 := portGo_rng part port l (i + 1) (k + 1)
    have h2 := portGo_rng part port l (i + 1) k
    unfold portGo
    simp only [List.length_cons]
    split
    · split
      · right; omega
      · rcases h1 with h1 | h1
        · exact .inl h1
        · right; omega
    · rcases h2 with h2 | h2
      · exact .inl h2
      · right; omega
theorem portV_rng (l : List ChanD) (part port : Int) : portV l part port = -1 ∨ ∃ i : Nat, portV l part port = i ∧ i < l.length := by
  rcases portGo_rng part port l 0 0 with h | h
  · exact .inl h
  · refine .inr ⟨(portV l part port).toNat, ?_, ?_⟩ <;> unfold portV <;> omega
theorem portGo_at (part port : Int) (l : List ChanD) (i k : Nat) (h : i < l.length) : portGo part port (l.drop i) i k = if l[i].src = part ∨ l[i].dst = part then (if (k : Int) = port then (i : Int) else portGo part port (l.drop (i + 1)) (i + 1) (k + 1)) else portGo part port (l.drop (i + 1)) (i + 1) k := by
  rw [List.drop_eq_getElem_cons h]
  rfl
theorem portGo_end (part port : Int) (l : List ChanD) (i k : Nat) (h : l.length ≤ i) : portGo part port (l.drop i) i k = -1 := by
  rw [List.drop_of_length_le h]
  rfl

def chZ : ChanD := ⟨0, 0, 0, 0, 0⟩
def chD (l : List ChanD) (i : Nat) : ChanD := l.getD i chZ
theorem chD_at {l : List ChanD} {i : Nat} (h : i < l.length) : chD l i = l[i] := by
  unfold chD
  rw [List.getD_eq_getElem?_getD, List.getElem?_eq_getElem h]
  rfl
abbrev Que := Nat → List (List Int)
def qSet (Q : Que) (i : Nat) (q : List (List Int)) : Que := fun j => if j = i then q else Q j
theorem qSet_same (Q : Que) (i : Nat) (q : List (List Int)) : qSet Q i q i = q := if_pos rfl
theorem qSet_other (Q : Que) {i j : Nat} (h : j ≠ i) (q : List (List Int)) : qSet Q i q j = Q j := if_neg h
theorem qSet_self (Q : Que) (i : Nat) : qSet Q i (Q i) = Q := by
  funext j
  unfold qSet
  split
  · rename_i h; rw [h]
  · rfl

/-- What a write answers, and what it leaves. -/
def wrC (l : List ChanD) (Q : Que) (part port : Int) (n : Nat) : Int :=
  let i := portV l part port
  if i < 0 ∨ (chD l i.toNat).src ≠ part then 4294967295
  else if n = 0 ∨ (chD l i.toNat).size < (n : Int) then 4294967294
  else if (chD l i.toNat).kind = 0 then 0
  else if (chD l i.toNat).depth ≤ ((Q i.toNat).length : Int) then 4294967293 else 0
def wrQ (l : List ChanD) (Q : Que) (part port : Int) (xs : List Int) : Que :=
  let i := (portV l part port).toNat
  if wrC l Q part port xs.length = 0 then qSet Q i (if (chD l i).kind = 0 then [xs] else Q i ++ [xs]) else Q
/-- What a read answers, and what it leaves. -/
def rdOk (l : List ChanD) (Q : Que) (part port most : Int) : Bool :=
  let i := portV l part port
  decide (0 ≤ i ∧ (chD l i.toNat).dst = part ∧ Q i.toNat ≠ [] ∧ (((Q i.toNat).headD []).length : Int) ≤ most)
def rdC (l : List ChanD) (Q : Que) (part port most : Int) : Int :=
  let i := portV l part port
  if i < 0 ∨ (chD l i.toNat).dst ≠ part then 4294967295
  else if Q i.toNat = [] then 4294967293
  else if most < (((Q i.toNat).headD []).length : Int) then 4294967294
  else ((Q i.toNat).headD []).length
def rdB (l : List ChanD) (Q : Que) (part port most : Int) : List Int := if rdOk l Q part port most = true then (Q (portV l part port).toNat).headD [] else []
def rdQ (l : List ChanD) (Q : Que) (part port most : Int) : Que :=
  let i := (portV l part port).toNat
  if rdOk l Q part port most = true ∧ (chD l i).kind = 1 then qSet Q i (Q i).tail else Q
def stC (l : List ChanD) (Q : Que) (part port : Int) : Int := if portV l part port < 0 then 4294967295 else ((Q (portV l part port).toNat).length : Int)
/-- The messages that wait for a partition, in the channels below k. -/
def msK (l : List ChanD) (Q : Que) (part : Int) : Nat → Int
  | 0 => 0
  | k + 1 => msK l Q part k + if (chD l k).dst = part ∧ (chD l k).kind = 1 then ((Q k).length : Int) else 0

def byteL (xs : List Int) : Prop := ∀ x ∈ xs, 0 ≤ x ∧ x < 256
/-- What channels may be, and what they may hold. -/
structure ChOk (x : ChanD) : Prop where
  kind : x.kind = 0 ∨ x.kind = 1
  size : x.size ≤ 64
  depth : 1 ≤ x.depth ∧ x.depth ≤ 16
structure QuOk (x : ChanD) (q : List (List Int)) : Prop where
  len : (q.length : Int) ≤ x.depth
  one : x.kind = 0 → q.length ≤ 1
  msg : ∀ xs ∈ q, byteL xs ∧ 0 < xs.length ∧ xs.length ≤ 64
theorem QuOk.nil {x : ChanD} (h : ChOk x) : QuOk x [] := ⟨by have := h.depth; simp; omega, fun _ => by simp, fun xs hx => (by cases hx)⟩
theorem msK_rng {l : List ChanD} {Q : Que} (h : ∀ i, i < l.length → (Q i).length ≤ 16) (part : Int) : ∀ k, k ≤ l.length → 0 ≤ msK l Q part k ∧ msK l Q part k ≤ 16 * (k : Int)
  | 0, _ => ⟨Int.le_refl _, by unfold msK; omega⟩
  | k + 1, hk => by
    have h1 := msK_rng h part k (by omega)
    have h2 := h k (by omega)
    unfold msK
    split <;> omega

/-- A message: its bytes in a row of their own. -/
structure MsgAt (w : World) (F : Nat → Prop) (v : Value) (xs : List Int) : Prop where
  own : w.ownsRow 0 5 1 v xs.length (u8s xs)
  fp : ∀ g, v.ownBlock = some g → F g
def MsgsAt (w : World) (F : Nat → Prop) : List Value → List (List Int) → Prop
  | [], [] => True
  | v :: ms, xs :: q => MsgAt w F v xs ∧ MsgsAt w F ms q
  | _, _ => False
/-- A queue's row: it may begin anywhere in its block. -/
def QRow (w : World) (v : Value) (ms : List Value) : Prop :=
  (v = .slice none 0 0 ∧ ms = []) ∨ ∃ g o cap cur, v = .slice (some ⟨g, o, none⟩) ms.length cap ∧ Box w g 22 cur ∧ ms.length ≤ cap ∧ cap ≤ maxLen ∧ o + cap ≤ cur.size ∧ (cur.toList.drop o).take ms.length = ms
/-- One channel: its object b, the slice value v that it holds. -/
structure ChAt (w : World) (F : Nat → Prop) (x : ChanD) (b : Nat) (v : Value) (q : List (List Int)) : Prop where
  ok : ChOk x
  qk : QuOk x q
  st : (x.kind = 0 ∧ Box w b 79 #[v] ∧ ((q = [] ∧ v = .slice none 0 0) ∨ ∃ xs, q = [xs] ∧ MsgAt w F v xs)) ∨
    (x.kind = 1 ∧ Box w b 82 #[.int .i64 x.depth, v] ∧ (∀ g, v.ownBlock = some g → F g) ∧ ∃ ms, QRow w v ms ∧ MsgsAt w F ms q)

theorem own_u8 {w : World} {e : TypeId} {base size n : Nat} {v : Value} {xs : List Value} (h : w.ownsRow base e size v n xs) {g : Nat} (hg : v.ownBlock = some g) : ∃ cur, Box w g e cur := by
  rcases h.2 with ⟨rfl, _⟩ | ⟨b, cap, cur, rfl, _, hh, _⟩
  · cases hg
  · injection hg with hg
    have hg' : b = g := hg
    subst hg'
    exact ⟨cur, hh⟩
theorem box_ty {w : World} {g h : Nat} {t u : TypeId} {a b : Array Value} (x : Box w g t a) (y : Box w h u b) (hn : t ≠ u) : g ≠ h := by
  intro e
  subst e
  unfold Box at x y
  rw [x] at y
  injection y with y
  injection y with _ y
  exact hn y
theorem QRow.ty {w : World} {v : Value} {ms : List Value} (h : QRow w v ms) {g : Nat} (hg : v.ownBlock = some g) : ∃ cur, Box w g 22 cur := by
  rcases h with ⟨rfl, _⟩ | ⟨b, o, cap, cur, rfl, hh, _⟩
  · cases hg
  · injection hg with hg
    have hg' : b = g := hg
    subst hg'
    exact ⟨cur, hh⟩
section
variable {w w' : World} {F F' P : Nat → Prop}
theorem MsgAt.chg {v : Value} {xs : List Int} (h : MsgAt w F v xs) (c : Chg w w' P) (hn : ∀ g, F g → (∃ cur, Box w g 5 cur) → ¬ P g) (hF : ∀ k, F k → F' k) : MsgAt w' F' v xs :=
  ⟨own_chg h.own c (fun g hg => hn g (h.fp g hg) (own_u8 h.own hg)), fun g hg => hF g (h.fp g hg)⟩
theorem MsgsAt.chg (c : Chg w w' P) (hn : ∀ g, F g → (∃ cur, Box w g 5 cur) → ¬ P g) (hF : ∀ k, F k → F' k) : ∀ {ms : List Value} {q : List (List Int)}, MsgsAt w F ms q → MsgsAt w' F' ms q
  | [], [], _ => trivial
  | _ :: _, _ :: _, h => ⟨MsgAt.chg h.1 c hn hF, MsgsAt.chg c hn hF h.2⟩
  | [], _ :: _, h => h.elim
  | _ :: _, [], h => h.elim
theorem MsgsAt.length : ∀ {ms : List Value} {q : List (List Int)}, MsgsAt w F ms q → ms.length = q.length
  | [], [], _ => rfl
  | _ :: ms, _ :: q, h => by rw [List.length_cons, List.length_cons, MsgsAt.length h.2]
  | [], _ :: _, h => h.elim
  | _ :: _, [], h => h.elim
theorem MsgsAt.snoc {v : Value} {xs : List Int} (m : MsgAt w F v xs) : ∀ {ms : List Value} {q : List (List Int)}, MsgsAt w F ms q → MsgsAt w F (ms ++ [v]) (q ++ [xs])
  | [], [], _ => ⟨m, trivial⟩
  | _ :: _, _ :: _, h => ⟨h.1, MsgsAt.snoc m h.2⟩
  | [], _ :: _, h => h.elim
  | _ :: _, [], h => h.elim
theorem MsgsAt.tail : ∀ {ms : List Value} {q : List (List Int)}, MsgsAt w F ms q → MsgsAt w F ms.tail q.tail
  | [], [], _ => trivial
  | _ :: _, _ :: _, h => h.2
  | [], _ :: _, h => h.elim
  | _ :: _, [], h => h.elim
theorem MsgsAt.one (h : ∀ v xs, MsgAt w F v xs → MsgAt w' F' v xs) : ∀ {ms : List Value} {q : List (List Int)}, MsgsAt w F ms q → MsgsAt w' F' ms q
  | [], [], _ => trivial
  | _ :: _, _ :: _, k => ⟨h _ _ k.1, MsgsAt.one h k.2⟩
  | [], _ :: _, k => k.elim
  | _ :: _, [], k => k.elim
theorem QRow.chg {v : Value} {ms : List Value} (h : QRow w v ms) (c : Chg w w' P) (hn : ∀ g, v.ownBlock = some g → ¬ P g) : QRow w' v ms := by
  rcases h with h | ⟨b, o, cap, cur, rfl, hh, r⟩
  · exact .inl h
  · exact .inr ⟨b, o, cap, cur, rfl, hh.chg c (hn b rfl), r⟩
theorem QRow.of_own {base n : Nat} {v : Value} {ms : List Value} (h : w.ownsRow base 22 1 v n ms) : QRow w v ms := by
  have hl : ms.length = n := by have := h.1; omega
  rcases h.2 with ⟨rfl, h0⟩ | ⟨g, cap, cur, rfl, _, hh, h1, h2, h3, h4⟩
  · exact .inl ⟨rfl, List.eq_nil_of_length_eq_zero (by omega)⟩
  · refine .inr ⟨g, 0, cap, cur, by rw [hl], hh, by omega, h2, by omega, ?_⟩
    rw [List.drop_zero, hl]
    rw [Nat.mul_one] at h4
    exact h4
theorem QRow.form {v : Value} {ms : List Value} (h : QRow w v ms) : ∃ ao cap, v = .slice ao ms.length cap ∧ ms.length ≤ cap ∧ cap ≤ maxLen ∧ (ao = none → ms = [] ∧ cap = 0) ∧ ∀ ad, ao = some ad → ∃ g o, ad = ⟨g, o, none⟩ ∧ g < w.heap.size := by
  rcases h with ⟨rfl, rfl⟩ | ⟨g, o, cap, cur, rfl, hh, h1, h2, _⟩
  · exact ⟨none, 0, rfl, Nat.le_refl _, Nat.zero_le _, fun _ => ⟨rfl, rfl⟩, fun ad h => (by cases h)⟩
  · exact ⟨_, cap, rfl, h1, h2, fun h => (by cases h), fun ad h => (by cases h; exact ⟨g, o, rfl, hh.lt⟩)⟩
theorem QRow.cells {g o cap : Nat} {ms : List Value} {n : Nat} (h : QRow w (.slice (some ⟨g, o, none⟩) n cap) ms) : ∃ cur, Box w g 22 cur ∧ n = ms.length ∧ n ≤ cap ∧ cap ≤ maxLen ∧ o + cap ≤ cur.size ∧ (cur.toList.drop o).take n = ms ∧ ∀ j u, ms[j]? = some u → w.cell? ⟨g, o + j, none⟩ = some u := by
  rcases h with ⟨h0, _⟩ | ⟨g', o', cap', cur, hv, hh, h1, h2, h3, h4⟩
  · cases h0
  · injection hv with e1 e2 e3
    injection e1 with e1
    have eg : g = g' := congrArg Addr.block e1
    have eo : o = o' := congrArg Addr.off e1
    subst eg eo e3 e2
    refine ⟨cur, hh, rfl, h1, h2, h3, h4, fun j u hu => ?_⟩
    rw [hh.cell]
    have hj := (List.getElem?_eq_some_iff.1 hu).1
    rw [← h4, List.getElem?_take, if_pos hj, List.getElem?_drop] at hu
    simpa using hu
end
end Go.Proofs.Ytiedfglkjkaefaa

/- health: what a monitor knows: the plain law. No program in sight. -/
import Derived.Test.YtdhkbephofnfdaaBase
namespace Go.Proofs.Ytdhkbephofnfdaa
open Go.RowKit

/-- What a monitor knows of a partition; an event. -/
structure PartH where
  act : Int
  stays : Bool
  cnt : Int
structure EvH where
  tick : Int
  part : Int
  what : Int
instance : Inhabited PartH := ⟨⟨0, false, 0⟩⟩
instance : Inhabited EvH := ⟨⟨0, 0, 0⟩⟩
structure HS where
  ps : List PartH
  evs : List EvH
def pushE (l : List EvH) (e : EvH) : List EvH := if 1000 < (l ++ [e]).length then (l ++ [e]).drop 1 else l ++ [e]
/-- A look. -/
def seeS (S : HS) (tick n : Int) (halt stuck : Bool) : HS × Int :=
  if n < 0 ∨ (S.ps.length : Int) ≤ n ∨ (halt = false ∧ stuck = false) then (S, 0)
  else if halt = false ∧ (S.ps.getD n.toNat default).act = 1 then (⟨S.ps.set n.toNat ⟨(S.ps.getD n.toNat default).act, false, (S.ps.getD n.toNat default).cnt + 1⟩, pushE S.evs ⟨tick, n, 2⟩⟩, 2)
  else if (S.ps.getD n.toNat default).stays = false then (⟨S.ps.set n.toNat ⟨(S.ps.getD n.toNat default).act, true, (S.ps.getD n.toNat default).cnt + 1⟩, pushE S.evs ⟨tick, n, 1⟩⟩, 1)
  else (S, 1)

theorem pushE_len (l : List EvH) (e : EvH) (h : l.length ≤ 1000) : (pushE l e).length = min (l.length + 1) 1000 := by
  unfold pushE
  split
  · rename_i h1; simp at h1 ⊢; omega
  · rename_i h1; simp at h1 ⊢; omega

/-- The ring that the program keeps, and the events that it stands for. -/
structure Ring (ring : List EvH) (first : Nat) (evs : List EvH) : Prop where
  le : ring.length ≤ 1000
  lt : first < 1000
  zero : ring.length < 1000 → first = 0
  is : evs = ring.drop first ++ ring.take first
theorem Ring.nil : Ring [] 0 [] := ⟨by simp, by decide, fun _ => rfl, rfl⟩
theorem Ring.len {ring : List EvH} {first : Nat} {evs : List EvH} (h : Ring ring first evs) : evs.length = ring.length := by
  rw [h.is, List.length_append, List.length_drop, List.length_take]
  have := h.zero
  have := h.lt
  omega
theorem Ring.grow {ring : List EvH} {first : Nat} {evs : List EvH} (h : Ring ring first evs) (hl : ring.length < 1000) (e : EvH) : Ring (ring ++ [e]) first (pushE evs e) := by
  have h0 := h.zero hl
  have hlen := h.len
  have he := h.is
  subst h0
  refine ⟨by simp; omega, by decide, fun _ => rfl, ?_⟩
  simp at he ⊢
  subst he
  unfold pushE
  rw [if_neg (by simp; omega)]
theorem Ring.turn {ring : List EvH} {first : Nat} {evs : List EvH} (h : Ring ring first evs) (hl : ring.length = 1000) (e : EvH) : Ring (ring.set first e) ((first + 1) % 1000) (pushE evs e) := by
  have hlen := h.len
  have hlt := h.lt
  have he := h.is
  refine ⟨by simp; omega, by omega, by simp; omega, ?_⟩
  have h1 : pushE evs e = (evs ++ [e]).drop 1 := by unfold pushE; rw [if_pos (by simp; omega)]
  have h2 : (evs ++ [e]).drop 1 = ring.drop (first + 1) ++ (ring.take first ++ [e]) := by
    rw [he, List.append_assoc, List.drop_append_of_le_length (by simp; omega), List.drop_drop]
  rw [h1, h2]
  by_cases hf : first + 1 = 1000
  · have h3 : (first + 1) % 1000 = 0 := by omega
    rw [h3, List.drop_eq_nil_of_le (by omega), List.take_zero, List.append_nil, List.drop_zero, List.nil_append]
    rw [List.set_eq_take_append_cons_drop, if_pos (by omega), List.drop_eq_nil_of_le (by omega)]
  · have h3 : (first + 1) % 1000 = first + 1 := by omega
    rw [h3, List.drop_set_of_lt (by omega), List.take_succ_eq_append_getElem (by simp; omega), List.take_set_of_le (Nat.le_refl _)]
    simp
theorem Ring.get {ring : List EvH} {first : Nat} {evs : List EvH} (h : Ring ring first evs) (i : Nat) (hi : i < ring.length) : evs[i]? = ring[(first + i) % ring.length]? := by
  rw [h.is]
  have hz := h.zero
  have hlt := h.lt
  have hle := h.le
  by_cases h1 : i < ring.length - first
  · rw [List.getElem?_append_left (by simp; omega), List.getElem?_drop, Nat.mod_eq_of_lt (by omega)]
  · have hd : first < ring.length ∨ ring.length < 1000 := by omega
    have hfl : first < ring.length := by rcases hd with h2 | h2; exact h2; have := hz h2; omega
    have h3 : (first + i) % ring.length = first + i - ring.length := by
      rw [Nat.mod_eq_sub_mod (by omega), Nat.mod_eq_of_lt (by omega)]
    rw [List.getElem?_append_right (by simp; omega), h3, List.length_drop, List.getElem?_take_of_lt (by omega)]
    congr 1
    omega

/-- The state is a sound one: the counts are small. -/
structure HOk (S : HS) (k : Nat) : Prop where
  n8 : S.ps.length ≤ 8
  acts : ∀ p ∈ S.ps, 0 ≤ p.act ∧ p.act ≤ 1
  cnt : ∀ p ∈ S.ps, 0 ≤ p.cnt ∧ p.cnt ≤ k
  le : S.evs.length ≤ 1000
theorem seeS_ok {S : HS} {k : Nat} (h : HOk S k) (tick n : Int) (halt stuck : Bool) : HOk (seeS S tick n halt stuck).1 (k + 1) := by
  have keep : HOk S (k + 1) := ⟨h.n8, h.acts, fun p hp => by have := h.cnt p hp; omega, h.le⟩
  unfold seeS
  split
  · exact keep
  · rename_i hn
    have hlt : n.toNat < S.ps.length := by omega
    have hmem : S.ps.getD n.toNat default ∈ S.ps := by
      rw [List.getD_eq_getElem?_getD, List.getElem?_eq_getElem hlt]
      exact List.getElem_mem hlt
    have ha := h.acts _ hmem
    have hc := h.cnt _ hmem
    have key : ∀ (b : Bool) (e : EvH), HOk ⟨S.ps.set n.toNat ⟨(S.ps.getD n.toNat default).act, b, (S.ps.getD n.toNat default).cnt + 1⟩, pushE S.evs e⟩ (k + 1) := by
      intro b e
      refine ⟨by simpa using h.n8, fun p hp => ?_, fun p hp => ?_, ?_⟩
      · rcases List.mem_or_eq_of_mem_set hp with hp | rfl
        · exact h.acts p hp
        · exact ha
      · rcases List.mem_or_eq_of_mem_set hp with hp | rfl
        · have := h.cnt p hp; omega
        · show 0 ≤ _ + 1 ∧ _ + 1 ≤ ((k + 1 : Nat) : Int); omega
      · show (pushE S.evs e).length ≤ 1000
        rw [pushE_len _ _ h.le]; omega
    split
    · exact key _ _
    · split
      · exact key _ _
      · exact keep
end Go.Proofs.Ytdhkbephofnfdaa

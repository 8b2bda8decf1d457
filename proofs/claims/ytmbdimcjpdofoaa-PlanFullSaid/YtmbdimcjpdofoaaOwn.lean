/- Rows that the call owns, beside blocks that are known whole. -/
import Derived.Test.YtmbdimcjpdofoaaWrong0
import Derived.Deep.AppendLies
namespace Go.Proofs.Ytmbdimcjpdofoaa
open Go.RowKit

theorem info_chan : (Try.prog.info? 49).map (fun i => (i.zero, i.size, i.bytes)) = some (some (.agg #[.int .i64 0, .int .i64 0, .int .i64 0, .int .i64 0, .int .i64 0]), 5, 40) := by kernel_rfl
theorem info_win : (Try.prog.info? 38).map (fun i => (i.zero, i.size, i.bytes)) = some (some (.agg #[.int .i64 0, .int .i64 0, .int .i64 0]), 3, 24) := by kernel_rfl

/-- The block of a list under work is another one than the configuration's. -/
theorem own_ne {w : World} {base g : Nat} {e t : TypeId} {size : Nat} {v : Value} {n : Nat} {xs : List Value} {cs : Array Value} (h : w.ownsRow base e size v n xs) (hb : Box w g t cs) (he : e ≠ t) : ∀ k, v.ownBlock = some k → k ≠ g := by
  intro k hk e2
  subst e2
  rcases h.2 with ⟨rfl, _⟩ | ⟨b, cap, cur, rfl, _, hh, _⟩
  · cases hk
  · injection hk with hk
    unfold Box at hb
    have hk' : b = k := hk
    subst hk'
    rw [hh] at hb
    injection hb with hb
    injection hb with _ hb
    exact he hb

theorem own_alloc {w : World} {base : Nat} {e : TypeId} {size : Nat} {v : Value} {n : Nat} {xs : List Value} (h : w.ownsRow base e size v n xs) (o : Obj) : (w.alloc o).ownsRow base e size v n xs :=
  own_chg h ((Chg.refl w (fun _ => False)).alloc o) (fun _ _ h => h)
theorem box_grown {w w' : World} {g : Nat} {t : TypeId} {cs : Array Value} {row : Option Nat} (h : Box w g t cs) (hg : World.grownBy w.drew w' row) (hn : some g ≠ row) : Box w' g t cs := (hg.block g h.lt hn).trans h
theorem box_grow {w w' : World} {g : Nat} {t : TypeId} {cs : Array Value} {row : Option Nat} (h : Box w g t cs) (hg : World.grownBy w w' row) (hn : some g ≠ row) : Box w' g t cs := (hg.block g h.lt hn).trans h
theorem own_own_ne {w : World} {base base2 : Nat} {e t : TypeId} {size size2 : Nat} {v u : Value} {n m : Nat} {xs ys : List Value} (h : w.ownsRow base e size v n xs) (k : w.ownsRow base2 t size2 u m ys) (he : e ≠ t) : ∀ b, v.ownBlock = some b → u.ownBlock ≠ some b := by
  intro b hb hc
  rcases k.2 with ⟨rfl, _⟩ | ⟨b2, cap, cur, rfl, _, hh, _⟩
  · cases hc
  · injection hc with hc
    have hc' : b2 = b := hc
    subst hc'
    exact own_ne (cs := cur) h hh he _ hb rfl
theorem own_drew {w : World} {base : Nat} {e : TypeId} {size : Nat} {v : Value} {n : Nat} {xs : List Value} (h : w.ownsRow base e size v n xs) : w.drew.ownsRow base e size v n xs := h

theorem parts_one (l : List PartD) : ∀ u ∈ l.flatMap partCells, u.oneCell' = true := by
  intro u hu
  obtain ⟨p, _, h⟩ := List.mem_flatMap.1 hu
  simp only [partCells, List.mem_cons, List.not_mem_nil, or_false] at h
  rcases h with rfl | rfl | rfl <;> rfl
theorem chans_one (l : List ChanD) : ∀ u ∈ l.flatMap chanCells, u.oneCell' = true := by
  intro u hu
  obtain ⟨p, _, h⟩ := List.mem_flatMap.1 hu
  simp only [chanCells, List.mem_cons, List.not_mem_nil, or_false] at h
  rcases h with rfl | rfl | rfl | rfl | rfl <;> rfl
theorem wins_one (l : List WinD) : ∀ u ∈ l.flatMap winCells, u.oneCell' = true := by
  intro u hu
  obtain ⟨p, _, h⟩ := List.mem_flatMap.1 hu
  simp only [winCells, List.mem_cons, List.not_mem_nil, or_false] at h
  rcases h with rfl | rfl | rfl <;> rfl
theorem CfgAt.chg {w w' : World} {C : Cfg} {ap ac aw : Option Addr} {cp cc cw : Nat} {P : Nat → Prop} (h : CfgAt w C ap ac aw cp cc cw) (c : Chg w w' P) (h1 : ∀ ad, ap = some ad → ¬ P ad.block) (h2 : ∀ ad, ac = some ad → ¬ P ad.block) (h3 : ∀ ad, aw = some ad → ¬ P ad.block) : CfgAt w' C ap ac aw cp cc cw :=
  ⟨h.ps.chg c h1, h.cs.chg c h2, h.ws.chg c h3, h.names⟩
theorem own_frozen {w : World} {base : Nat} {e : TypeId} {size : Nat} {g n cap : Nat} {xs : List Value} (h : w.ownsRow base e size (.slice (some ⟨g, 0, none⟩) n cap) n xs) : ∀ k, w.frozen? ⟨g, k, none⟩ = false := by
  intro k
  rcases h.2 with ⟨h0, _⟩ | ⟨b, cap', cur, hv, _, hh, _⟩
  · cases h0
  · injection hv with hv
    injection hv with hv
    have : g = b := congrArg Addr.block hv
    subst this
    simp [World.frozen?, hh]
/-- The block of a slice that the call owns and that is not empty. -/
theorem own_block {w : World} {base : Nat} {e : TypeId} {size : Nat} {v : Value} {n : Nat} {xs : List Value} (h : w.ownsRow base e size v n xs) (hn : 0 < n) : ∃ g cap, v = .slice (some ⟨g, 0, none⟩) n cap ∧ base ≤ g ∧ g < w.heap.size ∧ n ≤ cap ∧ cap ≤ maxLen := by
  obtain ⟨ao, cap, rfl, h1, h2, h3, h4⟩ := own_form h
  cases ao with
  | none => have := (h3 rfl).1; omega
  | some ad => obtain ⟨g, rfl, h5, h6⟩ := h4 ad rfl; exact ⟨g, cap, rfl, h5, h6, h1, h2⟩
end Go.Proofs.Ytmbdimcjpdofoaa

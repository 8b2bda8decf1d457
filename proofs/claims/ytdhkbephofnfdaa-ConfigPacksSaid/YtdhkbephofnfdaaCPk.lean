/- config: the bytes of a configuration; a row of bytes that may begin as a constant. -/
import Derived.Test.YtdhkbephofnfdaaImg1
import Derived.Test.YtdhkbephofnfdaaOwn2
import Derived.Test.YtdhkbephofnfdaaCfgAt
import Derived.Test.YtdhkbephofnfdaaApp
import Derived.Test.YtdhkbephofnfdaaStay
import Derived.ArgAppend
import Derived.Lib.AppendStr
namespace Go.Proofs.Ytdhkbephofnfdaa
open Go.RowKit

def icell (x : Int) : List Value := [.int .i64 x]
def nameL (s : ByteArray) : List Int := s.data.toList.map (fun u => (u.toNat : Int))
def nums (l : List Int) : List Int := l.flatMap fourB
def partB (p : PartD) : List Int := nums [(p.name.size : Int), p.pages, p.action] ++ nameL p.name
def chanB (x : ChanD) : List Int := nums [x.kind, x.src, x.dst, x.size, x.depth]
def winB (x : WinD) : List Int := nums [x.start, x.len, x.part]
def magic : List Int := [84, 82, 67, 49]
def headC (C : Cfg) : List Int := (((magic ++ nums [C.pages, C.major, C.switch, (C.parts.length : Int)]) ++ C.parts.flatMap partB) ++ nums [(C.chans.length : Int)]) ++ C.chans.flatMap chanB ++ nums [(C.wins.length : Int)] ++ C.wins.flatMap winB
def packC (C : Cfg) : List Int := summed (headC C)

def rngB (xs : List Int) : Prop := ∀ x ∈ xs, 0 ≤ x ∧ x < 256
theorem rngB_append {xs ys : List Int} (h : rngB xs) (k : rngB ys) : rngB (xs ++ ys) := fun x hx => by
  rcases List.mem_append.1 hx with hx | hx
  · exact h x hx
  · exact k x hx
theorem rngB_nums (l : List Int) : rngB (nums l) := fun x hx => by
  obtain ⟨y, _, hx⟩ := List.mem_flatMap.1 hx
  exact fourB_rng y x hx
theorem rngB_name (s : ByteArray) : rngB (nameL s) := fun x hx => by
  obtain ⟨u, _, rfl⟩ := List.mem_map.1 hx
  have := u.toNat_lt
  omega
theorem rngB_flat {α : Type} (f : α → List Int) (h : ∀ a, rngB (f a)) (l : List α) : rngB (l.flatMap f) := fun x hx => by
  obtain ⟨y, _, hx⟩ := List.mem_flatMap.1 hx
  exact h y x hx
theorem rngB_magic : rngB magic := by unfold magic; intro x hx; simp at hx; omega
theorem rngB_part (p : PartD) : rngB (partB p) := rngB_append (rngB_nums _) (rngB_name _)
theorem rngB_head (C : Cfg) : rngB (headC C) :=
  rngB_append (rngB_append (rngB_append (rngB_append (rngB_append (rngB_append rngB_magic (rngB_nums _)) (rngB_flat _ rngB_part _)) (rngB_nums _)) (rngB_flat _ (fun _ => rngB_nums _) _)) (rngB_nums _)) (rngB_flat _ (fun _ => rngB_nums _) _)
theorem nums_snoc (l : List Int) (x : Int) : nums (l ++ [x]) = nums l ++ fourB x := by unfold nums; rw [List.flatMap_append]; simp
theorem nums_len (l : List Int) : (nums l).length = 4 * l.length := by
  induction l with
  | nil => rfl
  | cons x xs ih => show (fourB x ++ nums xs).length = _; rw [List.length_append, ih, fourB_len]; simp; omega

/-- A row of bytes that the call has made: owned, or a constant's bytes whose room is full. -/
inductive BB (w : World) (base : Nat) (v : Value) (xs : List Int) : Prop where
  | own (h : w.ownsRow base 5 1 v xs.length (u8s xs))
  | lit (g : Nat) (hv : v = .slice (some ⟨g, 0, none⟩) xs.length xs.length) (hn : 0 < xs.length) (hb : base ≤ g) (hl : g < w.heap.size) (hc : ∀ j u, (u8s xs)[j]? = some u → w.cell? ⟨g, j, none⟩ = some u) (ht : ∃ cs m, w.heap[g]? = some (.cells cs 5 m))

theorem own_far {w : World} {base : Nat} {e : TypeId} {size : Nat} {v : Value} {n : Nat} {xs : List Value} {p : Addr} (h : w.ownsRow base e size v n xs) (u : Value) (hn : ∀ k, v.ownBlock = some k → k ≠ p.block) : (w.setCell p u).ownsRow base e size v n xs := by
  rcases h.2 with ⟨rfl, rfl⟩ | ⟨g, cap, cur, rfl, hb, hh, rest⟩
  · exact ⟨h.1, .inl ⟨rfl, rfl⟩⟩
  · exact ⟨h.1, .inr ⟨g, cap, cur, rfl, hb, (Below.heap_setCell w p u g (hn g rfl)).trans hh, rest⟩⟩

theorem BB.chg {w w' : World} {base : Nat} {v : Value} {xs : List Int} {P : Nat → Prop} (h : BB w base v xs) (c : Chg w w' P) (hp : ∀ k, v.ownBlock = some k → ¬ P k) : BB w' base v xs := by
  cases h with
  | own h => exact .own (own_chg h c hp)
  | lit g hv hn hb hl hc ht =>
    have hg : ¬ P g := hp g (by rw [hv]; rfl)
    refine .lit g hv hn hb (Nat.lt_of_lt_of_le hl c.size) (fun j u hu => c.cell (hc j u hu) hg) ?_
    obtain ⟨cs, m, hh⟩ := ht
    exact ⟨cs, m, (c.block g hl hg).trans hh⟩
theorem BB.form {w : World} {base : Nat} {v : Value} {xs : List Int} (h : BB w base v xs) (h0 : 0 < xs.length) : ∃ g cap, v = .slice (some ⟨g, 0, none⟩) xs.length cap ∧ base ≤ g ∧ g < w.heap.size ∧ xs.length ≤ cap := by
  cases h with
  | own h =>
    obtain ⟨g, cap, hv, h1, h2, h3, _⟩ := own_block h h0
    exact ⟨g, cap, hv, h1, h2, h3⟩
  | lit g hv hn hb hl hc ht => exact ⟨g, _, hv, hb, hl, Nat.le_refl _⟩
theorem BB.ne {w : World} {base g : Nat} {v : Value} {xs : List Int} {t : TypeId} {cs : Array Value} (h : BB w base v xs) (b : Box w g t cs) (hn : 5 ≠ t) : ∀ k, v.ownBlock = some k → k ≠ g := by
  cases h with
  | own h => exact own_ne h b hn
  | lit g' hv _ _ _ _ ht =>
    intro k hk e
    obtain ⟨cs', m, hh⟩ := ht
    rw [hv] at hk
    have hk' : g' = k := by injection hk
    subst hk'
    subst e
    have hb : w.heap[g']? = some (.cells cs t (0, 0)) := b
    rw [hh] at hb
    injection hb with hb
    injection hb with _ h2 _
    exact hn h2

section
variable {P : Program} {w : World}
theorem grown_any {w w' : World} {row : Option Nat} (h : World.grownBy w w' none) : World.grownBy w w' row := ⟨h.os, h.tape, h.output, h.size, fun k hk _ => h.block k hk (by simp)⟩
theorem run_append_bb (base : Nat) (t ty : TypeId) (i : TypeInfo) (z : Value) (ht : P.underlying t = some (.slice 5)) (hi : P.info? 5 = some i) (hz : i.zero = some z)
    (hsize : i.size = 1) (hby : i.bytes = 1) (hzs : z.cells.size = 1) (v : Value) (xs : List Int) (hB : BB w base v xs) (ad : Addr) (m c : Nat) (ys : List Int) (hs : Src w (some ad) m c (u8s ys) 1) (hm : 0 < m)
    (h63 : xs.length + m ≤ maxLen) (hbytes : xs.length + m ≤ 140737488355328) (hbase : base ≤ w.heap.size) :
    ∃ v' w', (Builtin.append_ #[t, t] ty #[v, .slice (some ad) m c]).run P w = .ok v' w' ∧ w'.ownsRow base 5 1 v' (xs.length + m) (u8s (xs ++ ys)) ∧ w.grownBy w' v.ownBlock ∧ (∀ k, v'.ownBlock = some k → v.ownBlock = some k ∨ w.heap.size ≤ k) := by
  rw [u8s_append]
  cases hB with
  | own hown =>
    obtain ⟨v', w', hr, h2, h3, _, h5⟩ := run_append_own_at (P := P) w base t ty 5 i z 1 1 ht hi hz hsize hby hzs (by omega) v xs.length (u8s xs) hown ad m c (u8s ys) hs.len (hs.get ad rfl) (u8s_one _) h63 (by omega) hbase
    refine ⟨v', w', hr, h2, h3, fun k hk => ?_⟩
    rcases h5 with h5 | h5
    · exact .inl (h5 ▸ hk)
    · rw [h5] at hk
      injection hk with hk
      exact .inr (by omega)
  | lit g hv hn hb hl hc ht' =>
    subst hv
    obtain ⟨v', w', hr, h2, h3⟩ := run_append_arg_grows (P := P) w t ty 5 i z 1 1 ht hi hz hsize hby hzs (by omega) ⟨g, 0, none⟩ xs.length xs.length (u8s xs) (by simp [u8s]) (fun j u hj => by rw [Addr.add_lit, Nat.zero_add]; exact hc j u hj) ad m c (u8s ys) hs.len (hs.get ad rfl) (by omega) h63 (by omega)
    exact ⟨v', w', hr, own_base h2 hbase, grown_any h3, fun k hk => .inr (h2.lt k hk).1⟩
theorem op_append_bb {o : Oper} {a : Act} {K : Act → World → Prop} {Q : Exit → Act → World → Prop} (s x : Operand) (t : TypeId)
    (ho : o.op = .call { callee := .builtin .append, args := #[s, x], argTypes := #[t, t] })
    (base : Nat) (i : TypeInfo) (z : Value) (ht : P.underlying t = some (.slice 5)) (hi : P.info? 5 = some i) (hz : i.zero = some z)
    (hsize : i.size = 1) (hby : i.bytes = 1) (hzs : z.cells.size = 1) (v : Value) (xs : List Int) (hv : a.eval s = v) (hB : BB w base v xs) (ad : Addr) (m c : Nat) (ys : List Int) (hx : a.eval x = .slice (some ad) m c) (hs : Src w (some ad) m c (u8s ys) 1) (hm : 0 < m)
    (h63 : xs.length + m ≤ maxLen) (hbytes : xs.length + m ≤ 140737488355328) (hbase : base ≤ w.heap.size)
    (h : ∀ v' w', w'.ownsRow base 5 1 v' (xs.length + m) (u8s (xs ++ ys)) → w.grownBy w' v.ownBlock → (∀ k, v'.ownBlock = some k → v.ownBlock = some k ∨ w.heap.size ≤ k) → K (a.put o.dst v') w') : o.wp P a w K Q := by
  obtain ⟨v', w', hr, h2, h3, h5⟩ := run_append_bb (P := P) base t o.type i z ht hi hz hsize hby hzs v xs hB ad m c ys hs hm h63 hbytes hbase
  unfold Oper.wp execOp
  simp only [ho, resolve, invoke, builtin, Sem.run_bind, Sem.run_pure, Result.andThen_ok, List.map_toArray, List.map_cons, List.map_nil, hv, hx, hr]
  exact h v' w' h2 h3 h5
theorem wpList_append_bb {ops : Array Oper} {rest : List Oper} {o : Oper} {a : Act} {Q : Exit → Act → World → Prop} (hgd : o.guard = none) (s x : Operand) (t : TypeId)
    (ho : o.op = .call { callee := .builtin .append, args := #[s, x], argTypes := #[t, t] })
    (base : Nat) (i : TypeInfo) (z : Value) (ht : P.underlying t = some (.slice 5)) (hi : P.info? 5 = some i) (hz : i.zero = some z)
    (hsize : i.size = 1) (hby : i.bytes = 1) (hzs : z.cells.size = 1) (v : Value) (xs : List Int) (hv : a.eval s = v) (hB : BB w base v xs) (ad : Addr) (m c : Nat) (ys : List Int) (hx : a.eval x = .slice (some ad) m c) (hs : Src w (some ad) m c (u8s ys) 1) (hm : 0 < m)
    (h63 : xs.length + m ≤ maxLen) (hbytes : xs.length + m ≤ 140737488355328) (hbase : base ≤ w.heap.size)
    (h : ∀ v' w', w'.ownsRow base 5 1 v' (xs.length + m) (u8s (xs ++ ys)) → w.grownBy w' v.ownBlock → (∀ k, v'.ownBlock = some k → v.ownBlock = some k ∨ w.heap.size ≤ k) → wpList P ops Q rest (a.put o.dst v') w') : wpList P ops Q (o :: rest) a w :=
  wpList_plain hgd fun K hK => op_append_bb s x t ho base i z ht hi hz hsize hby hzs v xs hv hB ad m c ys hx hs hm h63 hbytes hbase (fun v' w' h1 h2 h3 => hK _ _ (h v' w' h1 h2 h3))
end

theorem u8s_one' (xs : List Int) : ∀ u ∈ u8s xs, u.oneCell' = true := by
  intro u hu
  obtain ⟨x, _, rfl⟩ := List.mem_map.1 hu
  rfl
end Go.Proofs.Ytdhkbephofnfdaa

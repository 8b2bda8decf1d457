/- Rows of bytes: append from any source, conversion to a string, clone. Laws for the walk. -/
import Derived.Test.YtiedfglkjkaefaaBase
import Derived.Test.YtiedfglkjkaefaaProg
import Derived.Laws.BytesArg
import Derived.Laws.CopyOwn
namespace Go.Proofs.Ytiedfglkjkaefaa
open Go.RowKit

/-- m numbers of f from p on. -/
def sl (f : Nat → Int) (p m : Nat) : List Int := (List.range m).map (fun i => f (p + i))
theorem sl_length (f : Nat → Int) (p m : Nat) : (sl f p m).length = m := by simp [sl]
theorem sl_get (f : Nat → Int) (p m i : Nat) (h : i < m) : (sl f p m)[i]? = some (f (p + i)) := by simp [sl, h]
theorem sl_getD (f : Nat → Int) (p m i : Nat) (h : i < m) : (sl f p m).getD i 0 = f (p + i) := by simp [sl, h]
theorem sl_congr {f g : Nat → Int} {p q m : Nat} (h : ∀ i, i < m → f (p + i) = g (q + i)) : sl f p m = sl g q m := by
  unfold sl
  exact List.map_congr_left (fun i hi => h i (List.mem_range.1 hi))

/-- bytes as cells -/
def u8s (xs : List Int) : List Value := xs.map (Value.int .u8)
theorem u8s_length (xs : List Int) : (u8s xs).length = xs.length := by simp [u8s]
theorem u8s_one (xs : List Int) : ∀ u ∈ u8s xs, u.oneCell' = true := by
  intro u hu
  obtain ⟨_, _, rfl⟩ := List.mem_map.1 hu
  rfl
theorem u8s_get {xs : List Int} {j : Nat} {u : Value} (h : (u8s xs)[j]? = some u) : j < xs.length ∧ u = .int .u8 (xs.getD j 0) := by
  unfold u8s at h
  have hj := (List.getElem?_eq_some_iff.1 h).1
  rw [List.length_map] at hj
  refine ⟨hj, ?_⟩
  simp [List.getElem?_eq_getElem hj] at h
  simp [List.getD, List.getElem?_eq_getElem hj, h]
theorem u8s_append (xs ys : List Int) : u8s (xs ++ ys) = u8s xs ++ u8s ys := by simp [u8s]

/-- What a source holds, whatever its address. -/
structure Src (w : World) (ao : Option Addr) (m c : Nat) (cells : List Value) (size : Nat) : Prop where
  len : cells.length = m * size
  nil : ao = none → m = 0 ∧ c = 0
  get : ∀ ad, ao = some ad → ∀ j u, cells[j]? = some u → w.cell? (ad.add j) = some u

theorem Src.chg {w w' : World} {ao : Option Addr} {m c : Nat} {cells : List Value} {size : Nat} {P : Nat → Prop} (h : Src w ao m c cells size) (hc : Chg w w' P) (hn : ∀ ad, ao = some ad → ¬ P ad.block) : Src w' ao m c cells size :=
  ⟨h.len, h.nil, fun ad e j u hu => hc.cell (h.get ad e j u hu) (by
    have hb : (ad.add j).block = ad.block := by unfold Addr.add; split <;> rfl
    rw [hb]; exact hn ad e)⟩

theorem Src.drew {w : World} {ao : Option Addr} {m c : Nat} {cells : List Value} {size : Nat} (h : Src w ao m c cells size) : Src w.drew ao m c cells size := ⟨h.len, h.nil, h.get⟩
theorem Src.drewN {w : World} {ao : Option Addr} {m c : Nat} {cells : List Value} {size : Nat} (h : Src w ao m c cells size) (n : Nat) : Src (w.drewN n) ao m c cells size := ⟨h.len, h.nil, h.get⟩

section
variable {P : Program} (w : World)

theorem run_append_src (base : Nat) (t ty e : TypeId) (i : TypeInfo) (z : Value) (size bytes : Nat) (ht : P.underlying t = some (.slice e)) (hi : P.info? e = some i) (hz : i.zero = some z)
    (hsize : i.size = size) (hby : i.bytes = bytes) (hzs : z.cells.size = size) (hsz : 0 < size)
    (v : Value) (n : Nat) (xs : List Value) (hown : w.ownsRow base e size v n xs) (ao : Option Addr) (m c : Nat) (news : List Value) (hs : Src w ao m c news size) (h1 : ∀ u ∈ news, u.oneCell' = true)
    (h63 : n + m ≤ maxLen) (hbytes : (n + m) * bytes ≤ 140737488355328) (hbase : base ≤ w.heap.size) :
    ∃ v' w', (Builtin.append_ #[t, t] ty #[v, .slice ao m c]).run P w = .ok v' w' ∧ w'.ownsRow base e size v' (n + m) (xs ++ news) ∧ w.grownBy w' v.ownBlock := by
  cases ao with
  | some ad =>
    obtain ⟨v', w', hr, h2, h3, _⟩ := run_append_own (P := P) w base t ty e i z size bytes ht hi hz hsize hby hzs hsz v n xs hown ad m c news hs.len (hs.get ad rfl) h1 h63 hbytes hbase
    exact ⟨v', w', hr, h2, h3⟩
  | none =>
    obtain ⟨rfl, rfl⟩ := hs.nil rfl
    have hn : news = [] := List.eq_nil_of_length_eq_zero (by simpa using hs.len)
    subst hn
    exact ⟨v, w, run_append_owned_none (P := P) w base t ty e i size ht hi v n xs hown, by simpa using hown, World.grownBy.refl w _⟩

/-- 'append(v, src...)', v the call's own, as a step of the walk. -/
theorem wpList_append_src {ops : Array Oper} {rest : List Oper} {o : Oper} {a : Act} {Q : Exit → Act → World → Prop} (hgd : o.guard = none) (s x : Operand) (t : TypeId)
    (ho : o.op = .call { callee := .builtin .append, args := #[s, x], argTypes := #[t, t] })
    (base : Nat) (e : TypeId) (i : TypeInfo) (z : Value) (size bytes : Nat) (ht : P.underlying t = some (.slice e)) (hi : P.info? e = some i) (hz : i.zero = some z)
    (hsize : i.size = size) (hby : i.bytes = bytes) (hzs : z.cells.size = size) (hsz : 0 < size)
    (v : Value) (n : Nat) (xs : List Value) (hv : a.eval s = v) (hown : w.ownsRow base e size v n xs)
    (ao : Option Addr) (m c : Nat) (news : List Value) (hx : a.eval x = .slice ao m c) (hs : Src w ao m c news size) (h1 : ∀ u ∈ news, u.oneCell' = true)
    (h63 : n + m ≤ maxLen) (hbytes : (n + m) * bytes ≤ 140737488355328) (hbase : base ≤ w.heap.size)
    (h : ∀ v' w', w'.ownsRow base e size v' (n + m) (xs ++ news) → w.grownBy w' v.ownBlock → wpList P ops Q rest (a.put o.dst v') w') : wpList P ops Q (o :: rest) a w := by
  refine wpList_plain hgd fun K hK => ?_
  obtain ⟨v', w', hr, h2, h3⟩ := run_append_src (P := P) w base t o.type e i z size bytes ht hi hz hsize hby hzs hsz v n xs hown ao m c news hs h1 h63 hbytes hbase
  unfold Oper.wp execOp
  simp only [ho, resolve, invoke, builtin, Sem.run_bind, Sem.run_pure, Result.andThen_ok, List.map_toArray, List.map_cons, List.map_nil, hv, hx, hr]
  exact hK _ _ (h v' w' h2 h3)
end

/-- An owned value's outer form. -/
theorem own_form {w : World} {base : Nat} {e : TypeId} {size : Nat} {v : Value} {n : Nat} {xs : List Value} (h : w.ownsRow base e size v n xs) :
    ∃ ao cap, v = .slice ao n cap ∧ n ≤ cap ∧ cap ≤ maxLen ∧ (ao = none → n = 0 ∧ cap = 0) ∧ ∀ ad, ao = some ad → ∃ g, ad = ⟨g, 0, none⟩ ∧ base ≤ g ∧ g < w.heap.size := by
  rcases h.2 with ⟨rfl, rfl⟩ | ⟨g, cap, cur, rfl, hg, hh, h1, h2, _⟩
  · exact ⟨none, 0, rfl, Nat.le_refl _, by unfold maxLen; omega, fun _ => ⟨rfl, rfl⟩, fun ad h => (by cases h)⟩
  · refine ⟨_, cap, rfl, h1, h2, fun h => (by cases h), fun ad h => ?_⟩
    injection h with h
    exact ⟨g, h.symm, hg, (Array.getElem?_eq_some_iff.1 hh).1⟩

theorem own_slice {w : World} {base : Nat} {e : TypeId} {size : Nat} {ao : Option Addr} {cap n : Nat} {xs : List Value} (h : w.ownsRow base e size (.slice ao n cap) n xs) :
    n ≤ cap ∧ (ao = none → n = 0 ∧ cap = 0) ∧ ∀ ad, ao = some ad → ∃ g, ad = ⟨g, 0, none⟩ ∧ base ≤ g := by
  obtain ⟨ao', cap', hv, h1, _, h3, h4⟩ := own_form h
  injection hv with e1 e2 e3
  subst e1; subst e3
  exact ⟨h1, h3, fun ad he => by obtain ⟨g, hg, hb, _⟩ := h4 ad he; exact ⟨g, hg, hb⟩⟩

theorem own_src {w : World} {base : Nat} {e : TypeId} {size : Nat} {ao : Option Addr} {cap n : Nat} {xs : List Value} (h : w.ownsRow base e size (.slice ao n cap) n xs) : Src w ao n cap xs size := by
  refine ⟨h.1, fun hn => ?_, fun ad e j u hu => ?_⟩
  · obtain ⟨ao', cap', hv, h1, h2, h3, _⟩ := own_form h
    injection hv with e1 e2 e3
    subst e1; subst e3
    exact h3 hn
  · obtain ⟨ao', cap', hv, h1, h2, _, h4⟩ := own_form h
    injection hv with e1 e2 e3
    subst e1; subst e
    obtain ⟨g, rfl, _⟩ := h4 ad rfl
    exact h.cells (g := g) rfl j u hu

theorem own_chg {w w' : World} {base : Nat} {e : TypeId} {size : Nat} {v : Value} {n : Nat} {xs : List Value} {P : Nat → Prop} (h : w.ownsRow base e size v n xs) (hc : Chg w w' P) (hn : ∀ g, v.ownBlock = some g → ¬ P g) : w'.ownsRow base e size v n xs := by
  refine ⟨h.1, ?_⟩
  rcases h.2 with hh | ⟨g, cap, cur, rfl, hg, hh, r⟩
  · exact .inl hh
  · exact .inr ⟨g, cap, cur, rfl, hg, by rw [hc.block g (Array.getElem?_eq_some_iff.1 hh).1 (hn g rfl)]; exact hh, r⟩

theorem own_base {w : World} {base base' : Nat} {e : TypeId} {size : Nat} {v : Value} {n : Nat} {xs : List Value} (h : w.ownsRow base e size v n xs) (hb : base' ≤ base) : w.ownsRow base' e size v n xs := by
  refine ⟨h.1, ?_⟩
  rcases h.2 with hh | ⟨g, cap, cur, rfl, hg, r⟩
  · exact .inl hh
  · exact .inr ⟨g, cap, cur, rfl, by omega, r⟩

/-- 'string(b)', b a source of bytes. -/
theorem conv_src (w : World) {ao : Option Addr} {m c : Nat} {xs : List Int} (h : Src w ao m c (u8s xs) 1) :
    (convert 22 9 (.slice ao m c)).run Try.prog w = .ok (.string (strOfNums xs)) w := by
  have hl : xs.length = m := by have := h.len; simpa [u8s] using this
  cases ao with
  | none =>
    obtain ⟨rfl, rfl⟩ := h.nil rfl
    have : xs = [] := List.eq_nil_of_length_eq_zero hl
    subst this
    exact run_convert_bytes_nil (P := Try.prog) w 22 5 Try.underlying22 Try.underlying5 0 0 9 Try.underlying9
  | some ad =>
    have hl' : (loadCells ad m).run Try.prog w = .ok (u8s xs).toArray w := by
      have := run_loadCells_list (P := Try.prog) w ad (u8s xs) (h.get ad rfl)
      rw [u8s_length, hl] at this
      exact this
    rw [run_convert_bytes_string w _ _ 5 _ m c Try.underlying22 Try.underlying5 Try.underlying9, run_bytesToString w _ m c xs hl', foldl_push_bytes]
    simp [strOfNums, ByteArray.empty, ByteArray.emptyWithCapacity]
    rfl

end Go.Proofs.Ytiedfglkjkaefaa

/- slices.Grow of nothing. -/
import Derived.Test.YtgblnmahniphdaaImg0
import Derived.Lib.AppendZerosOnto
import Derived.Laws.AppendOwn
namespace Go.Proofs.Ytgblnmahniphdaa
open Go.RowKit

theorem zc_size (z : Value) (h : z.cells.size = 1) (k : Nat) : (Builtin.zeroCells z.cells k).size = k := by
  unfold Builtin.zeroCells
  simp [h]
/-- A block that was just made is owned, with no part of it in use. -/
theorem own_new0 (w : World) (t : TypeId) (n : Nat) (cs : Array Value) (hc : cs.size = n) (hn : n ≤ maxLen) : (w.alloc (.cells cs t)).ownsRow w.heap.size t 1 (.slice (some ⟨w.heap.size, 0, none⟩) 0 n) 0 [] := by
  exact ⟨rfl, .inr ⟨w.heap.size, n, cs, rfl, Nat.le_refl _, heap_alloc_new w _, Nat.zero_le _, hn, by omega, by simp⟩⟩

theorem wpList_append_is {P : Program} {w w' : World} {ops : Array Oper} {rest : List Oper} {o : Oper} {a : Act} {Q : Exit → Act → World → Prop} (hgd : o.guard = none) (s x : Operand) (t tn : TypeId)
    (ho : o.op = .call { callee := .builtin .append, args := #[s, x], argTypes := #[t, tn] }) (u y v : Value) (hu : a.eval s = u) (hy : a.eval x = y)
    (hr : (Builtin.append_ #[t, tn] o.type #[u, y]).run P w = .ok v w') (h : wpList P ops Q rest (a.put o.dst v) w') : wpList P ops Q (o :: rest) a w := by
  refine wpList_plain hgd fun K hK => ?_
  unfold Oper.wp execOp
  simp only [ho, resolve, invoke, builtin, Sem.run_bind, Sem.run_pure, Result.andThen_ok, List.map_toArray, List.map_cons, List.map_nil, hu, hy, hr]
  exact hK _ _ h

set_option maxHeartbeats 800000 in
theorem grow_any (n : Nat) (w : World) (h0 : 0 < n) (hn : n ≤ 2000000) :
    Calls Try.prog 39 #[.slice none 0 0, .int .i64 n] w fun e w' => ∃ ao cap, e = .returned (.slice ao 0 cap) ∧ w'.ownsRow w.heap.size 5 1 (.slice ao 0 cap) 0 (u8s []) ∧ Chg w w' (fun _ => False) := by
  obtain ⟨i0, hi0, hz0, hz1, hz2⟩ := info_parts info_u8i
  have HR := Lib.hid (fun wx : World => Go.Lib.run_append_grow_zeros (P := Try.prog) wx 37 3 37 5 i0 _ .i64 .i64 Try.underlying37 Try.underlying3 hi0 hz0 none 0 0 [] (by rfl) n h0 (by omega) (by omega) (by omega) (by rw [hz2]; omega) (by rw [nextslicecap_zero (by omega), hz2]; omega))
  have HG := Lib.hid (fun wx : World => And.intro (grownCap_ge wx (0 + n) 0 5) (grownCap_le_maxLen wx (0 + n) 0 5 (by unfold maxLen; omega)))
  have d0 : decide ((n : Int) < 0) = false := decide_eq_false (by omega)
  have d1 : decide ((0 : Int) < (n : Int)) = true := decide_eq_true (by omega)
  go_enter Try.func39, Try.ntmps39
  go_wp2_with (at_builtin; go_loud (refine wpList_append_is rfl (.tmp 20) (.tmp 21) 37 3 rfl _ _ _ rfl rfl (HR.out _) ?_); go_loud (obtain ⟨cp, hcp⟩ : ∃ c, grownCap w (0 + n) 0 5 = c := ⟨_, rfl⟩); go_loud (rw [hcp]))
  go_ret
  have h1 := HG.out w
  rw [hcp] at h1
  refine ⟨_, _, rfl, own_new0 _ _ cp _ ?_ h1.2, ((Chg.refl w _).drew).alloc _⟩
  have z1 : (Builtin.zeroCells #[Value.int .u8 0] n).size = n := zc_size (.int .u8 0) rfl n
  have z2 : (Builtin.zeroCells #[Value.int .u8 0] (cp - n)).size = cp - n := zc_size (.int .u8 0) rfl (cp - n)
  have h2 := h1.1
  show (Builtin.zeroCells #[Value.int .u8 0] n ++ Builtin.zeroCells #[Value.int .u8 0] (cp - n)).size = cp
  rw [Array.size_append]
  omega
end Go.Proofs.Ytgblnmahniphdaa

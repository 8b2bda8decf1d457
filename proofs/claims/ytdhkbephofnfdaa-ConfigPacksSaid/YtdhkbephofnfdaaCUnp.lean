/- config.Unpack. -/
import Derived.Test.YtdhkbephofnfdaaCRead
import Derived.Defers
import Derived.Recover
namespace Go.Proofs.Ytdhkbephofnfdaa
open Go.RowKit

set_option maxRecDepth 100000 in
theorem un1_idle (T2 T3 : Nat) (w : World) :
    CallsD Try.prog 57 #[.pointer (some ⟨T2, 0, none⟩), .pointer (some ⟨T3, 0, none⟩)] .returning w fun e u' w' => e = .returned (.tuple #[]) ∧ u' = .returning ∧ w' = w := by
  refine callsD_of_wpS Try.func57 rfl fun c₀ cs hu => ?_
  apply wpS_seq
  apply wpS_region
  simp [wpOpsS, go_sem, recoverD, hu, Try.ntmps57, Exit.thenS]
  apply wpS_seq
  apply wpS_region
  simp [wpOpsS, go_sem, Exit.thenS]
  refine wpS_cond (t := false) (by simp [Act.eval, Array.replicate]) ?_
  simp only [Bool.false_eq_true, if_false]
  refine wpS_of_wp (wp_skip ?_)
  cases c₀
  simp_all [bodyPostS, results, Try.results57]

def cfg0 : Array Value := #[.int .i64 0, .int .i64 0, .int .i64 0, .slice none 0 0, .slice none 0 0, .slice none 0 0]

set_option maxRecDepth 100000 in
set_option maxHeartbeats 1000000 in
theorem un1_caught (T2 T3 : Nat) (w : World) (a0 a1 a2 a3 a4 a5 x : Value) (B2 : Box w T2 27 #[a0, a1, a2, a3, a4, a5]) (B3 : Box w T3 36 #[x]) (hne : T2 ≠ T3) (older : List PanicEntry) :
    CallsD Try.prog 57 #[.pointer (some ⟨T2, 0, none⟩), .pointer (some ⟨T3, 0, none⟩)] (.panicking ({ v := stopV, recovered := false } :: older)) w fun e u' w' => e = .returned (.tuple #[]) ∧ u' = .panicking ({ v := stopV, recovered := true } :: older) ∧ Box w' T2 27 cfg0 ∧ Box w' T3 36 #[.int .i64 4] ∧ Chg w w' (fun k => k = T2 ∨ k = T3) := by
  have c0 := B2.cell 0
  have c1 := B2.cell 1
  have c2 := B2.cell 2
  have c3 := B2.cell 3
  have c4 := B2.cell 4
  have c5 := B2.cell 5
  have z0 := B2.frozen 0
  have z1 := B2.frozen 1
  have z2 := B2.frozen 2
  have z3 := B2.frozen 3
  have z4 := B2.frozen 4
  have z5 := B2.frozen 5
  have d0 := B3.cell 0
  have y0 := B3.frozen 0
  have l2 := B2.lt
  have l3 := B3.lt
  refine callsD_of_wpS Try.func57 rfl fun c₀ cs hu => ?_
  apply wpS_seq
  apply wpS_region
  simp [wpOpsS, go_sem, recoverD, hu, stopV, Try.ntmps57, Exit.thenS]
  apply wpS_seq
  apply wpS_region
  simp [wpOpsS, go_sem, Exit.thenS]
  refine wpS_cond (t := true) (by simp [Act.eval, Array.replicate]) ?_
  simp only [if_true]
  refine wpS_of_wp ?_
  have hta : ∀ w : World, (Instr.typeAssert (.iface 107 (.agg #[])) 20 107 true).run Try.prog w = .ok (.tuple #[.agg #[], .bool true]) w := fun w => by kernel_rfl
  generalize hfr : (#[Value.pointer (some ⟨T2, 0, none⟩), Value.pointer (some ⟨T3, 0, none⟩)] ++ _ : Array Value) = fr
  have hfr2 : fr = #[.pointer (some ⟨T2, 0, none⟩), .pointer (some ⟨T3, 0, none⟩), .iface 107 (.agg #[]), undef, undef, .iface 107 (.agg #[]), .iface 107 (.agg #[]), .bool true, undef, undef, undef, undef, undef, undef, undef, undef, undef] := by rw [← hfr]; rfl
  rw [hfr2]
  clear hfr hfr2
  go_wp2_with fail
  have hne' : T3 ≠ T2 := fun h => hne h.symm
  have C6 : Chg w ((((((w.setCell ⟨T2, 0, none⟩ (.int .i64 0)).setCell ⟨T2, 1, none⟩ (.int .i64 0)).setCell ⟨T2, 2, none⟩ (.int .i64 0)).setCell ⟨T2, 3, none⟩ (.slice none 0 0)).setCell ⟨T2, 4, none⟩ (.slice none 0 0)).setCell ⟨T2, 5, none⟩ (.slice none 0 0)) (fun k => k = T2) :=
    ((((((Chg.refl w (fun k => k = T2)).setCell (p := ⟨T2, 0, none⟩) (fun _ => rfl) _).setCell (p := ⟨T2, 1, none⟩) (fun _ => rfl) _).setCell (p := ⟨T2, 2, none⟩) (fun _ => rfl) _).setCell (p := ⟨T2, 3, none⟩) (fun _ => rfl) _).setCell (p := ⟨T2, 4, none⟩) (fun _ => rfl) _).setCell (p := ⟨T2, 5, none⟩) (fun _ => rfl) _
  have E2 := (((((B2.set 0 (.int .i64 0)).set 1 (.int .i64 0)).set 2 (.int .i64 0)).set 3 (.slice none 0 0)).set 4 (.slice none 0 0)).set 5 (.slice none 0 0)
  have E3 := B3.chg C6 hne'
  obtain ⟨W, hW⟩ : ∃ W, ((((((((w.setCell ⟨T2, 0, none⟩ (.int .i64 0)).setCell ⟨T2, 1, none⟩ (.int .i64 0)).setCell ⟨T2, 2, none⟩ (.int .i64 0)).setCell ⟨T2, 3, none⟩ (.slice none 0 0)).setCell ⟨T2, 4, none⟩ (.slice none 0 0)).setCell ⟨T2, 5, none⟩ (.slice none 0 0)).setCell ⟨T3, 0, none⟩ (.int .i64 4)).alloc (.cells #[] 107)) = W := ⟨_, rfl⟩
  have f2 : Box W T2 27 cfg0 := by rw [← hW]; exact (E2.far hne _).alloc _
  have f3 : Box W T3 36 #[.int .i64 4] := by rw [← hW]; exact (E3.set 0 _).alloc _
  have f4 : Chg w W (fun k => k = T2 ∨ k = T3) := by
    rw [← hW]
    exact ((C6.mono (fun _ _ h => .inl h)).setCell (p := ⟨T3, 0, none⟩) (fun _ => .inr rfl) _).alloc _
  rw [hW]
  clear hW E2 E3 C6
  simp [bodyPostS, results, Try.results57, f2, f3, f4]
end Go.Proofs.Ytdhkbephofnfdaa

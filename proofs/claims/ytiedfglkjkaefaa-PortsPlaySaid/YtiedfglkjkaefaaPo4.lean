/- ports: put of both kinds. -/
import Derived.Test.YtiedfglkjkaefaaPo3
import Derived.Test.YtiedfglkjkaefaaCfgParts
import Derived.ArgAppend
namespace Go.Proofs.Ytiedfglkjkaefaa
open Go.RowKit

theorem info_by : (Try.prog.info? 22).map (fun i => (i.zero, i.size, i.bytes)) = some (some (.slice none 0 0), 1, 24) := by kernel_rfl

theorem putS_any {w : World} {b : Nat} {v0 : Value} {ao : Option Addr} {m c : Nat} (B : Box w b 79 #[v0]) :
    Calls Try.prog 75 #[.pointer (some ⟨b, 0, none⟩), .slice ao m c] w fun e w' => e = .returned (.bool true) ∧ w' = w.setCell ⟨b, 0, none⟩ (.slice ao m c) := by
  have y0 := B.cell 0
  have z0 := B.frozen 0
  go_enter Try.func75, Try.ntmps75
  go_wp2_with fail
  go_ret
  exact ⟨rfl, rfl⟩

/-- What a queue's put leaves. -/
def PutQ (w w' : World) (b : Nat) (d : Int) (v mv : Value) (ms : List Value) (e : Ending) : Prop :=
  (d ≤ (ms.length : Int) ∧ e = .returned (.bool false) ∧ Chg w w' (fun _ => False)) ∨
  ((ms.length : Int) < d ∧ e = .returned (.bool true) ∧ ∃ v', Box w' b 82 #[.int .i64 d, v'] ∧ QRow w' v' (ms ++ [mv]) ∧
    Chg w w' (fun k => k = b ∨ (v.ownBlock = some k ∧ ∃ cur, Box w k 22 cur)) ∧ ∀ g, v'.ownBlock = some g → v.ownBlock = some g ∨ (w.heap.size ≤ g ∧ g < w'.heap.size))

theorem setCells_one (w : World) (b k : Nat) (u : Value) : w.setCells b k [u] = w.setCell ⟨b, k, none⟩ u := rfl

/-- A row's next cell is written. -/
theorem QRow.room {w : World} {g o cap : Nat} {ms : List Value} {mv : Value} (h : QRow w (.slice (some ⟨g, o, none⟩) ms.length cap) ms) (hr : ms.length + 1 ≤ cap) :
    QRow (w.setCell ⟨g, o + ms.length, none⟩ mv) (.slice (some ⟨g, o, none⟩) (ms.length + 1) cap) (ms ++ [mv]) := by
  obtain ⟨cur, hb, _, h1, h2, h3, h4, _⟩ := h.cells
  refine .inr ⟨g, o, cap, cur.setIfInBounds (o + ms.length) mv, by rw [List.length_append]; rfl, hb.set _ _, by rw [List.length_append]; exact hr, h2, by simpa using h3, ?_⟩
  have hla : cur.toList.length = cur.size := Array.length_toList
  have hlt : o + ms.length < cur.toList.length := by omega
  have hlm : ((cur.toList.drop o).take ms.length).length = ms.length := by rw [h4]
  rw [Array.toList_setIfInBounds, List.length_append, List.length_singleton, List.drop_set, if_neg (by omega), Nat.add_sub_cancel_left]
  generalize hX : cur.toList.drop o = X at *
  have hxl : ms.length < X.length := by rw [← hX, List.length_drop]; omega
  rw [List.take_succ_eq_append_getElem (by rw [List.length_set]; exact hxl), List.take_set_of_le (Nat.le_refl _), h4, List.getElem_set_self]

set_option maxRecDepth 100000 in
set_option maxHeartbeats 2000000 in
theorem putQ_full {w : World} {b : Nat} {d : Int} {v : Value} {ms : List Value} {ao : Option Addr} {m c : Nat} (B : Box w b 82 #[.int .i64 d, v]) (R : QRow w v ms) (hd : d ≤ 16) (hfull : d ≤ (ms.length : Int)) :
    Calls Try.prog 77 #[.pointer (some ⟨b, 0, none⟩), .slice ao m c] w fun e w' => PutQ w w' b d v (.slice ao m c) ms e := by
  obtain ⟨i0, hi, hz0, hz1, hz2⟩ := info_parts info_by
  have hone : ∀ u ∈ [Value.slice ao m c], u.oneCell' = true := by intro u hu; rw [List.mem_singleton] at hu; subst hu; rfl
  obtain ⟨vo, cap, rfl, hle, hmx, hnn, hvb⟩ := R.form
  have y0 := B.cell 0
  have y1 := B.cell 1
  have z1 := B.frozen 1
  have hbl := B.lt
  have HO := Lib.hid hone
  have HR := Lib.hid R
  have HVB := Lib.hid hvb
  have HNN := Lib.hid hnn
  have HLE := Lib.hid (And.intro hle hmx)
  clear hone R hvb hnn
  clear hle hmx
  go_enter Try.func77, Try.ntmps77
  go_wp2_with fail
  go_quiet (fail)
  go_wp2_with fail
  go_ret
  exact .inl ⟨hfull, rfl, (Chg.refl w _).drewN _⟩

set_option maxRecDepth 100000 in
set_option maxHeartbeats 2000000 in
theorem putQ_room {w : World} {b : Nat} {d : Int} {v : Value} {ms : List Value} {ao : Option Addr} {m c : Nat} (B : Box w b 82 #[.int .i64 d, v]) (R : QRow w v ms) (hd : d ≤ 16) (hlt : (ms.length : Int) < d) (hcap : ∀ vo n cap, v = .slice vo n cap → ms.length + 1 ≤ cap) :
    Calls Try.prog 77 #[.pointer (some ⟨b, 0, none⟩), .slice ao m c] w fun e w' => PutQ w w' b d v (.slice ao m c) ms e := by
  obtain ⟨i0, hi, hz0, hz1, hz2⟩ := info_parts info_by
  have hone : ∀ u ∈ [Value.slice ao m c], u.oneCell' = true := by intro u hu; rw [List.mem_singleton] at hu; subst hu; rfl
  obtain ⟨vo, cap, rfl, hle, hmx, hnn, hvb⟩ := R.form
  have y0 := B.cell 0
  have y1 := B.cell 1
  have z1 := B.frozen 1
  have hbl := B.lt
  have HO := Lib.hid hone
  have HR := Lib.hid R
  have HVB := Lib.hid hvb
  have HNN := Lib.hid hnn
  have HLE := Lib.hid (And.intro hle hmx)
  clear hone R hvb hnn
  have hroom := hcap _ _ _ rfl
  obtain ⟨g, o, rfl⟩ : ∃ g o, vo = some ⟨g, o, none⟩ := by
    cases vo with
    | none => have := (HNN.out rfl).2; omega
    | some ad => obtain ⟨g, o, rfl, _⟩ := HVB.out ad rfl; exact ⟨g, o, rfl⟩
  clear hcap hle hmx
  go_enter Try.func77, Try.ntmps77
  go_wp2_with fail
  go_quiet (fail)
  rename Nat => nqa
  go_upto_region 3 with fail
  obtain ⟨U, hU⟩ : ∃ U, (w.drewN nqa).alloc (.cells #[.slice ao m c] 22) = U := ⟨_, rfl⟩
  have CU : Chg w U (fun _ => False) := by rw [← hU]; exact ((Chg.refl w _).drewN _).alloc _
  have hN : ∀ j u, [Value.slice ao m c][j]? = some u → ((w.drewN nqa).alloc (.cells #[.slice ao m c] 22)).cell? ((⟨w.heap.size, 0, none⟩ : Addr).add j) = some u := ((Box.new (w.drewN nqa) 22 #[.slice ao m c]).src 1 1 1 [.slice ao m c] rfl rfl).get _ rfl
  rw [hU] at hN
  have hb1 : ms.length + 1 ≤ maxLen := by unfold maxLen; omega
  have hb2 : (ms.length + 1) * 24 ≤ 140737488355328 := by omega
  have hqu : QRow U (.slice (some ⟨g, o, none⟩) ms.length cap) ms := HR.out.chg CU (fun _ _ h => h)
  have hbu : Box U b 82 #[.int .i64 d, .slice (some ⟨g, o, none⟩) ms.length cap] := B.chg CU (fun h => h)
  have HCU := Lib.hid CU
  clear CU B
  obtain ⟨cur, hgb, -, -, -, hsz, -, hcl⟩ := hqu.cells
  have hgne : b ≠ g := box_ty hbu hgb (by decide)
  have hspare : ms.length + 1 ≤ cap → ∀ j, j < [Value.slice ao m c].length → (U.cell? ⟨g, o + ms.length * 1 + j, none⟩).isSome = true ∧ U.frozen? ⟨g, o + ms.length * 1 + j, none⟩ = false := fun _ j hj => by
    rw [List.length_singleton] at hj
    refine ⟨?_, hgb.frozen _⟩
    rw [hgb.cell, Array.getElem?_eq_getElem (by omega)]
    rfl
  have HW : Hid (U.setCells g (o + ms.length * 1) [.slice ao m c] = U.setCell ⟨g, o + ms.length, none⟩ (.slice ao m c)) := by show _ = _; rw [setCells_one, Nat.mul_one]
  have hbz : Box (U.setCell ⟨g, o + ms.length, none⟩ (.slice ao m c)) b 82 #[.int .i64 d, .slice (some ⟨g, o, none⟩) ms.length cap] := hbu.far hgne (.slice ao m c)
  have HQ2 := Lib.hid (hqu.room (mv := .slice ao m c) hroom)
  have hbig : ¬ cap < ms.length + 1 := by omega
  go_wp2_with (at_builtin; go_loud (refine wpList_append_arg _ rfl _ _ 40 rfl 22 i0 _ 1 24 Try.underlying40 hi hz0 hz1 hz2 rfl (by decide) g o ms.length cap ms rfl (by omega) hcl ⟨w.heap.size, 0, none⟩ 1 1 [.slice ao m c] rfl rfl hN HO.out hspare hb1 hb2 ?_ (fun h => absurd h hbig)); go_loud (intro _); go_loud (refine ?roundEnd))
  case roundEnd =>
    rw [HW.out]
    obtain ⟨W2, hW2⟩ : ∃ W2, U.setCell ⟨g, o + ms.length, none⟩ (.slice ao m c) = W2 := ⟨_, rfl⟩
    have C2 : Chg U W2 (fun k => k = g) := by rw [← hW2]; exact (Chg.refl U (fun k => k = g)).setCell (p := ⟨g, o + ms.length, none⟩) (fun _ => rfl) _
    rw [hW2] at hbz HQ2
    rw [hW2]
    have x1 := hbz.cell 1
    have x2 := hbz.frozen 1
    clear hbu hqu hU hspare hcl hN y0 y1 z1 hW2 HW
    have C3 : Chg W2 (W2.setCell ⟨b, 1, none⟩ (.slice (some ⟨g, o, none⟩) (ms.length + 1) cap)) (fun k => k = b) := (Chg.refl W2 (fun k => k = b)).setCell (p := ⟨b, 1, none⟩) (fun _ => rfl) _
    have HC3 := Lib.hid C3
    have HC2 := Lib.hid C2
    have HBZ := Lib.hid hbz
    clear C2 C3 hbz
    go_wp2_with fail
    go_ret
    have hgw : Box w g 22 cur ∨ True := .inr trivial
    refine .inr ⟨hlt, rfl, _, HBZ.out.set 1 _, HQ2.out.chg HC3.out (fun g' hg' h => ?_), ?_, fun g' hg' => .inl hg'⟩
    · have e : g = g' := by injection hg'
      exact hgne (h.symm.trans e.symm)
    · refine (HCU.out.mono (fun _ _ h => h.elim)).trans' ((HC2.out.mono (Q := fun k => k = b ∨ k = g) (fun _ _ h => .inr h)).trans' HC3.out (fun _ _ h => .inl h)) (fun k _ h => ?_)
      rcases h with h | h
      · exact .inl h
      · subst h
        exact .inr ⟨rfl, HR.out.ty rfl⟩

set_option maxRecDepth 100000 in
set_option maxHeartbeats 2000000 in
theorem putQ_grow {w : World} {b : Nat} {d : Int} {v : Value} {ms : List Value} {ao : Option Addr} {m c : Nat} (B : Box w b 82 #[.int .i64 d, v]) (R : QRow w v ms) (hd : d ≤ 16) (hlt : (ms.length : Int) < d) (hcap : ∀ vo n cap, v = .slice vo n cap → cap < ms.length + 1) :
    Calls Try.prog 77 #[.pointer (some ⟨b, 0, none⟩), .slice ao m c] w fun e w' => PutQ w w' b d v (.slice ao m c) ms e := by
  obtain ⟨i0, hi, hz0, hz1, hz2⟩ := info_parts info_by
  have hone : ∀ u ∈ [Value.slice ao m c], u.oneCell' = true := by intro u hu; rw [List.mem_singleton] at hu; subst hu; rfl
  obtain ⟨vo, cap, rfl, hle, hmx, hnn, hvb⟩ := R.form
  have y0 := B.cell 0
  have y1 := B.cell 1
  have z1 := B.frozen 1
  have hbl := B.lt
  have HO := Lib.hid hone
  have HR := Lib.hid R
  have HVB := Lib.hid hvb
  have HNN := Lib.hid hnn
  have HLE := Lib.hid (And.intro hle hmx)
  clear hone R hvb hnn
  have hroom := hcap _ _ _ rfl
  clear hcap hle hmx
  go_enter Try.func77, Try.ntmps77
  go_wp2_with fail
  go_quiet (fail)
  rename Nat => nqa
  go_upto_region 3 with fail
  obtain ⟨U, hU⟩ : ∃ U, (w.drewN nqa).alloc (.cells #[.slice ao m c] 22) = U := ⟨_, rfl⟩
  have CU : Chg w U (fun _ => False) := by rw [← hU]; exact ((Chg.refl w _).drewN _).alloc _
  have hN : ∀ j u, [Value.slice ao m c][j]? = some u → ((w.drewN nqa).alloc (.cells #[.slice ao m c] 22)).cell? ((⟨w.heap.size, 0, none⟩ : Addr).add j) = some u := ((Box.new (w.drewN nqa) 22 #[.slice ao m c]).src 1 1 1 [.slice ao m c] rfl rfl).get _ rfl
  rw [hU] at hN
  have hb1 : ms.length + 1 ≤ maxLen := by unfold maxLen; omega
  have hb2 : (ms.length + 1) * 24 ≤ 140737488355328 := by omega
  have hqu : QRow U (.slice vo ms.length cap) ms := HR.out.chg CU (fun _ _ h => h)
  have hbu : Box U b 82 #[.int .i64 d, .slice vo ms.length cap] := B.chg CU (fun h => h)
  have HCU := Lib.hid CU
  clear CU B
  have holds : ∀ ad, vo = some ad → ∀ j u, ms[j]? = some u → U.cell? (ad.add j) = some u := fun ad e j u hu => by
    obtain ⟨g, o, rfl, _⟩ := HVB.out ad e
    subst e
    obtain ⟨cur, hgb, -, -, -, hsz, -, hcl⟩ := hqu.cells
    rw [Addr.add_lit]
    exact hcl j u hu
  have HHN : Hid (vo = none → ms.length = 0 ∧ cap = 0) := fun h => ⟨by rw [(HNN.out h).1]; rfl, (HNN.out h).2⟩
  go_wp2_with (at_builtin; go_loud (refine wpList_append_grows _ rfl _ _ 40 rfl 22 i0 _ 1 24 Try.underlying40 hi hz0 hz1 hz2 rfl (by decide) vo ms.length cap ms rfl HHN.out (by omega) holds ⟨w.heap.size, 0, none⟩ 1 1 [.slice ao m c] rfl rfl hN HO.out hroom hb1 hb2 ?_); go_loud (intro v' wz Oz hgz); go_loud (refine ?roundEnd))
  case roundEnd =>
    have C2 : Chg U wz (fun _ => False) := Chg.of_grown hgz (fun k hk _ => by cases hk)
    have hbz := hbu.chg C2 (fun h => h)
    have x1 := hbz.cell 1
    have x2 := hbz.frozen 1
    have hwu := HCU.out.size
    have HQ2 := Lib.hid (QRow.of_own Oz)
    have HLT : Hid (∀ g, v'.ownBlock = some g → w.heap.size ≤ g ∧ g < wz.heap.size ∧ ¬ g = b) := fun g hg => by
      obtain ⟨h1, h2⟩ := Oz.lt g hg
      exact ⟨by omega, h2, by omega⟩
    obtain ⟨az, cz, rfl, -⟩ := own_form Oz
    have C3 : Chg wz (wz.setCell ⟨b, 1, none⟩ (.slice az (ms.length + 1) cz)) (fun k => k = b) := (Chg.refl wz (fun k => k = b)).setCell (p := ⟨b, 1, none⟩) (fun _ => rfl) _
    have HC3 := Lib.hid C3
    have HC2 := Lib.hid C2
    have HBZ := Lib.hid hbz
    clear hbu hqu hU holds hN y0 y1 z1 Oz hgz C2 C3 hbz
    go_wp2_with fail
    go_ret
    refine .inr ⟨hlt, rfl, _, HBZ.out.set 1 _, HQ2.out.chg HC3.out (fun g' hg' h => (HLT.out g' hg').2.2 h), ?_, fun g' hg' => .inr ⟨(HLT.out g' hg').1, Nat.lt_of_lt_of_le (HLT.out g' hg').2.1 HC3.out.size⟩⟩
    exact (HCU.out.mono (fun _ _ h => h.elim)).trans' ((HC2.out.mono (Q := fun k => k = b) (fun _ _ h => h.elim)).trans HC3.out) (fun k _ h => .inl h)

theorem putQ_any {w : World} {b : Nat} {d : Int} {v : Value} {ms : List Value} {ao : Option Addr} {m c : Nat} (B : Box w b 82 #[.int .i64 d, v]) (R : QRow w v ms) (hd : d ≤ 16) :
    Calls Try.prog 77 #[.pointer (some ⟨b, 0, none⟩), .slice ao m c] w fun e w' => PutQ w w' b d v (.slice ao m c) ms e := by
  by_cases hfull : d ≤ (ms.length : Int)
  · exact putQ_full B R hd hfull
  obtain ⟨vo, cap, rfl, _⟩ := R.form
  by_cases hr : ms.length + 1 ≤ cap
  · exact putQ_room B R hd (by omega) (fun _ _ _ h => by cases h; exact hr)
  · exact putQ_grow B R hd (by omega) (fun _ _ _ h => by cases h; omega)
end Go.Proofs.Ytiedfglkjkaefaa

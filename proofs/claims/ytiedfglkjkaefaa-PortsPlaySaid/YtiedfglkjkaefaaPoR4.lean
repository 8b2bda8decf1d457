/- ports: the reference's Read (printed by gen_por4.py). -/
import Derived.Test.YtiedfglkjkaefaaPoR3
namespace Go.Proofs.Ytiedfglkjkaefaa
open Go.RowKit

/-- What Read leaves of the reference's Net; its answer is a row of the caller's own. -/
def RRead (w w' : World) (F : Nat → Prop) (D : RD) (Q' : Que) (xs : List Int) (r : Int) (e : Ending) : Prop :=
  ∃ (ao : Option Addr) (cap : Nat) (F' : Nat → Prop) (vs' : Nat → Value), e = .returned (.tuple #[.slice ao xs.length cap, .int .i64 r]) ∧ w'.ownsRow w.heap.size 5 1 (.slice ao xs.length cap) xs.length (u8s xs) ∧
    RAt w' F' D Q' vs' ∧ (∀ k, F k → F' k) ∧ (∀ k, F' k → F k ∨ (w.heap.size ≤ k ∧ k < w'.heap.size)) ∧ (∀ g, (Value.slice ao xs.length cap).ownBlock = some g → ¬ F' g) ∧ Chg w w' (fun k => k = D.gq)
theorem rread_no {w w' : World} {F : Nat → Prop} {D : RD} {Q : Que} {vs : Nat → Value} {part port most : Int} (N : RAt w F D Q vs) (c : Chg w w' (fun _ => False)) (h : rdOk D.l Q part port most = false) : RRead w w' F D (rdQ D.l Q part port most) (rdB D.l Q part port most) (rdC D.l Q part port most) (.returned (.tuple #[.slice none 0 0, .int .i64 (rdC D.l Q part port most)])) := by
  obtain ⟨hq, hb⟩ := rdQ_no h
  rw [hq, hb]
  exact ⟨none, 0, F, vs, rfl, World.ownsRow_nil _ _ _ _, N.keep c, fun _ h => h, fun _ h => .inl h, fun g hg => (by cases hg), c.mono (fun _ _ h => h.elim)⟩
set_option maxRecDepth 100000 in
theorem cut_run (g o z qc : Nat) (h0 : 0 < z) (wx : World) : (Instr.slice 40 (.slice (some ⟨g, o, none⟩) z qc) (some (.int .i64 1)) none none).run Try.prog wx = .ok (cutV g o z qc) wx := by
  have hs : (sizeOf (Try.prog.elem 40)).run Try.prog wx = .ok 1 wx := by kernel_rfl
  rw [run_slice_l wx 40 (some ⟨g, o, none⟩) z qc Try.underlying40 .i64 1 (by decide) (by omega), hs]
  unfold cutV sliced
  by_cases h : qc = 1
  · simp [Result.andThen, h]
  · simp [Result.andThen, h, Addr.add_lit]
/-- The first message is taken off. -/
theorem RAt.pull {w w2 w' : World} {F : Nat → Prop} {D : RD} {Q : Que} {vs : Nat → Value} (N : RAt w F D Q vs) {i : Nat} (hi : i < D.l.length) {xs : List Int} {rest : List (List Int)} {v' : Value} {ms : List Value} {n : Nat}
    (C : Chg w w2 (fun _ => False)) (O2 : w2.ownsRow w.heap.size 22 1 v' n ms.tail) (hms : MsgsAt w F ms (Q i)) (hq : Q i = xs :: rest) (h' : w' = w2.setCell ⟨D.gq, i, none⟩ v') :
    RAt w' (fun k => F k ∨ (w.heap.size ≤ k ∧ k < w2.heap.size)) D (qSet Q i rest) (fun j => if j = i then v' else vs j) ∧ Chg w w' (fun k => k = D.gq) := by
  have hqk := (N.ch i hi).qk
  have hl := hqk.len
  rw [hq, List.length_cons] at hl
  refine N.turn i hi v' rest C h' (fun _ h => .inl h) (fun _ h => h) ⟨(N.ch i hi).ok, ⟨by omega, fun h => by have := hqk.one h; rw [hq, List.length_cons] at this; omega, fun ys hy => hqk.msg ys (by rw [hq]; exact List.mem_cons_of_mem _ hy)⟩, ⟨ms.tail, QRow.of_own O2, ?_⟩, fun g hg => .inr (O2.lt g hg)⟩
  have := MsgsAt.tail hms
  rw [hq] at this
  exact MsgsAt.chg (P := fun _ => False) C (fun _ _ _ h => h) (fun _ h => .inl h) this

set_option maxRecDepth 100000 in
set_option maxHeartbeats 8000000 in
theorem rread_any {w : World} {F : Nat → Prop} {D : RD} {Q : Que} {vs : Nat → Value} (N : RAt w F D Q vs) (part port most : Int) :
    Calls Try.prog 25 #[.pointer (some ⟨D.n, 0, none⟩), .int .i64 part, .int .i64 port, .int .i64 most] w fun e w' => RRead w w' F D (rdQ D.l Q part port most) (rdB D.l Q part port most) (rdC D.l Q part port most) e := by
  have HF := rport_any N part port
  rcases portV_rng D.l part port with hp | ⟨i, hp, hi⟩
  · have HR := Lib.hid (rd_none (Q := Q) (most := most) hp)
    rw [hp] at HF
    have HN := Lib.hid N
    clear hp N
    go_enter Try.func25, Try.ntmps25
    go_wp2_with fail
    refine HF.mono ?_
    rintro e w1 ⟨rfl, C1⟩
    clear HF
    have HC1 := Lib.hid C1
    go_wp2_with fail
    go_returns
    have := rread_no HN.out HC1.out HR.out.1
    rw [HR.out.2] at this ⊢
    exact this
  have hmax := N.max
  have hknd := (N.ch i hi).ok.kind
  have HN := Lib.hid N
  have HP := Lib.hid hp
  have HI := hi
  rw [hp] at HF
  obtain ⟨i0, hi0, hz0, hz1, hz2⟩ := info_parts info_u8
  obtain ⟨i2, hj0, hy0, hy1, hy2⟩ := info_parts info_by
  clear N hp
  have hi0n : decide ((i : Int) < 0) = false := decide_eq_false (by omega)
  go_enter Try.func25, Try.ntmps25
  go_wp2_with fail
  refine HF.mono ?_
  rintro e w1 ⟨rfl, C1⟩
  clear HF
  have N1 := HN.out.keep C1
  have HN1 := Lib.hid N1
  have HC1 := Lib.hid C1
  obtain ⟨gc, oc, -, q4, q6, d0, d1, d2, d3, d4, dq⟩ := N1.chan i hi
  obtain ⟨qo, qc, hv, hqc1, hqc2, hq16⟩ := (N1.ch i hi).form
  obtain ⟨ms, hqr0, hms0⟩ := (HN.out.ch i hi).row
  have hqr := hqr0.chg C1 (fun _ _ h => h)
  have HMSW := Lib.hid hms0
  have HMS1 : Hid (MsgsAt w1 F ms (Q i)) := MsgsAt.chg (P := fun _ => False) C1 (fun _ _ _ h => h) (fun _ h => h) hms0
  have HMG := Lib.hid (N1.ch i hi).qk.msg
  rw [hv] at hqr
  have hln := N1.box.lt
  have hlq := N1.row.lt
  have HFZ := Lib.hid (fun k => N1.row.frozen k)
  obtain ⟨L, hL⟩ : ∃ L, D.l.length = L := ⟨_, rfl⟩
  rw [hL] at q4 q6 hi hmax
  rw [hv] at dq
  clear hL hv N1 C1 hqr0 hms0
  by_cases hd : D.l[i].dst = part
  rotate_left
  · have HR := Lib.hid (rd_other (Q := Q) (most := most) HP.out HI hd)
    have b1 : (D.l[i].dst != part) = true := bne_iff_ne.2 hd
    clear hd
    go_wp2_with fail
    go_returns
    have := rread_no HN.out HC1.out HR.out.1
    rw [HR.out.2] at this ⊢
    exact this
  have HDP := Lib.hid hd
  have b1 : (D.l[i].dst != part) = false := by simp [hd]
  clear hd
  cases hqi : Q i with
  | nil =>
    have HR := Lib.hid (rd_empty (most := most) HP.out HI HDP.out hqi)
    rw [hqi] at dq
    clear hqi hqr
    go_wp2_with fail
    go_returns
    have := rread_no HN.out HC1.out HR.out.1
    rw [HR.out.2] at this ⊢
    exact this
  | cons xs r =>
    have HQ := Lib.hid hqi
    have hm1 := HMS1.out
    rw [hqi] at hm1 dq hqr hqc1 hq16
    have hml := hm1.length
    cases ms with
    | nil => exact hm1.elim
    | cons mv ms =>
    obtain ⟨M, hmr⟩ := hm1
    obtain ⟨m, hm⟩ : ∃ m, xs.length = m := ⟨_, rfl⟩
    have HM := Lib.hid hm
    obtain ⟨ao, cap, rfl, hcp, -⟩ := own_form M.own
    have hmg := (HMG.out xs (by rw [hqi]; simp)).2
    obtain ⟨vo, vc, hv, hvl, hvm, hvn, hvb⟩ := hqr.form
    injection hv with hv1 hv2 hv3
    subst hv1 hv3
    obtain ⟨g, o, rfl, hgl⟩ : ∃ g o, qo = some ⟨g, o, none⟩ ∧ g < w1.heap.size := by
      cases qo with
      | none => exact absurd (hvn rfl).1 (by simp)
      | some ad => obtain ⟨g, o, rfl, hg⟩ := hvb ad rfl; exact ⟨g, o, rfl, hg⟩
    obtain ⟨cur, -, -, -, -, -, -, hcl⟩ := hqr.cells
    have y2 := hcl 0 _ rfl
    rw [Nat.add_zero, hm] at y2
    have HMM := Lib.hid M
    have HQR := Lib.hid hqr
    have HRR := Lib.hid hml
    obtain ⟨z, hz⟩ : ∃ z, (xs :: r).length = z := ⟨_, rfl⟩
    have HZ := Lib.hid hz
    rw [hz] at dq hqc1 hq16 HQR HRR
    have hzp : 0 < z := by rw [← hz]; simp
    have hzb : ((z : Int) == 0) = false := by rw [beq_eq_false_iff_ne]; omega
    have hzi : (0 : Int) < (z : Int) := by omega
    rw [hm] at hmg
    clear hqi hqr M hmr hcl hvl hvn hvb hz hm hml hv2
    by_cases hl : most < (m : Int)
    · have HR := Lib.hid (rd_long HP.out HI HDP.out HQ.out (by rw [HM.out]; exact hl))
      go_wp2_with fail
      go_returns
      have := rread_no HN.out HC1.out HR.out.1
      rw [HR.out.2] at this ⊢
      exact this
    · have HR := Lib.hid (rd_good HP.out HI HDP.out HQ.out (by rw [HM.out]; exact hl))
      have HY := Lib.hid (rd_yes HP.out HI HQ.out HR.out.1)
      have hl0 : decide (most < (m : Int)) = false := decide_eq_false hl
      clear hl
      have SM := own_src HMM.out.own
      rw [HM.out] at SM
      have HSM := Lib.hid SM
      have HF1 := Lib.hid (fun k hk => (HN1.out.lt k hk).1)
      clear SM
      have HKD := Lib.hid hknd
      rcases hknd with hk | hk
      · have b2 : (D.l[i].kind == 1) = false := by rw [hk]; rfl
        have HK := Lib.hid hk
        rw [hk] at d0
        clear hk
        go_wp2_with (at_builtin; go_loud (refine wpList_append_src _ rfl (.const (.slice none 0 0)) (.tmp 78) _ rfl w1.heap.size 5 i0 _ 1 1 Try.underlying22 hi0 hz0 hz1 hz2 rfl (by omega) _ 0 [] rfl (World.ownsRow_nil _ _ _ _) ao m cap _ rfl HSM.out (u8s_one _) (by unfold maxLen; omega) (by omega) (Nat.le_refl _) ?_); go_loud (intro v3 w3 O3 g3); go_loud (refine ?roundEnd))
        case roundEnd =>
          rw [Nat.zero_add, List.nil_append] at O3
          have C3 : Chg w1 w3 (fun _ => False) := Chg.of_grown g3 (fun k hk _ => by cases hk)
          obtain ⟨a3, c3, rfl, -⟩ := own_form O3
          have HO3 := Lib.hid O3
          have HC3 := Lib.hid C3
          clear O3 C3 g3
          go_wp2_with fail
          go_returns
          obtain ⟨e1, e2, -⟩ := HY.out
          rw [e1, e2 HK.out, HR.out.2, HM.out]
          refine ⟨a3, c3, F, vs, by rw [HM.out]; rfl, by rw [HM.out]; exact own_base HO3.out HC1.out.size, HN.out.keep (HC1.out.trans HC3.out), fun _ h => h, fun _ h => .inl h, fun g hg hf => ?_, (HC1.out.trans HC3.out).mono (fun _ _ h => h.elim)⟩
          rw [HM.out] at hg
          have := (HO3.out.lt g hg).1
          have := HF1.out g hf
          omega
      · have b2 : (D.l[i].kind == 1) = true := by rw [hk]; rfl
        have HK := Lib.hid hk
        rw [hk] at d0
        clear hk
        obtain ⟨so, sc, hso, hsq⟩ : ∃ so sc, (∀ wx : World, (Instr.slice 40 (.slice (some ⟨g, o, none⟩) z qc) (some (.int .i64 1)) none none).run Try.prog wx = .ok (.slice so (z - 1) sc) wx) ∧ QRow w1 (.slice so (z - 1) sc) ms := by
          have hc := HQR.out.cut hzp
          refine ⟨_, qc - 1, fun wx => cut_run g o z qc hzp wx, hc⟩
        have HSQ := Lib.hid hsq
        have fz1 := HFZ.out i
        clear hsq
        go_wp2_with fail
        refine wp_region_noPanic ?_
        refine wp_region_L 14 (fun w' => w'.cell? ⟨D.n, 6, none⟩ = some (.slice (some ⟨D.gq, 0, none⟩) L L) ∧ w'.cell? ⟨D.gq, i, none⟩ = some (.slice (some ⟨g, o, none⟩) z qc)) (by kernel_rfl) (⟨q6, dq⟩) (fun hHeld => ?_)
        refine wpAnyL_take (i := 0) (oi := ?oia0) (v := ?va0) ?hia0 (by kernel_rfl) (by kernel_rfl) (by kernel_rfl) (by kernel_rfl) (fun _ _ _ h => h) (Or.inl ⟨?hwa0, ?hya0⟩) (by assumption) ?hra0
        case hia0 => simp only [List.getElem?_toArray, List.getElem?_cons_succ, List.getElem?_cons_zero]; rfl
        case hwa0 => rfl
        case hya0 => intro wq hSq; (try dsimp only at hSq); go_simp; (try with_reducible rfl)
        try simp only [Act.put, List.setIfInBounds_toArray, List.set_cons_zero, List.set_cons_succ]
        refine wpAnyL_take (i := 1) (oi := ?oia1) (v := ?va1) ?hia1 (by kernel_rfl) (by kernel_rfl) (by kernel_rfl) (by kernel_rfl) (fun _ _ _ h => h) (Or.inl ⟨?hwa1, ?hya1⟩) (by assumption) ?hra1
        case hia1 => simp only [List.getElem?_toArray, List.getElem?_cons_succ, List.getElem?_cons_zero]; rfl
        case hwa1 => rfl
        case hya1 => intro wq hSq; (try dsimp only at hSq); go_simp; (try with_reducible rfl)
        try simp only [Act.put, List.setIfInBounds_toArray, List.set_cons_zero, List.set_cons_succ]
        refine wpAnyL_take (i := 2) (oi := ?oia2) (v := ?va2) ?hia2 (by kernel_rfl) (by kernel_rfl) (by kernel_rfl) (by kernel_rfl) (fun _ _ _ h => h) (Or.inl ⟨?hwa2, ?hya2⟩) (by assumption) ?hra2
        case hia2 => simp only [List.getElem?_toArray, List.getElem?_cons_succ, List.getElem?_cons_zero]; rfl
        case hwa2 => rfl
        case hya2 => intro wq hSq; (try dsimp only at hSq); go_simp; (try with_reducible rfl)
        try simp only [Act.put, List.setIfInBounds_toArray, List.set_cons_zero, List.set_cons_succ]
        refine wpAnyL_take (i := 3) (oi := ?oia3) (v := ?va3) ?hia3 (by kernel_rfl) (by kernel_rfl) (by kernel_rfl) (by kernel_rfl) (fun _ _ _ h => h) (Or.inl ⟨?hwa3, ?hya3⟩) (by assumption) ?hra3
        case hia3 => simp only [List.getElem?_toArray, List.getElem?_cons_succ, List.getElem?_cons_zero]; rfl
        case hwa3 => rfl
        case hya3 => intro wq hSq; (try dsimp only at hSq); go_simp; (try with_reducible rfl)
        try simp only [Act.put, List.setIfInBounds_toArray, List.set_cons_zero, List.set_cons_succ]
        refine wpAnyL_take (i := 4) (oi := ?oia4) (v := ?va4) ?hia4 (by kernel_rfl) (by kernel_rfl) (by kernel_rfl) (by kernel_rfl) (fun _ _ _ h => h) (Or.inl ⟨?hwa4, ?hya4⟩) (by assumption) ?hra4
        case hia4 => simp only [List.getElem?_toArray, List.getElem?_cons_succ, List.getElem?_cons_zero]; rfl
        case hwa4 => rfl
        case hya4 => intro wq hSq; (try dsimp only at hSq); go_simp; (try with_reducible rfl)
        try simp only [Act.put, List.setIfInBounds_toArray, List.set_cons_zero, List.set_cons_succ]
        refine wpAnyL_take (i := 5) (oi := ?oia5) (v := ?va5) ?hia5 (by kernel_rfl) (by kernel_rfl) (by kernel_rfl) (by kernel_rfl) (fun _ _ _ h => h) (Or.inl ⟨?hwa5, ?hya5⟩) (by assumption) ?hra5
        case hia5 => simp only [List.getElem?_toArray, List.getElem?_cons_succ, List.getElem?_cons_zero]; rfl
        case hwa5 => rfl
        case hya5 => intro wq hSq; (try dsimp only at hSq); go_simp; (try with_reducible rfl)
        try simp only [Act.put, List.setIfInBounds_toArray, List.set_cons_zero, List.set_cons_succ]
        refine wpAnyL_take (i := 6) (oi := ?oia6) (v := ?va6) ?hia6 (by kernel_rfl) (by kernel_rfl) (by kernel_rfl) (by kernel_rfl) (fun _ _ _ h => h) (Or.inl ⟨?hwa6, ?hya6⟩) (by assumption) ?hra6
        case hia6 => simp only [List.getElem?_toArray, List.getElem?_cons_succ, List.getElem?_cons_zero]; rfl
        case hwa6 => rfl
        case hya6 => intro wq hSq; (try dsimp only at hSq); go_simp; (try with_reducible rfl)
        try simp only [Act.put, List.setIfInBounds_toArray, List.set_cons_zero, List.set_cons_succ]
        refine wpAnyL_take (i := 7) (oi := ?oia7) (v := ?va7) ?hia7 (by kernel_rfl) (by kernel_rfl) (by kernel_rfl) (by kernel_rfl) (fun _ _ _ h => h) (Or.inl ⟨?hwa7, ?hya7⟩) (by assumption) ?hra7
        case hia7 => simp only [List.getElem?_toArray, List.getElem?_cons_succ, List.getElem?_cons_zero]; rfl
        case hwa7 => rfl
        case hya7 => intro wq hSq; (try dsimp only at hSq); go_simp; (try with_reducible rfl)
        try simp only [Act.put, List.setIfInBounds_toArray, List.set_cons_zero, List.set_cons_succ]
        refine wpAnyL_take (i := 8) (oi := ?oia8) (v := ?va8) ?hia8 (by kernel_rfl) (by kernel_rfl) (by kernel_rfl) (by kernel_rfl) (fun _ _ _ h => h) (Or.inl ⟨?hwa8, ?hya8⟩) (by assumption) ?hra8
        case hia8 => simp only [List.getElem?_toArray, List.getElem?_cons_succ, List.getElem?_cons_zero]; rfl
        case hwa8 => rfl
        case hya8 => intro wq hSq; (try dsimp only at hSq); go_simp; (try with_reducible rfl)
        try simp only [Act.put, List.setIfInBounds_toArray, List.set_cons_zero, List.set_cons_succ]
        refine wpAnyL_take (i := 9) (oi := ?oia9) (v := ?va9) ?hia9 (by kernel_rfl) (by kernel_rfl) (by kernel_rfl) (by kernel_rfl) (fun _ _ _ h => h) (Or.inl ⟨?hwa9, ?hya9⟩) (by assumption) ?hra9
        case hia9 => simp only [List.getElem?_toArray, List.getElem?_cons_succ, List.getElem?_cons_zero]; rfl
        case hwa9 => rfl
        case hya9 => intro wq hSq; (try dsimp only at hSq); go_simp; (try with_reducible rfl)
        try simp only [Act.put, List.setIfInBounds_toArray, List.set_cons_zero, List.set_cons_succ]
        refine wpAnyL_take (i := 10) (oi := ?oia10) (v := ?va10) ?hia10 (by kernel_rfl) (by kernel_rfl) (by kernel_rfl) (by kernel_rfl) (fun _ _ _ h => h) (Or.inl ⟨?hwa10, ?hya10⟩) (by assumption) ?hra10
        case hia10 => simp only [List.getElem?_toArray, List.getElem?_cons_succ, List.getElem?_cons_zero]; rfl
        case hwa10 => rfl
        case hya10 => intro wq hSq; (try dsimp only at hSq); go_simp; (try with_reducible rfl)
        try simp only [Act.put, List.setIfInBounds_toArray, List.set_cons_zero, List.set_cons_succ]
        refine wpAnyL_take (i := 11) (oi := ?oia11) (v := ?va11) ?hia11 (by kernel_rfl) (by kernel_rfl) (by kernel_rfl) (by kernel_rfl) (fun _ _ _ h => h) (Or.inl ⟨?hwa11, ?hya11⟩) (by assumption) ?hra11
        case hia11 => simp only [List.getElem?_toArray, List.getElem?_cons_succ, List.getElem?_cons_zero]; rfl
        case hwa11 => rfl
        case hya11 => intro wq hSq; (try dsimp only at hSq); go_simp; (try with_reducible rfl)
        try simp only [Act.put, List.setIfInBounds_toArray, List.set_cons_zero, List.set_cons_succ]
        refine wpAnyL_take (i := 12) (oi := ?oia12) (v := ?va12) ?hia12 (by kernel_rfl) (by kernel_rfl) (by kernel_rfl) (by kernel_rfl) (fun _ _ _ h => h) (Or.inl ⟨?hwa12, ?hya12⟩) (by assumption) ?hra12
        case hia12 => simp only [List.getElem?_toArray, List.getElem?_cons_succ, List.getElem?_cons_zero]; rfl
        case hwa12 => rfl
        case hya12 => intro wq hSq; (try dsimp only at hSq); go_simp; (try with_reducible rfl)
        try simp only [Act.put, List.setIfInBounds_toArray, List.set_cons_zero, List.set_cons_succ]
        refine wpAnyL_ready (rs := [13]) (by kernel_rfl) (by simp) ?_
        refine AllReadyL.cons rfl (fun K hK => ?_) AllReadyL.nil
        refine op_append_src (.const (.slice none 0 0)) (.tmp 75) _ rfl w1.heap.size 22 i2 _ 1 24 Try.underlying40 hj0 hy0 hy1 hy2 rfl (by omega) (.slice none 0 0) 0 [] rfl (World.ownsRow_nil _ _ _ _) so (z - 1) sc ms rfl (HSQ.out.src.chg ((Chg.refl w1 (fun _ => False)).drew) (fun _ _ h => h)) (fun u hu => MsgsAt.one_ HMS1.out u (List.mem_cons_of_mem _ hu)) (by unfold maxLen; omega) (by omega) (Nat.le_refl _) ?_
        intro v2 wz O2 g2x
        rw [Nat.zero_add, List.nil_append] at O2
        have CX : Chg w1 wz (fun _ => False) := ((Chg.refl w1 _).drew).grown g2x (fun j hj _ => by cases hj)
        obtain ⟨ag, cg, rfl, -⟩ := own_form O2
        change K (Act.put _ (some 76) _) _
        simp only [Act.put, List.setIfInBounds_toArray, List.set_cons_zero, List.set_cons_succ]
        refine hK.out _ _ (.inl (⟨CX.cell q6 (fun h => h), CX.cell dq (fun h => h)⟩)) (fun hHeld => ?_)
        replace hHeld := SOr.stands hHeld (by kernel_rfl)
        clear hK K
        try simp only [Act.put, List.setIfInBounds_toArray, List.set_cons_zero, List.set_cons_succ]
        refine wpAnyL_tail (l := [15]) (by kernel_rfl) (by kernel_rfl) ?_
        simp only [tailOps, List.filterMap_cons, List.filterMap_nil, List.getElem?_toArray, List.getElem?_cons_succ, List.getElem?_cons_zero]
        clear hHeld hso
        have HCX := Lib.hid CX
        have HO2 := Lib.hid O2
        have qz := CX.cell q6 (fun h => h)
        have dz := CX.cell dq (fun h => h)
        have fz : wz.frozen? ⟨D.gq, i, none⟩ = false := (CX.frozen dq (fun h => h)).trans fz1
        have hlz : D.gq < wz.heap.size := World.block_lt_of_cell? wz _ dz
        have hszx := CX.size
        clear CX O2 q6 dq fz1 q4 d0 d1 d2 d3 d4
        go_wp2_with fail
        refine NoPanic.normal ?_
        obtain ⟨N7, C7⟩ := HN.out.pull (ms := .slice ao xs.length cap :: ms) HI (HC1.out.trans HCX.out) (own_base HO2.out HC1.out.size) HMSW.out HQ.out (w' := wz.setCell ⟨D.gq, i, none⟩ (.slice ag (z - 1) cg)) rfl
        have CS : Chg wz (wz.setCell ⟨D.gq, i, none⟩ (.slice ag (z - 1) cg)) (fun k => k = D.gq) := (Chg.refl wz (fun k => k = D.gq)).setCell (p := ⟨D.gq, i, none⟩) (fun _ => rfl) _
        have hbq := (HN1.out.keep HCX.out).row
        have SM7 := (HSM.out.chg HCX.out (fun _ _ h => h)).chg CS (fun ad e h => by
          subst e
          have hb := own_u8 (HMM.out.own) rfl
          obtain ⟨cur, hb⟩ := hb
          exact box_ty (hb.chg HCX.out (fun h => h)) hbq (by decide) h)
        have HN7 := Lib.hid N7
        have HC7 := Lib.hid C7
        have HSM7 := Lib.hid SM7
        have hs7 : wz.heap.size ≤ (wz.setCell ⟨D.gq, i, none⟩ (.slice ag (z - 1) cg)).heap.size := CS.size
        clear N7 C7 CS SM7 hbq
        generalize wz.setCell ⟨D.gq, i, none⟩ (.slice ag (z - 1) cg) = w7 at *
        go_wp2_with (at_builtin; go_loud (refine wpList_append_src _ rfl (.const (.slice none 0 0)) (.tmp 78) _ rfl w7.heap.size 5 i0 _ 1 1 Try.underlying22 hi0 hz0 hz1 hz2 rfl (by omega) _ 0 [] rfl (World.ownsRow_nil _ _ _ _) ao m cap _ rfl HSM7.out (u8s_one _) (by unfold maxLen; omega) (by omega) (Nat.le_refl _) ?_); go_loud (intro v3 w3 O3 g3); go_loud (refine ?roundEnd))
        case roundEnd =>
          rw [Nat.zero_add, List.nil_append] at O3
          have C3 : Chg w7 w3 (fun _ => False) := Chg.of_grown g3 (fun k hk _ => by cases hk)
          obtain ⟨a3, c3, rfl, -⟩ := own_form O3
          have HO3 := Lib.hid O3
          have HC3 := Lib.hid C3
          clear O3 C3 g3
          go_wp2_with fail
          go_returns
          obtain ⟨e1, -, e2⟩ := HY.out
          rw [e1, e2 HK.out, HR.out.2, HM.out]
          refine ⟨a3, c3, _, _, by rw [HM.out]; rfl, by rw [HM.out]; exact own_base HO3.out (by have := HC1.out.size; omega), HN7.out.keep HC3.out, fun _ h => .inl h, fun k hk => hk.imp_right (fun h => ⟨h.1, by have := HC3.out.size; omega⟩), fun g hg hf => ?_, HC7.out.trans (HC3.out.mono (fun _ _ h => h.elim))⟩
          rw [HM.out] at hg
          have h1 := (HO3.out.lt g hg).1
          rcases hf with hf | hf
          · have := HF1.out g hf; omega
          · omega
end Go.Proofs.Ytiedfglkjkaefaa

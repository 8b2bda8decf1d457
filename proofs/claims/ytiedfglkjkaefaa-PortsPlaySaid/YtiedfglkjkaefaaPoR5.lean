/- ports: the reference's Call (printed by gen_por5.py). -/
import Derived.Test.YtiedfglkjkaefaaPoR4
namespace Go.Proofs.Ytiedfglkjkaefaa
open Go.RowKit

/-- The reference's Net and memory. -/
structure RMem (w : World) (F : Nat → Prop) (D : RD) (Q : Que) (vs : Nat → Value) (va vb N : Nat) (f : Nat → Int) : Prop where
  net : RAt w F D Q vs
  mem : Mem 65 w va vb N f
  na : ¬ F va
  nb : ¬ F vb
  base : D.base ≤ vb
theorem RMem.keep {w w' : World} {F : Nat → Prop} {D : RD} {Q : Que} {vs : Nat → Value} {va vb N : Nat} {f : Nat → Int} (h : RMem w F D Q vs va vb N f) (c : Chg w w' (fun _ => False)) : RMem w' F D Q vs va vb N f := ⟨h.net.keep c, h.mem.chg c (fun h => h) (fun h => h), h.na, h.nb, h.base⟩
def RCTo (w w' : World) (F : Nat → Prop) (D : RD) (Q' : Que) (va vb N : Nat) (f' : Nat → Int) (r : Int) (e : Ending) : Prop :=
  e = .returned (.int .i64 r) ∧ ∃ F' vs', RMem w' F' D Q' vs' va vb N f' ∧ (∀ k, F k → F' k) ∧ (∀ k, F' k → F k ∨ (w.heap.size ≤ k ∧ k < w'.heap.size)) ∧ Chg w w' (fun k => k = D.gq ∨ k = vb)
theorem RCTo.none {w w' : World} {F : Nat → Prop} {D : RD} {Q : Que} {vs : Nat → Value} {va vb N : Nat} {f : Nat → Int} {r : Int} (h : RMem w F D Q vs va vb N f) (c : Chg w w' (fun _ => False)) : RCTo w w' F D Q va vb N f r (.returned (.int .i64 r)) := ⟨rfl, F, vs, h.keep c, fun _ h => h, fun _ h => .inl h, c.mono (fun _ _ h => h.elim)⟩
theorem RCTo.cong {w w' : World} {F : Nat → Prop} {D : RD} {Q1 Q2 : Que} {va vb N : Nat} {f1 f2 : Nat → Int} {r1 r2 : Int} {e : Ending} (h : RCTo w w' F D Q1 va vb N f1 r1 e) (hq : Q1 = Q2) (hf : f1 = f2) (hr : r1 = r2) : RCTo w w' F D Q2 va vb N f2 r2 e := by
  subst hq hf hr; exact h

theorem w_any (n : Int) (w : World) : Calls Try.prog 28 #[.int .i64 n] w fun e w' => e = .returned (.int .i64 (n % 4294967296)) ∧ w = w' := by
  have h := and32 n
  go_enter Try.func28, Try.ntmps28
  go_wp2
  go_ret
  exact ⟨rfl, rfl⟩

section
variable {w : World} {F : Nat → Prop} {D : RD} {Q : Que} {vs : Nat → Value} {va vb N : Nat} {f : Nat → Int}
set_option maxRecDepth 100000 in
set_option maxHeartbeats 8000000 in
theorem rcall_w (h : RMem w F D Q vs va vb N f) (part a0 a1 a2 : Int) (h2 : 0 ≤ a2 ∧ a2 ≤ 4294967295) :
    Calls Try.prog 29 #[.pointer (some ⟨D.n, 0, none⟩), .int .i64 part, .int .i64 1, .agg #[.int .i64 a0, .int .i64 a1, .int .i64 a2], .pointer (some ⟨va, 0, none⟩)] w
      fun e w' => RCTo w w' F D (cwQ D.l Q N f part a0 a1 a2) va vb N f (cwC D.l Q N part a0 a1 a2) e := by
  have C0 : Chg w (w.alloc (.cells #[.int .i64 a0, .int .i64 a1, .int .i64 a2] 50)) (fun _ => False) := (Chg.refl w _).alloc _
  have B0 := Box.new w 50 #[.int .i64 a0, .int .i64 a1, .int .i64 a2]
  have HF := rport_any (h.net.keep C0) part a0
  have hmax := h.net.max
  have HH := Lib.hid h
  have HC0 := Lib.hid C0
  have HB0 := Lib.hid B0
  clear h C0 B0
  have hnone : fromV D.l part a0 = -1 → cwC D.l Q N part a0 a1 a2 = 4294967295 ∧ cwQ D.l Q N f part a0 a1 a2 = Q := by
    intro hv
    unfold cwC cwQ
    rw [hv]
    exact ⟨rfl, rfl⟩
  have HNO := Lib.hid hnone
  clear hnone
  rcases portV_rng D.l part a0 with hp | ⟨i, hp, hi⟩
  · have HR := Lib.hid (HNO.out (by unfold fromV; rw [hp]; rfl))
    rw [hp] at HF
    clear hp
    go_enter Try.func29, Try.ntmps29
    go_wp2_with fail
    refine HF.mono ?_
    rintro e w1 ⟨rfl, C1⟩
    clear HF
    go_wp2_with fail
    go_ret
    rw [HR.out.1, HR.out.2]
    exact RCTo.none HH.out (HC0.out.trans C1)
  have HP := Lib.hid hp
  have HI := hi
  rw [hp] at HF
  have hi0n : decide ((i : Int) < 0) = false := decide_eq_false (by omega)
  clear hp
  go_enter Try.func29, Try.ntmps29
  go_wp2_with fail
  refine HF.mono ?_
  rintro e w1 ⟨rfl, C1⟩
  clear HF
  have HC1 := Lib.hid (HC0.out.trans C1)
  have HN1 := Lib.hid (HH.out.keep HC1.out)
  have B1 := HB0.out.chg C1 (fun h => h)
  have x0 := B1.cell 0
  have x1 := B1.cell 1
  have x2 := B1.cell 2
  have HB1 := Lib.hid B1
  obtain ⟨gc, oc, -, q4, q6, d0, d1, d2, d3, d4, dq⟩ := HN1.out.net.chan i hi
  have hln := HN1.out.net.box.lt
  obtain ⟨L, hL⟩ : ∃ L, D.l.length = L := ⟨_, rfl⟩
  rw [hL] at q4 q6 hi hmax
  clear hL C1 B1
  by_cases hs : D.l[i].src = part
  rotate_left
  · have HR := Lib.hid (HNO.out (by unfold fromV; rw [HP.out, Int.toNat_natCast, chD_at HI, if_pos ⟨by omega, hs⟩]))
    have b1 : (D.l[i].src != part) = true := bne_iff_ne.2 hs
    clear hs
    go_wp2_with fail
    go_ret
    rw [HR.out.1, HR.out.2]
    exact RCTo.none HH.out HC1.out
  have b1 : (D.l[i].src != part) = false := by simp [hs]
  have HV : Hid (fromV D.l part a0 = i) := by show _ = _; unfold fromV; rw [HP.out, Int.toNat_natCast, chD_at HI, if_neg (fun h => h.2 hs)]
  have HSR := Lib.hid hs
  have HR0 : Hid (cwC D.l Q N part a0 a1 a2 = (if 64 < a2 ∨ (getN N a1 a2 : Int) ≠ a2 then 4294967294 else wrC D.l Q part a0 (getN N a1 a2)) ∧ cwQ D.l Q N f part a0 a1 a2 = (if 64 < a2 ∨ (getN N a1 a2 : Int) ≠ a2 then Q else wrQ D.l Q part a0 (sl f a1.toNat (getN N a1 a2)))) := by
    show _ ∧ _
    unfold cwC cwQ
    have hni : ¬ ((i : Int) < 0) := by omega
    rw [HV.out, if_neg hni, if_neg hni]
    exact ⟨rfl, rfl⟩
  clear hs
  by_cases hlong : 64 < a2
  · have HR2 := Lib.hid (And.intro (HR0.out.1.trans (if_pos (.inl hlong))) (HR0.out.2.trans (if_pos (.inl hlong))))
    go_wp2_with fail
    go_ret
    rw [HR2.out.1, HR2.out.2]
    exact RCTo.none HH.out HC1.out
  have hl0 : decide (64 < a2) = false := decide_eq_false hlong
  have hg64 := getN_le N a1 a2 (by omega)
  obtain ⟨g, hg⟩ : ∃ g, getN N a1 a2 = g := ⟨_, rfl⟩
  have HGG := Lib.hid hg
  rw [hg] at HR0 hg64
  have HGT := rget_any HN1.out.mem a1 a2
  rw [hg] at HGT
  clear hg
  go_wp2_with fail
  refine HGT.mono ?_
  clear HGT
  rintro e w2 ⟨ao, cap, ⟨rfl, O2, C2⟩⟩
  have B2 := HB1.out.chg C2 (fun h => h)
  have y0 := B2.cell 0
  have y2 := B2.cell 2
  have HC2 := Lib.hid (HC1.out.trans C2)
  have HN2 := Lib.hid (HN1.out.keep C2)
  have HO2 := Lib.hid O2
  clear B2 C2 O2 x0 x1 x2 q4 q6 d0 d1 d2 d3 d4 dq
  by_cases hne : (g : Int) = a2
  rotate_left
  · have bn : ((g : Int) != a2) = true := bne_iff_ne.2 hne
    have HR2 := Lib.hid (And.intro (HR0.out.1.trans (if_pos (.inr hne))) (HR0.out.2.trans (if_pos (.inr hne))))
    clear hne
    go_wp2_with fail
    go_ret
    rw [HR2.out.1, HR2.out.2]
    exact RCTo.none HH.out HC2.out
  have bn : ((g : Int) != a2) = false := by simp [hne]
  have hxl : (sl f a1.toNat g).length = g := sl_length _ _ _
  have HR2 : Hid (cwC D.l Q N part a0 a1 a2 = wrC D.l Q part a0 (sl f a1.toNat g).length ∧ cwQ D.l Q N f part a0 a1 a2 = wrQ D.l Q part a0 (sl f a1.toNat g)) := by
    show _ ∧ _
    have hn : ¬ (64 < a2 ∨ (g : Int) ≠ a2) := by omega
    rw [hxl]
    exact ⟨HR0.out.1.trans (if_neg hn), HR0.out.2.trans (if_neg hn)⟩
  by_cases hz : a2 = 0
  · have bz : (a2 == 0) = true := by simp [hz]
    have HR3 : Hid (cwC D.l Q N part a0 a1 a2 = 4294967294 ∧ cwQ D.l Q N f part a0 a1 a2 = Q) := by
      have := (wr_at (Q := Q) (xs := sl f a1.toNat g) HP.out HI HSR.out).1 (.inl (by omega))
      exact ⟨HR2.out.1.trans this.1, HR2.out.2.trans this.2⟩
    clear hne hxl hz
    go_wp2_with fail
    go_ret
    rw [HR3.out.1, HR3.out.2]
    exact RCTo.none HH.out HC2.out
  have bz : (a2 == 0) = false := beq_eq_false_iff_ne.2 hz
  have hby : byteL (sl f a1.toNat g) := by
    rw [← HGG.out]
    intro x hx
    unfold sl at hx
    obtain ⟨j, hj, rfl⟩ := List.mem_map.1 hx
    have hj := List.mem_range.1 hj
    unfold getN at hj
    split at hj
    · rename_i hok
      obtain ⟨h1, h2, h3⟩ := okR_true hok
      exact HN2.out.mem.rng _ (by omega)
    · omega
  have HW := rwrite_any HN2.out.net part a0 g hxl (own_src HO2.out) hby (by omega)
  clear hne hxl hz hby
  go_wp2_with fail
  refine HW.mono ?_
  rintro e w3 ⟨rfl, T3⟩
  clear HW
  go_wp2_with fail
  go_ret
  rw [HR2.out.1, HR2.out.2]
  obtain ⟨F', vs', N3, hF1, hF2⟩ := T3.net
  have hgq : ∀ k, k = D.gq → k ≠ va ∧ k ≠ vb := fun k hk => ⟨fun e => HN2.out.na (by rw [← e, hk]; exact HN2.out.net.fq), fun e => HN2.out.nb (by rw [← e, hk]; exact HN2.out.net.fq)⟩
  have hnew : ∀ k, k < w.heap.size → ¬ F k → ¬ F' k := fun k hk hn hf => by
    rcases hF2 k hf with h | h
    · exact hn h
    · have := HC2.out.size; omega
  refine ⟨rfl, F', vs', ⟨N3, HN2.out.mem.chg T3.chg (fun e => (hgq _ e).1 rfl) (fun e => (hgq _ e).2 rfl), hnew _ HH.out.mem.lta HH.out.na, hnew _ HH.out.mem.ltb HH.out.nb, HH.out.base⟩, hF1, fun k hk => (hF2 k hk).imp_right (fun h => ⟨Nat.le_trans HC2.out.size h.1, h.2⟩), (HC2.out.mono (fun _ _ h => h.elim)).trans' T3.chg (fun _ _ h => .inl h)⟩

set_option maxRecDepth 100000 in
set_option maxHeartbeats 8000000 in
theorem rcall_r (h : RMem w F D Q vs va vb N f) (part a0 a1 a2 : Int) :
    Calls Try.prog 29 #[.pointer (some ⟨D.n, 0, none⟩), .int .i64 part, .int .i64 2, .agg #[.int .i64 a0, .int .i64 a1, .int .i64 a2], .pointer (some ⟨va, 0, none⟩)] w
      fun e w' => RCTo w w' F D (crQ D.l Q N part a0 a1 a2) va vb N (crF D.l Q N f part a0 a1 a2) (crC D.l Q N part a0 a1 a2) e := by
  have C0 : Chg w (w.alloc (.cells #[.int .i64 a0, .int .i64 a1, .int .i64 a2] 50)) (fun _ => False) := (Chg.refl w _).alloc _
  have B0 := Box.new w 50 #[.int .i64 a0, .int .i64 a1, .int .i64 a2]
  have HF := rport_any (h.net.keep C0) part a0
  have hmax := h.net.max
  obtain ⟨i0, hi0, hz0, hz1, hz2⟩ := info_parts info_u8
  have HH := Lib.hid h
  have HC0 := Lib.hid C0
  have HB0 := Lib.hid B0
  clear h C0 B0
  rcases portV_rng D.l part a0 with hp | ⟨i, hp, hi⟩
  · have hr := rd_none (Q := Q) (most := a2) hp
    have HR := Lib.hid (cr_no (N := N) (f := f) (a1 := a1) hr.1)
    have HR1 := Lib.hid hr.2
    rw [hp] at HF
    clear hp hr
    go_enter Try.func29, Try.ntmps29
    go_wp2_with fail
    refine HF.mono ?_
    rintro e w1 ⟨rfl, C1⟩
    clear HF
    go_wp2_with fail
    go_ret
    rw [HR.out.1, HR.out.2.1, HR.out.2.2, HR1.out]
    exact RCTo.none HH.out (HC0.out.trans C1)
  have HP := Lib.hid hp
  have HI := hi
  rw [hp] at HF
  have hi0n : decide ((i : Int) < 0) = false := decide_eq_false (by omega)
  clear hp
  go_enter Try.func29, Try.ntmps29
  go_wp2_with fail
  refine HF.mono ?_
  rintro e w1 ⟨rfl, C1⟩
  clear HF
  have HC1 := Lib.hid (HC0.out.trans C1)
  have HN1 := Lib.hid (HH.out.keep HC1.out)
  have B1 := HB0.out.chg C1 (fun h => h)
  have x0 := B1.cell 0
  have x1 := B1.cell 1
  have x2 := B1.cell 2
  have HB1 := Lib.hid B1
  obtain ⟨gc, oc, -, q4, q6, d0, d1, d2, d3, d4, dq⟩ := HN1.out.net.chan i hi
  obtain ⟨qo, qc, hv, hqc1, hqc2, hq16⟩ := (HN1.out.net.ch i hi).form
  obtain ⟨ms, hqr, hms⟩ := (HN1.out.net.ch i hi).row
  have HMG := Lib.hid (HN1.out.net.ch i hi).qk.msg
  rw [hv] at hqr
  have hln := HN1.out.net.box.lt
  have hlq := HN1.out.net.row.lt
  obtain ⟨L, hL⟩ : ∃ L, D.l.length = L := ⟨_, rfl⟩
  rw [hL] at q4 q6 hi hmax
  rw [hv] at dq
  clear hL hv C1 B1
  by_cases hd : D.l[i].dst = part
  rotate_left
  · have hr := rd_other (Q := Q) (most := a2) HP.out HI hd
    have HR := Lib.hid (cr_no (N := N) (f := f) (a1 := a1) hr.1)
    have HR1 := Lib.hid hr.2
    have b1 : (D.l[i].dst != part) = true := bne_iff_ne.2 hd
    clear hd hr
    go_wp2_with fail
    go_ret
    rw [HR.out.1, HR.out.2.1, HR.out.2.2, HR1.out]
    exact RCTo.none HH.out HC1.out
  have HDP := Lib.hid hd
  have b1 : (D.l[i].dst != part) = false := by simp [hd]
  clear hd
  cases hqi : Q i with
  | nil =>
    have hr := rd_empty (most := a2) HP.out HI HDP.out hqi
    have HR := Lib.hid (cr_no (N := N) (f := f) (a1 := a1) hr.1)
    have HR1 := Lib.hid hr.2
    rw [hqi] at dq
    clear hqi hqr hms hr
    go_wp2_with fail
    go_ret
    rw [HR.out.1, HR.out.2.1, HR.out.2.2, HR1.out]
    exact RCTo.none HH.out HC1.out
  | cons xs r =>
    have HQ := Lib.hid hqi
    rw [hqi] at hms dq hqr hqc1 hq16
    cases ms with
    | nil => exact hms.elim
    | cons mv ms =>
    obtain ⟨M, hmr⟩ := hms
    obtain ⟨m, hm⟩ : ∃ m, xs.length = m := ⟨_, rfl⟩
    have HM := Lib.hid hm
    obtain ⟨ao, cap, rfl, hcp, -⟩ := own_form M.own
    have hmg := HMG.out xs (by rw [hqi]; simp)
    have HXB := Lib.hid hmg.1
    have hmg2 := hmg.2
    obtain ⟨vo, vc, hv, hvl, hvm, hvn, hvb⟩ := hqr.form
    injection hv with hv1 hv2 hv3
    subst hv1 hv3
    obtain ⟨g, o, rfl, hgl⟩ : ∃ g o, qo = some ⟨g, o, none⟩ ∧ g < w1.heap.size := by
      cases qo with
      | none => exact absurd (hvn rfl).1 (by simp)
      | some ad => obtain ⟨g, o, rfl, hg⟩ := hvb ad rfl; exact ⟨g, o, rfl, hg⟩
    obtain ⟨cur, -, -, -, -, -, -, hcl⟩ := hqr.cells
    have y2 := hcl 0 _ rfl
    rw [Nat.add_zero, hm] at y2
    have HMM := Lib.hid M
    obtain ⟨z, hz⟩ : ∃ z, (xs :: r).length = z := ⟨_, rfl⟩
    rw [hz] at dq hqc1 hq16
    have hzp : 0 < z := by rw [← hz]; simp
    have hzb : ((z : Int) == 0) = false := by rw [beq_eq_false_iff_ne]; omega
    have hzi : (0 : Int) < (z : Int) := by omega
    rw [hm] at hmg2
    clear hqi hqr M hmr hcl hvl hvn hvb hz hm hv2 hmg
    by_cases hl : a2 < (m : Int)
    · have hr := rd_long HP.out HI HDP.out HQ.out (show a2 < (xs.length : Int) by rw [HM.out]; exact hl)
      have HR := Lib.hid (cr_no (N := N) (f := f) (a1 := a1) hr.1)
      have HR1 := Lib.hid hr.2
      clear hr
      go_wp2_with fail
      go_ret
      rw [HR.out.1, HR.out.2.1, HR.out.2.2, HR1.out]
      exact RCTo.none HH.out HC1.out
    · have HG := Lib.hid (rd_good HP.out HI HDP.out HQ.out (show ¬ a2 < (xs.length : Int) by rw [HM.out]; exact hl))
      have HY := Lib.hid (rd_yes HP.out HI HQ.out HG.out.1).1
      have hl0 : decide (a2 < (m : Int)) = false := decide_eq_false hl
      clear hl
      have SM := own_src HMM.out.own
      rw [HM.out] at SM
      have HSM := Lib.hid SM
      clear SM
      go_wp2_with fail
      refine wp_region_noPanic ?_
      refine wp_region_L 5 (fun w' => w'.cell? ⟨w.heap.size, 1, none⟩ = some (.int .i64 a1)) (by kernel_rfl) (x1) (fun hHeld => ?_)
      refine wpAnyL_take (i := 0) (oi := ?oia0) (v := ?va0) ?hia0 (by kernel_rfl) (by kernel_rfl) (by kernel_rfl) (by kernel_rfl) (fun _ _ _ h => h) (Or.inl ⟨?hwa0, ?hya0⟩) (by assumption) ?hra0
      case hia0 => simp only [List.getElem?_toArray, List.getElem?_cons_succ, List.getElem?_cons_zero]; rfl
      case hwa0 => rfl
      case hya0 => intro wq hSq; (try dsimp only at hSq); go_simp; (try with_reducible rfl)
      try simp only [Act.put, List.setIfInBounds_toArray, List.set_cons_zero, List.set_cons_succ]
      refine wpAnyL_take (i := 1) (oi := ?oia1) (v := ?va1) ?hia1 (by kernel_rfl) (by kernel_rfl) (by kernel_rfl) (by kernel_rfl) (fun _ _ _ h => h) (Or.inl ⟨?hwa1, ?hya1⟩) (by assumption) ?hra1
      case hia1 => simp only [List.getElem?_toArray, List.getElem?_cons_succ, List.getElem?_cons_zero]; rfl
      case hwa1 => rfl
      case hya1 => intro wq hSq; (try dsimp only at hSq); go_simp; (try with_reducible rfl)
      try simp only [Act.put, List.setIfInBounds_toArray, List.set_cons_zero, List.set_cons_succ]
      refine wpAnyL_take (i := 2) (oi := ?oia2) (v := ?va2) ?hia2 (by kernel_rfl) (by kernel_rfl) (by kernel_rfl) (by kernel_rfl) (fun _ _ _ h => h) (Or.inl ⟨?hwa2, ?hya2⟩) (by assumption) ?hra2
      case hia2 => simp only [List.getElem?_toArray, List.getElem?_cons_succ, List.getElem?_cons_zero]; rfl
      case hwa2 => rfl
      case hya2 => intro wq hSq; (try dsimp only at hSq); go_simp; (try with_reducible rfl)
      try simp only [Act.put, List.setIfInBounds_toArray, List.set_cons_zero, List.set_cons_succ]
      refine wpAnyL_take (i := 3) (oi := ?oia3) (v := ?va3) ?hia3 (by kernel_rfl) (by kernel_rfl) (by kernel_rfl) (by kernel_rfl) (fun _ _ _ h => h) (Or.inl ⟨?hwa3, ?hya3⟩) (by assumption) ?hra3
      case hia3 => simp only [List.getElem?_toArray, List.getElem?_cons_succ, List.getElem?_cons_zero]; rfl
      case hwa3 => rfl
      case hya3 => intro wq hSq; (try dsimp only at hSq); go_simp; (try with_reducible rfl)
      try simp only [Act.put, List.setIfInBounds_toArray, List.set_cons_zero, List.set_cons_succ]
      refine wpAnyL_ready (rs := [4]) (by kernel_rfl) (by simp) ?_
      refine AllReadyL.cons rfl (fun K hK => ?_) AllReadyL.nil
      refine op_append_src (.const (.slice none 0 0)) (.tmp 114) _ rfl w1.heap.size 5 i0 _ 1 1 Try.underlying22 hi0 hz0 hz1 hz2 rfl (by omega) (.slice none 0 0) 0 [] rfl (World.ownsRow_nil _ _ _ _) ao m cap (u8s xs) rfl (HSM.out.chg ((Chg.refl w1 (fun _ => False)).drew) (fun _ _ h => h)) (u8s_one _) (by unfold maxLen; omega) (by omega) (Nat.le_refl _) ?_
      intro v2 w2 O2 g2x
      rw [Nat.zero_add, List.nil_append] at O2
      have C2 : Chg w1 w2 (fun _ => False) := ((Chg.refl w1 _).drew).grown g2x (fun j hj _ => by cases hj)
      obtain ⟨a2', c2', rfl, -⟩ := own_form O2
      change K (Act.put _ (some 115) _) _
      simp only [Act.put, List.setIfInBounds_toArray, List.set_cons_zero, List.set_cons_succ]
      refine hK.out _ _ (.inl (C2.cell x1 (fun h => h))) (fun hHeld => ?_)
      replace hHeld := SOr.stands hHeld (by kernel_rfl)
      clear hK K
      try simp only [Act.put, List.setIfInBounds_toArray, List.set_cons_zero, List.set_cons_succ]
      refine wpAnyL_tail (l := [6]) (by kernel_rfl) (by kernel_rfl) ?_
      simp only [tailOps, List.filterMap_cons, List.filterMap_nil, List.getElem?_toArray, List.getElem?_cons_succ, List.getElem?_cons_zero]
      clear hHeld
      have HC2 := Lib.hid (HC1.out.trans C2)
      have HO2 := Lib.hid O2
      have HN2 := Lib.hid (HN1.out.keep C2)
      have HB2 := Lib.hid (HB1.out.chg C2 (fun h => h))
      have HPT := rput_any HN2.out.mem a1 m c2' a2' xs (own_src HO2.out) HXB.out
      clear C2 O2 x0 x1 x2 q4 q6 d0 d1 d2 d3 d4 dq y2
      have hbw : w.heap.size < w2.heap.size := HB2.out.lt
      cases hok : okR N a1 m
      · rw [hok] at HPT
        have hokf := Lib.hid hok
        have HR := Lib.hid (cr_bad (f := f) HG.out.1 HY.out HM.out hok)
        clear hok
        go_wp2_with fail
        refine HPT.mono ?_
        clear HPT
        rintro e w3 ⟨rfl, M3, C3⟩
        have HC3 := Lib.hid C3
        have HM3 := Lib.hid M3
        clear C3 M3
        go_wp2_with fail
        refine NoPanic.normal ?_
        go_wp2_with fail
        go_ret
        rw [HR.out.1, HR.out.2.1, HR.out.2.2]
        have hpt : ptV N f a1 xs = f := by unfold ptV; rw [HM.out]; exact if_neg (by rw [hokf.out]; decide)
        have M3 := HM3.out
        rw [hpt] at M3
        exact ⟨rfl, F, vs, ⟨HN2.out.net.chg HC3.out (fun k hk e => HH.out.nb (e ▸ hk)) (fun k e => by rw [e]; exact HH.out.base), M3, HH.out.na, HH.out.nb, HH.out.base⟩, fun _ h => h, fun _ h => .inl h, (HC2.out.mono (fun _ _ h => h.elim)).trans' HC3.out (fun _ _ h => .inr h)⟩
      · rw [hok] at HPT
        have HR := Lib.hid (cr_yes (f := f) HG.out.1 HY.out HM.out hok)
        clear hok
        go_wp2_with fail
        refine HPT.mono ?_
        clear HPT
        rintro e w3 ⟨rfl, M3, C3⟩
        have HC3 := Lib.hid C3
        have HM3 := Lib.hid M3
        have N3 := HN2.out.net.chg C3 (fun k hk e => HH.out.nb (e ▸ hk)) (fun k e => by rw [e]; exact HH.out.base)
        have B3 := HB2.out.chg C3 (fun e => by have := HH.out.mem.ltb; omega)
        have z0 := B3.cell 0
        have z2 := B3.cell 2
        have HRD := rread_any N3 part a0 a2
        have HN3 := Lib.hid N3
        clear C3 M3 N3 B3
        go_wp2_with fail
        refine NoPanic.normal ?_
        go_wp2_with fail
        refine HRD.mono ?_
        clear HRD
        rintro e w4 ⟨ra, rc, F', vs', rfl, O4, N4, hF1, hF2, -, C4⟩
        have HN4 := Lib.hid N4
        have HC4 := Lib.hid C4
        have HF1 := Lib.hid hF1
        have HF2 := Lib.hid hF2
        clear O4 N4 C4 hF1 hF2
        go_wp2_with fail
        go_ret
        rw [HR.out.1, HR.out.2.1, HR.out.2.2]
        have hgq : ∀ k, k = D.gq → k ≠ va ∧ k ≠ vb := fun k hk => ⟨fun e => HH.out.na (by rw [← e, hk]; exact HH.out.net.fq), fun e => HH.out.nb (by rw [← e, hk]; exact HH.out.net.fq)⟩
        have hs3 : w.heap.size ≤ w3.heap.size := Nat.le_trans HC2.out.size HC3.out.size
        have hnew : ∀ k, k < w.heap.size → ¬ F k → ¬ F' k := fun k hk hn hf => by
          rcases HF2.out k hf with h | h
          · exact hn h
          · omega
        exact ⟨rfl, F', vs', ⟨HN4.out, HM3.out.chg HC4.out (fun e => (hgq _ e).1 rfl) (fun e => (hgq _ e).2 rfl), hnew _ HH.out.mem.lta HH.out.na, hnew _ HH.out.mem.ltb HH.out.nb, HH.out.base⟩, HF1.out, fun k hk => (HF2.out k hk).imp_right (fun h => ⟨Nat.le_trans hs3 h.1, h.2⟩),
          ((HC2.out.mono (fun _ _ h => h.elim)).trans' HC3.out (fun _ _ h => .inr h)).trans' HC4.out (fun _ _ h => .inl h)⟩

set_option maxRecDepth 100000 in
set_option maxHeartbeats 4000000 in
theorem rcall_any (h : RMem w F D Q vs va vb N f) (part op a0 a1 a2 : Int) (h2 : 0 ≤ a2 ∧ a2 ≤ 4294967295) :
    Calls Try.prog 29 #[.pointer (some ⟨D.n, 0, none⟩), .int .i64 part, .int .i64 op, .agg #[.int .i64 a0, .int .i64 a1, .int .i64 a2], .pointer (some ⟨va, 0, none⟩)] w
      fun e w' => RCTo w w' F D (caQ D.l Q N f part op a0 a1 a2) va vb N (caF D.l Q N f part op a0 a1 a2) (caC D.l Q N part op a0 a1 a2) e := by
  by_cases o1 : op = 1
  · subst o1
    exact rcall_w h part a0 a1 a2 h2
  by_cases o2 : op = 2
  · subst o2
    exact rcall_r h part a0 a1 a2
  have b1 : (op == 1) = false := beq_eq_false_iff_ne.2 o1
  have b2 : (op == 2) = false := beq_eq_false_iff_ne.2 o2
  have hQ : Hid (Q = caQ D.l Q N f part op a0 a1 a2 ∧ f = caF D.l Q N f part op a0 a1 a2) := by
    show _ ∧ _
    unfold caQ caF
    rw [if_neg o1, if_neg o2, if_neg o2]
    exact ⟨rfl, rfl⟩
  have hC : Hid (caC D.l Q N part op a0 a1 a2 = if op = 3 then stC D.l Q part a0 else if op = 4 then part % 4294967296 else 4294967292) := by
    show _ = _
    unfold caC
    rw [if_neg o1, if_neg o2]
  have C0 : Chg w (w.alloc (.cells #[.int .i64 a0, .int .i64 a1, .int .i64 a2] 50)) (fun _ => False) := (Chg.refl w _).alloc _
  have HST := rstatus_any (h.net.keep C0) part a0
  have HH := Lib.hid h
  have HC0 := Lib.hid C0
  clear h C0
  by_cases o3 : op = 3
  · subst o3
    clear o1 o2
    go_enter Try.func29, Try.ntmps29
    go_wp2_with fail
    refine HST.mono ?_
    rintro e w' ⟨rfl, C1⟩
    clear HST
    go_wp2_with fail
    go_ret
    exact (RCTo.none (r := stC D.l Q part a0) HH.out (HC0.out.trans C1)).cong hQ.out.1 hQ.out.2 (by rw [hC.out]; simp)
  have b3 : (op == 3) = false := beq_eq_false_iff_ne.2 o3
  clear HST
  by_cases o4 : op = 4
  · subst o4
    clear o1 o2 o3
    go_enter Try.func29, Try.ntmps29
    go_wp2_with fail
    refine (w_any part _).mono ?_
    rintro e w' ⟨rfl, rfl⟩
    go_wp2_with fail
    go_ret
    exact (RCTo.none (r := part % 4294967296) HH.out HC0.out).cong hQ.out.1 hQ.out.2 (by rw [hC.out]; simp)
  have b4 : (op == 4) = false := beq_eq_false_iff_ne.2 o4
  have hC2 := Lib.hid (hC.out.trans ((if_neg o3).trans (if_neg o4)))
  clear o1 o2 o3 o4
  go_enter Try.func29, Try.ntmps29
  go_wp2_with fail
  go_ret
  exact (RCTo.none (r := 4294967292) HH.out HC0.out).cong hQ.out.1 hQ.out.2 hC2.out.symm
end
end Go.Proofs.Ytiedfglkjkaefaa

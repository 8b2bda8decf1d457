/- ports: peek, what takes a message, Read. -/
import Derived.Test.YtiedfglkjkaefaaPo6
namespace Go.Proofs.Ytiedfglkjkaefaa
open Go.RowKit

/-- What peek tells. -/
def PeekR (w w' : World) (F : Nat → Prop) (D : NetD) (Q : Que) (part port most : Int) (e : Ending) : Prop :=
  Chg w w' (fun _ => False) ∧
  ((rdOk D.l Q part port most = false ∧ e = .returned (.tuple #[.slice none 0 0, .nilFunc, .int .i64 (rdC D.l Q part port most)])) ∨
   (rdOk D.l Q part port most = true ∧ ∃ (i : Nat) (hi : i < D.l.length) (ao : Option Addr) (cap : Nat) (xs : List Int) (rest : List (List Int)), portV D.l part port = i ∧ Q i = xs :: rest ∧ rdC D.l Q part port most = xs.length ∧ MsgAt w' F (.slice ao xs.length cap) xs ∧
     ((D.l[i].kind = 0 ∧ e = .returned (.tuple #[.slice ao xs.length cap, .func (.func 51) #[] #[], .int .i64 xs.length])) ∨
      (D.l[i].kind = 1 ∧ ∃ t, w.heap.size ≤ t ∧ Box w' t 80 #[.pointer (some ⟨D.bs i, 0, none⟩)] ∧ e = .returned (.tuple #[.slice ao xs.length cap, .func (.func 52) #[] #[.pointer (some ⟨t, 0, none⟩)], .int .i64 xs.length])))))

theorem rd_none {l : List ChanD} {Q : Que} {part port most : Int} (h : portV l part port = -1) : rdOk l Q part port most = false ∧ rdC l Q part port most = 4294967295 := by
  refine ⟨?_, ?_⟩
  · unfold rdOk; simp only [h]; exact decide_eq_false (fun h => absurd h.1 (by decide))
  · unfold rdC; simp only [h]; rfl
theorem rd_other {l : List ChanD} {Q : Que} {part port most : Int} {i : Nat} (h : portV l part port = i) (hi : i < l.length) (hd : l[i].dst ≠ part) : rdOk l Q part port most = false ∧ rdC l Q part port most = 4294967295 := by
  refine ⟨?_, ?_⟩
  · unfold rdOk; simp only [h, Int.toNat_natCast, chD_at hi]; exact decide_eq_false (fun h => hd h.2.1)
  · unfold rdC; simp only [h, Int.toNat_natCast, chD_at hi]; rw [if_pos (.inr hd)]
theorem rd_empty {l : List ChanD} {Q : Que} {part port most : Int} {i : Nat} (h : portV l part port = i) (hi : i < l.length) (hd : l[i].dst = part) (hq : Q i = []) : rdOk l Q part port most = false ∧ rdC l Q part port most = 4294967293 := by
  have h0 : ¬ ((i : Int) < 0 ∨ l[i].dst ≠ part) := by
    rintro (h | h)
    · omega
    · exact h hd
  refine ⟨?_, ?_⟩
  · unfold rdOk; simp only [h, Int.toNat_natCast, chD_at hi]; exact decide_eq_false (fun h => h.2.2.1 hq)
  · unfold rdC; simp only [h, Int.toNat_natCast, chD_at hi]; rw [if_neg h0, if_pos hq]
theorem rd_long {l : List ChanD} {Q : Que} {part port most : Int} {i : Nat} {xs : List Int} {r : List (List Int)} (h : portV l part port = i) (hi : i < l.length) (hd : l[i].dst = part) (hq : Q i = xs :: r) (hl : most < (xs.length : Int)) : rdOk l Q part port most = false ∧ rdC l Q part port most = 4294967294 := by
  have h0 : ¬ ((i : Int) < 0 ∨ l[i].dst ≠ part) := by
    rintro (h | h)
    · omega
    · exact h hd
  refine ⟨?_, ?_⟩
  · unfold rdOk; simp only [h, Int.toNat_natCast, chD_at hi, hq]; exact decide_eq_false (fun h => by have := h.2.2.2; simp only [List.headD_cons] at this; omega)
  · unfold rdC; simp only [h, Int.toNat_natCast, chD_at hi, hq]; rw [if_neg h0, if_neg (by simp), List.headD_cons, if_pos hl]
theorem rd_good {l : List ChanD} {Q : Que} {part port most : Int} {i : Nat} {xs : List Int} {r : List (List Int)} (h : portV l part port = i) (hi : i < l.length) (hd : l[i].dst = part) (hq : Q i = xs :: r) (hl : ¬ most < (xs.length : Int)) : rdOk l Q part port most = true ∧ rdC l Q part port most = xs.length := by
  have h0 : ¬ ((i : Int) < 0 ∨ l[i].dst ≠ part) := by
    rintro (h | h)
    · omega
    · exact h hd
  refine ⟨?_, ?_⟩
  · unfold rdOk; simp only [h, Int.toNat_natCast, chD_at hi, hq]; exact decide_eq_true ⟨by omega, hd, by simp, by simp only [List.headD_cons]; omega⟩
  · unfold rdC; simp only [h, Int.toNat_natCast, chD_at hi, hq]; rw [if_neg h0, if_neg (by simp), List.headD_cons, if_neg hl]

theorem as_SQ (v : Value) (w : World) : (Instr.typeAssert (.iface 77 v) 85 80 true).run Try.prog w = .ok (.tuple #[.pointer none, .bool false]) w := by kernel_rfl
theorem as_QQ (v : Value) (w : World) : (Instr.typeAssert (.iface 80 v) 85 80 true).run Try.prog w = .ok (.tuple #[v, .bool true]) w := by kernel_rfl
theorem as_SS (v : Value) (w : World) : (Instr.typeAssert (.iface 77 v) 85 77 true).run Try.prog w = .ok (.tuple #[v, .bool true]) w := by kernel_rfl

section
variable {w : World} {F : Nat → Prop} {D : NetD} {Q : Que} {vs : Nat → Value}
set_option maxRecDepth 100000 in
set_option maxHeartbeats 4000000 in
theorem peek_any (N : NetAt w F D Q vs) (part port most : Int) (h1 : -9223372036854775808 ≤ port) (h2 : port ≤ 9223372036854775807) :
    Calls Try.prog 36 #[.pointer (some ⟨D.n, 0, none⟩), .int .i64 part, .int .i64 port, .int .i64 most] w fun e w' => PeekR w w' F D Q part port most e := by
  have HF := find_any N part port h1 h2
  rcases portV_rng D.l part port with hp | ⟨i, hp, hi⟩
  · have HR := Lib.hid (rd_none (Q := Q) (most := most) hp)
    rw [hp] at HF
    clear N hp h1 h2
    go_enter Try.func36, Try.ntmps36
    go_wp2_with fail
    refine HF.mono ?_
    rintro e w1 ⟨rfl, C1⟩
    clear HF
    go_wp2_with fail
    go_returns
    exact ⟨C1, .inl ⟨HR.out.1, by rw [HR.out.2]; rfl⟩⟩
  have ha1 := as_SQ
  have ha2 := as_QQ
  have ha3 := as_SS
  have hmax := N.max
  rw [hp] at HF
  have HN := Lib.hid N
  have HP := Lib.hid hp
  clear N hp h1 h2
  go_enter Try.func36, Try.ntmps36
  go_wp2_with fail
  refine HF.mono ?_
  rintro e w1 ⟨rfl, C1⟩
  clear HF
  have N1 := HN.out.chg C1 (fun _ _ h => h)
  have HN1 := Lib.hid N1
  obtain ⟨gc, gh, -, -, q4, q6, -, -, d2, -, -, dh⟩ := N1.chan i hi
  obtain ⟨KS, KQ⟩ := cnt_any (N1.ch i hi)
  have hknd := (N1.ch i hi).ok.kind
  have HMS := Lib.hid (N1.ch i hi).qk.msg
  have hn1 := N1.box.lt
  have hgh : gh < w1.heap.size := World.block_lt_of_cell? w1 _ dh
  have hC1 := Lib.hid C1
  have hi2 := hi
  obtain ⟨L, hL⟩ : ∃ L, D.l.length = L := ⟨_, rfl⟩
  obtain ⟨ds, hds⟩ : ∃ x, D.l[i].dst = x := ⟨_, rfl⟩
  have HDS := Lib.hid hds
  rw [hL] at q4 q6 hi2 hmax
  rw [hds] at d2
  clear N1 C1 hL hds
  have hi0 : decide ((i : Int) < 0) = false := decide_eq_false (by omega)
  by_cases hd : ds = part
  rotate_left
  · have HR := Lib.hid (rd_other (Q := Q) (most := most) HP.out hi (by rw [HDS.out]; exact hd))
    have b1 : (ds != part) = true := bne_iff_ne.2 hd
    clear hd KS KQ hknd dh
    go_wp2_with fail
    go_returns
    exact ⟨hC1.out, .inl ⟨HR.out.1, by rw [HR.out.2]; rfl⟩⟩
  have HDP : Hid (D.l[i].dst = part) := by show _ = _; rw [HDS.out]; exact hd
  have b1 : (ds != part) = false := by simp [hd]
  clear hd
  rcases hknd with hk | hk
  · rw [tyC_S hk] at dh
    have K := KS hk
    have HK := Lib.hid hk
    clear KS KQ hk
    obtain ⟨B, hq⟩ := (HN1.out.ch i hi).boxS HK.out
    rcases hq with ⟨hq, hv⟩ | ⟨xs, hq, M⟩
    · have HR := Lib.hid (rd_empty (most := most) HP.out hi HDP.out hq)
      rw [hq] at K
      clear hq hv B
      go_wp2_with fail
      refine K.mono ?_
      rintro e w2 ⟨rfl, rfl⟩
      clear K
      go_wp2_with fail
      go_returns
      exact ⟨hC1.out, .inl ⟨HR.out.1, by rw [HR.out.2]; rfl⟩⟩
    · obtain ⟨m, hm⟩ : ∃ m, xs.length = m := ⟨_, rfl⟩
      have HM := Lib.hid hm
      have HQ := Lib.hid hq
      obtain ⟨ao, cap, hv, hcp, -⟩ := own_form M.own
      have hmr := (HMS.out xs (by rw [hq]; simp)).2
      have HMM := Lib.hid M
      have hbl := B.lt
      rw [hv] at B
      have HV := Lib.hid hv
      rw [hm] at B
      have y0 := B.cell 0
      rw [hq] at K
      clear hq M B hv
      by_cases hl : most < (m : Int)
      · have HR := Lib.hid (rd_long HP.out hi HDP.out HQ.out (by rw [HM.out]; exact hl))
        clear hm
        go_wp2_with fail
        refine K.mono ?_
        rintro e w2 ⟨rfl, rfl⟩
        clear K
        go_wp2_with fail
        go_returns
        exact ⟨hC1.out.trans ((Chg.refl w1 _).alloc _), .inl ⟨HR.out.1, by rw [HR.out.2]; rfl⟩⟩
      · have HR := Lib.hid (rd_good HP.out hi HDP.out HQ.out (by rw [HM.out]; exact hl))
        clear hm
        go_wp2_with fail
        refine K.mono ?_
        rintro e w2 ⟨rfl, rfl⟩
        clear K
        go_wp2_with fail
        go_returns
        have M := HMM.out
        rw [HV.out] at M
        have CA : Chg w1 (w1.alloc (.cells #[.pointer none] 80)) (fun _ => False) := (Chg.refl w1 _).alloc _
        refine ⟨hC1.out.trans CA, .inr ⟨HR.out.1, i, hi, ao, cap, xs, [], HP.out, HQ.out, HR.out.2, M.chg CA (fun _ _ _ h => h) (fun _ h => h), .inl ⟨HK.out, ?_⟩⟩⟩
        rw [HM.out]
        rfl
  · rw [tyC_Q hk] at dh
    have K := KQ hk
    have HK := Lib.hid hk
    clear KS KQ hk
    obtain ⟨B, hfp, ms, hq, hms⟩ := (HN1.out.ch i hi).boxQ HK.out
    cases hqi : Q i with
    | nil =>
      have HR := Lib.hid (rd_empty (most := most) HP.out hi HDP.out hqi)
      rw [hqi] at K
      clear hqi hq hms B hfp
      go_wp2_with fail
      refine K.mono ?_
      rintro e w2 ⟨rfl, rfl⟩
      clear K
      go_wp2_with fail
      go_returns
      exact ⟨hC1.out, .inl ⟨HR.out.1, by rw [HR.out.2]; rfl⟩⟩
    | cons xs r =>
      rw [hqi] at hms K
      cases ms with
      | nil => exact hms.elim
      | cons mv ms =>
      obtain ⟨M, hms⟩ := hms
      obtain ⟨m, hm⟩ : ∃ m, xs.length = m := ⟨_, rfl⟩
      have HM := Lib.hid hm
      have HQ := Lib.hid hqi
      obtain ⟨ao, cap, rfl, hcp, -⟩ := own_form M.own
      have hmr := (HMS.out xs (by rw [hqi]; simp)).2
      obtain ⟨vo, vc, hv, hvl, hvm, hvn, hvb⟩ := hq.form
      obtain ⟨g, o, rfl, hgl⟩ : ∃ g o, vo = some ⟨g, o, none⟩ ∧ g < w1.heap.size := by
        cases vo with
        | none => exact absurd (hvn rfl).1 (by simp)
        | some ad => obtain ⟨g, o, rfl, hg⟩ := hvb ad rfl; exact ⟨g, o, rfl, hg⟩
      rw [hv] at hq B
      obtain ⟨cur, -, -, -, -, -, -, hcl⟩ := hq.cells
      have y2 := hcl 0 _ rfl
      rw [Nat.add_zero] at y2
      rw [hm] at y2
      have hbl := B.lt
      have y1 := B.cell 1
      have HMM := Lib.hid M
      have hkl : ¬ (((xs :: r).length : Int) = 0) := by simp; omega
      obtain ⟨kk, hkk⟩ : ∃ kk, ((xs :: r).length : Int) = kk := ⟨_, rfl⟩
      rw [hkk] at K hkl
      have hvl1 : (0 : Int) < ((ms.length + 1 : Nat) : Int) := by omega
      simp only [List.length_cons] at y1
      obtain ⟨nn, hnn⟩ : ∃ nn, ms.length + 1 = nn := ⟨_, rfl⟩
      rw [hnn] at y1 hvl1
      clear hqi hq hms B hfp hv hcl M hkk hnn hvl hvn hvb
      by_cases hl : most < (m : Int)
      · have HR := Lib.hid (rd_long HP.out hi HDP.out HQ.out (by rw [HM.out]; exact hl))
        clear hm
        go_wp2_with fail
        refine K.mono ?_
        rintro e w2 ⟨rfl, rfl⟩
        clear K
        go_wp2_with fail
        go_returns
        exact ⟨hC1.out.trans ((Chg.refl w1 _).alloc _), .inl ⟨HR.out.1, by rw [HR.out.2]; rfl⟩⟩
      · have HR := Lib.hid (rd_good HP.out hi HDP.out HQ.out (by rw [HM.out]; exact hl))
        clear hm
        go_wp2_with fail
        refine K.mono ?_
        rintro e w2 ⟨rfl, rfl⟩
        clear K
        go_wp2_with fail
        go_returns
        have CA : Chg w1 (w1.alloc (.cells #[.pointer (some ⟨D.bs i, 0, none⟩)] 80)) (fun _ => False) := (Chg.refl w1 _).alloc _
        refine ⟨hC1.out.trans CA, .inr ⟨HR.out.1, i, hi, ao, cap, xs, r, HP.out, HQ.out, HR.out.2, HMM.out.chg CA (fun _ _ _ h => h) (fun _ h => h), .inr ⟨HK.out, w1.heap.size, hC1.out.size, Box.new _ _ _, ?_⟩⟩⟩
        rw [HM.out]
        rfl
end
end Go.Proofs.Ytiedfglkjkaefaa

/- ports: Read. -/
import Derived.Test.YtiedfglkjkaefaaPo8
namespace Go.Proofs.Ytiedfglkjkaefaa
open Go.RowKit

/-- What a call leaves of a Net that takes no new memory for it. -/
structure NetRd (w w' : World) (F : Nat → Prop) (D : NetD) (Q' : Que) : Prop where
  net : ∃ vs', NetAt w' F D Q' vs'
  chg : Chg w w' F
theorem NetRd.same {w w' : World} {F : Nat → Prop} {D : NetD} {Q : Que} {vs : Nat → Value} (N : NetAt w F D Q vs) (c : Chg w w' (fun _ => False)) : NetRd w w' F D Q :=
  ⟨⟨vs, N.chg c (fun _ _ h => h)⟩, c.mono (fun _ _ h => h.elim)⟩
theorem NetRd.pre {w0 w w' : World} {F : Nat → Prop} {D : NetD} {Q : Que} (h : NetRd w w' F D Q) (c : Chg w0 w (fun _ => False)) : NetRd w0 w' F D Q := ⟨h.net, (c.mono (fun _ _ h => h.elim)).trans h.chg⟩
theorem NetRd.post {w w' w2 : World} {F : Nat → Prop} {D : NetD} {Q : Que} (h : NetRd w w' F D Q) (c : Chg w' w2 (fun _ => False)) : NetRd w w2 F D Q := ⟨h.net.imp fun _ n => n.chg c (fun _ _ h => h), h.chg.trans (c.mono (fun _ _ h => h.elim))⟩
theorem NetRd.to {w w' : World} {F : Nat → Prop} {D : NetD} {Q : Que} (h : NetRd w w' F D Q) : NetTo w w' F D Q := by
  obtain ⟨vs', n⟩ := h.net
  exact ⟨⟨F, vs', n, fun _ h => .inl h⟩, h.chg⟩

theorem NetAt.take {w1 w2 : World} {F : Nat → Prop} {D : NetD} {Q : Que} {vs : Nat → Value} (N : NetAt w1 F D Q vs) {i : Nat} (hi : i < D.l.length) (hk : D.l[i].kind = 1) {xs : List Int} {rest : List (List Int)} (hq : Q i = xs :: rest) {ms : List Value} {v' : Value}
    (hms : MsgsAt w1 F ms (Q i)) (T : TakeQ w1 w2 (D.bs i) D.l[i].depth (vs i) ms v') : NetRd w1 w2 F D (qSet Q i rest) := by
  have K := N.ch i hi
  obtain ⟨KB, KF, _⟩ := K.boxQ hk
  have C := T.chg
  have hfar : ∀ g, F g → (∃ cur, Box w1 g 5 cur) → ¬ g = D.bs i := by
    rintro g _ ⟨cur, hb⟩ h
    exact K.far hb (by decide) (by decide) h
  have hlen := K.qk.len
  rw [hq, List.length_cons] at hlen
  refine ⟨⟨_, N.turn (F' := F) i hi v' rest (C.mono (fun k _ h => .inl h)) (fun _ h => h) (fun k h => Nat.lt_of_lt_of_le (N.lt k h) C.size) (fun g hg => .inl (by rw [← T.own]; exact hg)) ⟨K.ok, ⟨by omega, fun h => by rw [hk] at h; exact absurd h (by decide), fun ys hy => K.qk.msg ys (by rw [hq]; exact List.mem_cons_of_mem _ hy)⟩, .inr ⟨hk, T.box, fun g hg => KF g (by rw [← T.own]; exact hg), ms.tail, T.row, ?_⟩⟩⟩, C.mono (fun k _ h => by subst h; exact N.fb i hi)⟩
  have := MsgsAt.tail hms
  rw [hq] at this
  exact MsgsAt.chg C hfar (fun _ h => h) this

def ReadR (w w' : World) (F : Nat → Prop) (D : NetD) (Q : Que) (part port most : Int) (e : Ending) : Prop :=
  ∃ (ao : Option Addr) (cap : Nat), e = .returned (.tuple #[.slice ao (rdB D.l Q part port most).length cap, .int .i64 (rdC D.l Q part port most)]) ∧
    w'.ownsRow w.heap.size 5 1 (.slice ao (rdB D.l Q part port most).length cap) (rdB D.l Q part port most).length (u8s (rdB D.l Q part port most)) ∧ NetRd w w' F D (rdQ D.l Q part port most)

theorem readR_no {w w' : World} {F : Nat → Prop} {D : NetD} {Q : Que} {vs : Nat → Value} {part port most : Int} (N : NetAt w F D Q vs) (c : Chg w w' (fun _ => False)) (h : rdOk D.l Q part port most = false) : ReadR w w' F D Q part port most (.returned (.tuple #[.slice none 0 0, .int .i64 (rdC D.l Q part port most)])) := by
  have hb : rdB D.l Q part port most = [] := by unfold rdB; rw [if_neg (by rw [h]; decide)]
  have hq : rdQ D.l Q part port most = Q := by unfold rdQ; rw [h]; exact if_neg (fun h => absurd h.1 (by decide))
  refine ⟨none, 0, by rw [hb]; rfl, by rw [hb]; exact World.ownsRow_nil _ _ _ _, by rw [hq]; exact NetRd.same N c⟩
theorem rd_yes {l : List ChanD} {Q : Que} {part port most : Int} {i : Nat} {xs : List Int} {rest : List (List Int)} (hp : portV l part port = i) (hi : i < l.length) (hq : Q i = xs :: rest) (h : rdOk l Q part port most = true) :
    rdB l Q part port most = xs ∧ (l[i].kind = 0 → rdQ l Q part port most = Q) ∧ (l[i].kind = 1 → rdQ l Q part port most = qSet Q i rest) := by
  refine ⟨?_, fun hk => ?_, fun hk => ?_⟩
  · unfold rdB; rw [if_pos h, hp, Int.toNat_natCast, hq]; rfl
  · unfold rdQ; simp only [hp, Int.toNat_natCast, chD_at hi, hk]; exact if_neg (fun h => absurd h.2 (by decide))
  · unfold rdQ; simp only [hp, Int.toNat_natCast, chD_at hi, hk, hq]; exact if_pos ⟨h, trivial⟩

theorem eq_nn (w : World) : (binOp .eql 1 .nilFunc .nilFunc).run Try.prog w = .ok (.bool true) w := by kernel_rfl
theorem eq_fn (k : Fn) (a b : Array Value) (w : World) : (binOp .eql 1 (.func k a b) .nilFunc).run Try.prog w = .ok (.bool false) w := by kernel_rfl

set_option maxRecDepth 100000 in
set_option maxHeartbeats 4000000 in
theorem read_any {w : World} {F : Nat → Prop} {D : NetD} {Q : Que} {vs : Nat → Value} (N : NetAt w F D Q vs) (part port most : Int) (h1 : -9223372036854775808 ≤ port) (h2 : port ≤ 9223372036854775807) :
    Calls Try.prog 15 #[.pointer (some ⟨D.n, 0, none⟩), .int .i64 part, .int .i64 port, .int .i64 most] w fun e w' => ReadR w w' F D Q part port most e := by
  have HP := peek_any N part port most h1 h2
  have HN := Lib.hid N
  have hq1 := eq_nn
  have hq2 := eq_fn
  clear N h1 h2
  go_enter Try.func15, Try.ntmps15
  go_wp2_with fail
  refine HP.mono ?_
  clear HP
  rintro e w1 ⟨C1, ⟨hok, rfl⟩ | ⟨hok, i, hi, ao, cap, xs, rest, hp, hq, hc, M, ⟨hk, rfl⟩ | ⟨hk, t, htl, T, rfl⟩⟩⟩
  · have HR := Lib.hid (readR_no (part := part) (port := port) (most := most) HN.out C1 hok)
    clear hok
    go_wp2_with fail
    go_returns
    exact HR.out
  · have HY := Lib.hid (rd_yes hp hi hq hok)
    have N1 := HN.out.chg C1 (fun _ _ h => h)
    have hmr := (N1.ch i hi).qk.msg xs (by rw [hq]; simp)
    obtain ⟨m, hm⟩ : ∃ m, xs.length = m := ⟨_, rfl⟩
    have HM := Lib.hid hm
    have hsrc := own_src M.own
    rw [hm] at hsrc
    obtain ⟨ad, rfl⟩ : ∃ ad, ao = some ad := by
      cases ao with
      | none => have := (hsrc.nil rfl).1; omega
      | some ad => exact ⟨ad, rfl⟩
    have HCL := clone_any hsrc (by omega)
    have HK := Lib.hid hk
    have HC := Lib.hid hc
    have HC1 := Lib.hid C1
    rw [hm]
    clear hm M hsrc hp hq hok hk hc C1 N1
    go_wp2_with fail
    refine (take1_any w1).mono ?_
    rintro e w2 ⟨rfl, rfl⟩
    go_wp2_with fail
    refine HCL.mono ?_
    clear HCL
    rintro e w3 ⟨a3, c3, rfl, O3, C3⟩
    have HO3 := Lib.hid O3
    have HC3 := Lib.hid C3
    clear O3 C3
    go_wp2_with fail
    go_returns
    obtain ⟨e1, e2, -⟩ := HY.out
    refine ⟨a3, c3, ?_, ?_, ?_⟩
    · rw [e1, HC.out, HM.out]; rfl
    · rw [e1, HM.out]; exact own_base HO3.out HC1.out.size
    · rw [e2 HK.out]; exact NetRd.same HN.out (HC1.out.trans HC3.out)
  · have HY := Lib.hid (rd_yes hp hi hq hok)
    have N1 := HN.out.chg C1 (fun _ _ h => h)
    have hmr := (N1.ch i hi).qk.msg xs (by rw [hq]; simp)
    obtain ⟨B, hfp, ms, hqr, hms⟩ := (N1.ch i hi).boxQ hk
    obtain ⟨vo, vc, hv, hvl, hvm, hvn, hvb⟩ := hqr.form
    have hml := hms.length
    rw [hq, List.length_cons] at hml
    obtain ⟨g, o, rfl, hgl⟩ : ∃ g o, vo = some ⟨g, o, none⟩ ∧ g < w1.heap.size := by
      cases vo with
      | none => have := (hvn rfl).1; rw [this] at hml; simp at hml
      | some ad => obtain ⟨g, o, rfl, hg⟩ := hvb ad rfl; exact ⟨g, o, rfl, hg⟩
    have HTK := take2_any T (by rw [← hv]; exact B) (by rw [← hv]; exact hqr) (by omega)
    have HV := Lib.hid hv
    obtain ⟨m, hm⟩ : ∃ m, xs.length = m := ⟨_, rfl⟩
    have HM := Lib.hid hm
    have HMM := Lib.hid M
    obtain ⟨ad, rfl⟩ : ∃ ad, ao = some ad := by
      cases ao with
      | none => have := ((own_src M.own).nil rfl).1; omega
      | some ad => exact ⟨ad, rfl⟩
    have HK := Lib.hid hk
    have HC := Lib.hid hc
    have HC1 := Lib.hid C1
    have HQ := Lib.hid hq
    have HMS := Lib.hid hms
    have HN1 := Lib.hid N1
    rw [hm]
    clear hm M hp hq hok hk hc C1 N1 hms hqr B hfp hv hvn hvb T hvl hvm hml
    go_wp2_with fail
    refine HTK.mono ?_
    clear HTK
    rintro e w2 ⟨rfl, T2⟩
    have HT2 := Lib.hid T2
    have M2 := HMM.out.chg T2.chg (F' := F) (fun g _ hb h => by
      obtain ⟨cur, hb⟩ := hb
      exact (HN1.out.ch i hi).far hb (by decide) (by decide) h) (fun _ h => h)
    have hsrc := own_src M2.own
    rw [HM.out] at hsrc
    have HCL := clone_any hsrc (by have := HM.out; omega)
    clear T2 M2 hsrc
    go_wp2_with fail
    refine HCL.mono ?_
    clear HCL
    rintro e w3 ⟨a3, c3, rfl, O3, C3⟩
    have HO3 := Lib.hid O3
    have HC3 := Lib.hid C3
    clear O3 C3
    go_wp2_with fail
    go_returns
    obtain ⟨e1, -, e2⟩ := HY.out
    refine ⟨a3, c3, ?_, ?_, ?_⟩
    · rw [e1, HC.out, HM.out]; rfl
    · rw [e1, HM.out]; exact own_base HO3.out (Nat.le_trans HC1.out.size HT2.out.chg.size)
    · rw [e2 HK.out]
      have hT := HT2.out
      rw [← HV.out] at hT
      exact ((HN1.out.take hi HK.out HQ.out HMS.out hT).pre HC1.out).post HC3.out
end Go.Proofs.Ytiedfglkjkaefaa

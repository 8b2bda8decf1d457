/- ports: the reference's Net in memory; its port, Status, Messages (the second part printed by gen_por1.py). -/
import Derived.Test.YtiedfglkjkaefaaPoH
namespace Go.Proofs.Ytiedfglkjkaefaa
open Go.RowKit

/-- The reference's Net: what no call turns. -/
structure RD where
  n : Nat
  l : List ChanD
  c0 : Value
  c1 : Value
  c2 : Value
  c3 : Value
  ac : Option Addr
  cc : Nat
  c5 : Value
  gq : Nat
  base : Nat
/-- One channel's messages. -/
structure RCh (w : World) (F : Nat → Prop) (x : ChanD) (v : Value) (q : List (List Int)) : Prop where
  ok : ChOk x
  qk : QuOk x q
  row : ∃ ms, QRow w v ms ∧ MsgsAt w F ms q
  fv : ∀ g, v.ownBlock = some g → F g
structure RAt (w : World) (F : Nat → Prop) (D : RD) (Q : Que) (vs : Nat → Value) : Prop where
  box : Box w D.n 102 #[D.c0, D.c1, D.c2, D.c3, .slice D.ac D.l.length D.cc, D.c5, .slice (some ⟨D.gq, 0, none⟩) D.l.length D.l.length]
  ls : Lst w D.ac D.l.length D.cc (D.l.flatMap chanCells) 5
  old : ∀ ad, D.ac = some ad → 0 < D.l.length → ad.block < D.base
  row : Box w D.gq 40 ((List.range D.l.length).map vs).toArray
  max : D.l.length ≤ 16
  fn : F D.n
  fq : F D.gq
  lt : ∀ k, F k → k < w.heap.size ∧ D.base ≤ k
  ch : ∀ i, (h : i < D.l.length) → RCh w F D.l[i] (vs i) (Q i)

section
variable {w w' : World} {F F' P : Nat → Prop}
theorem RCh.chg {x : ChanD} {v : Value} {q : List (List Int)} (h : RCh w F x v q) (c : Chg w w' P) (hn : ∀ g, F g → ((∃ cur, Box w g 22 cur) ∨ ∃ cur, Box w g 5 cur) → ¬ P g) (hF : ∀ k, F k → F' k) : RCh w' F' x v q := by
  obtain ⟨ms, h1, h2⟩ := h.row
  exact ⟨h.ok, h.qk, ⟨ms, h1.chg c (fun g hg => hn g (h.fv g hg) (.inl (h1.ty hg))), h2.chg c (fun g hg hb => hn g hg (.inr hb)) hF⟩, fun g hg => hF g (h.fv g hg)⟩
theorem lst_chg0 {ao : Option Addr} {m c size : Nat} {cells : List Value} (h : Lst w ao m c cells size) (hc : Chg w w' P) (hn : ∀ ad, ao = some ad → 0 < m → ¬ P ad.block) : Lst w' ao m c cells size := by
  refine ⟨⟨h.src.len, h.src.nil, fun ad e j u hu => hc.cell (h.src.get ad e j u hu) ?_⟩, h.pos, h.le, h.mx⟩
  have hb : (ad.add j).block = ad.block := by unfold Addr.add; split <;> rfl
  have hj := (List.getElem?_eq_some_iff.1 hu).1
  have hl := h.src.len
  rw [hb]
  refine hn ad e (Nat.pos_of_ne_zero (fun h0 => ?_))
  rw [h0, Nat.zero_mul] at hl
  omega
theorem RAt.chg {D : RD} {Q : Que} {vs : Nat → Value} (N : RAt w F D Q vs) (c : Chg w w' P) (hn : ∀ k, F k → ¬ P k) (ho : ∀ k, P k → D.base ≤ k) : RAt w' F D Q vs :=
  ⟨N.box.chg c (hn _ N.fn), lst_chg0 N.ls c (fun ad e h0 h => by have := N.old ad e h0; have := ho _ h; omega), N.old, N.row.chg c (hn _ N.fq), N.max, N.fn, N.fq, fun k hk => ⟨Nat.lt_of_lt_of_le (N.lt k hk).1 c.size, (N.lt k hk).2⟩,
    fun i h => (N.ch i h).chg c (fun g hg _ => hn g hg) (fun _ h => h)⟩
theorem RAt.keep {D : RD} {Q : Que} {vs : Nat → Value} (N : RAt w F D Q vs) (c : Chg w w' (fun _ => False)) : RAt w' F D Q vs := N.chg c (fun _ _ h => h) (fun _ h => h.elim)
/-- One queue turns: its cell in the row is set. -/
theorem RAt.turn {D : RD} {Q : Que} {vs : Nat → Value} (N : RAt w F D Q vs) {w2 : World} (i : Nat) (hi : i < D.l.length) (v' : Value) (q' : List (List Int)) (C : Chg w w2 (fun _ => False)) (h' : w' = w2.setCell ⟨D.gq, i, none⟩ v') (hF : ∀ k, F k → F' k) (hF' : ∀ k, F' k → F k ∨ (w.heap.size ≤ k ∧ k < w2.heap.size)) (hc : RCh w2 F' D.l[i] v' q') :
    RAt w' F' D (qSet Q i q') (fun j => if j = i then v' else vs j) ∧ Chg w w' (fun k => k = D.gq) := by
  have N2 := N.keep C
  have C2 : Chg w2 w' (fun k => k = D.gq) := by rw [h']; exact (Chg.refl w2 (fun k => k = D.gq)).setCell (p := ⟨D.gq, i, none⟩) (fun _ => rfl) _
  have far : ∀ {g : Nat} {t : TypeId} {cur : Array Value}, Box w2 g t cur → t ≠ 40 → ¬ g = D.gq := fun hb ht h => by
    subst h
    exact box_ty hb N2.row ht rfl
  have hfar : ∀ g, ((∃ cur, Box w2 g 22 cur) ∨ ∃ cur, Box w2 g 5 cur) → ¬ g = D.gq := by
    rintro g (⟨cur, hb⟩ | ⟨cur, hb⟩)
    · exact far hb (by decide)
    · exact far hb (by decide)
  have hbase := (N.lt _ N.fq).2
  refine ⟨⟨N2.box.chg C2 (far N2.box (by decide)), lst_chg0 N2.ls C2 (fun ad e h0 h => by have := N.old ad e h0; omega), N.old, ?_, N.max, hF _ N.fn, hF _ N.fq, fun k hk => ?_, fun j hj => ?_⟩, (C.mono (fun _ _ h => h.elim)).trans C2⟩
  · have := N2.row.set i v'
    rw [← h'] at this
    have e : ((List.range D.l.length).map vs).toArray.setIfInBounds i v' = ((List.range D.l.length).map (fun j => if j = i then v' else vs j)).toArray := by
      apply Array.ext
      · simp
      · intro j h3 h4
        have hj : j < D.l.length := by simpa using h4
        rw [Array.getElem_setIfInBounds (by simpa using hj)]
        by_cases e : i = j
        · subst e; simp
        · rw [if_neg e]; simp [Ne.symm e]
    rw [e] at this
    exact this
  · rcases hF' k hk with h | h
    · exact ⟨Nat.lt_of_lt_of_le (N2.lt k h).1 C2.size, (N.lt k h).2⟩
    · have := (N.lt _ N.fq).1
      exact ⟨Nat.lt_of_lt_of_le h.2 C2.size, by omega⟩
  · by_cases e : j = i
    · subst e
      rw [if_pos rfl, qSet_same]
      exact hc.chg C2 (fun g _ h => hfar g h) (fun _ h => h)
    · rw [if_neg e, qSet_other Q e]
      exact (N2.ch j hj).chg C2 (fun g _ h => hfar g h) hF
/-- The cells of channel i. -/
theorem RAt.chan {D : RD} {Q : Que} {vs : Nat → Value} (N : RAt w F D Q vs) (i : Nat) (h : i < D.l.length) : ∃ gc oc, D.ac = some ⟨gc, oc, none⟩ ∧
    w.cell? ⟨D.n, 4, none⟩ = some (.slice (some ⟨gc, oc, none⟩) D.l.length D.cc) ∧ w.cell? ⟨D.n, 6, none⟩ = some (.slice (some ⟨D.gq, 0, none⟩) D.l.length D.l.length) ∧
    w.cell? ⟨gc, oc + i * 5, none⟩ = some (.int .i64 D.l[i].kind) ∧ w.cell? ⟨gc, oc + i * 5 + 1, none⟩ = some (.int .i64 D.l[i].src) ∧ w.cell? ⟨gc, oc + i * 5 + 2, none⟩ = some (.int .i64 D.l[i].dst) ∧ w.cell? ⟨gc, oc + i * 5 + 3, none⟩ = some (.int .i64 D.l[i].size) ∧ w.cell? ⟨gc, oc + i * 5 + 4, none⟩ = some (.int .i64 D.l[i].depth) ∧
    w.cell? ⟨D.gq, i, none⟩ = some (vs i) := by
  obtain ⟨gc, oc, ea⟩ := N.ls.pos (by omega)
  have hls := N.ls
  rw [ea] at hls
  refine ⟨gc, oc, ea, ?_, N.box.cell 6, ?_, ?_, ?_, ?_, ?_, ?_⟩
  · rw [← ea]; exact N.box.cell 4
  · exact Lst.cell0 (n := 5) (f := chanCells) (fun _ => rfl) hls i (by decide) h rfl
  · exact Lst.cell (n := 5) (f := chanCells) (fun _ => rfl) hls i 1 (by decide) h rfl
  · exact Lst.cell (n := 5) (f := chanCells) (fun _ => rfl) hls i 2 (by decide) h rfl
  · exact Lst.cell (n := 5) (f := chanCells) (fun _ => rfl) hls i 3 (by decide) h rfl
  · exact Lst.cell (n := 5) (f := chanCells) (fun _ => rfl) hls i 4 (by decide) h rfl
  · rw [N.row.cell]; simp [h]
end

/-- Which row of port it is, the reference's way. -/
theorem rport_eq (l : List ChanD) (part port : Int) : portV l part port = portGo part port l 0 0 := rfl
open Go.RowKit

section
variable {w : World} {F : Nat → Prop} {D : RD} {Q : Que} {vs : Nat → Value}
set_option maxHeartbeats 2000000 in
theorem rport_any (N : RAt w F D Q vs) (part port : Int) :
    Calls Try.prog 43 #[.pointer (some ⟨D.n, 0, none⟩), .int .i64 part, .int .i64 port] w fun e w' => e = .returned (.int .i64 (portV D.l part port)) ∧ Chg w w' (fun _ => False) := by
  have hmax := N.max
  obtain ⟨L, hL⟩ : ∃ L, D.l.length = L := ⟨_, rfl⟩
  have HL := Lib.hid hL
  have HN := Lib.hid N
  have hmx : L ≤ 16 := by omega
  clear N hmax hL
  go_enter Try.func43, Try.ntmps43
  go_wp2_with fail
  go_loopg [7, 8] L (fun g s7 s8 wr => ∃ i c : Nat, g + i = L ∧ s8 = .int .i64 i ∧ s7 = .int .i64 c ∧ c ≤ i ∧ Hid (portV D.l part port = portGo part port (D.l.drop i) i c) ∧ Hid (Chg w wr (fun _ => False)))
  case atStart => exact ⟨0, 0, rfl, rfl, rfl, Nat.le_refl _, rfl, Chg.refl _ _⟩
  case round =>
    obtain ⟨i, c, hi, rfl, rfl, hci, HG, HC⟩ := hrel
    have HI := Lib.hid hi
    have N1 := HN.out.keep HC.out
    have hln := N1.box.lt
    by_cases hlt : i < L
    · have hlt2 : i < D.l.length := by rw [HL.out]; exact hlt
      obtain ⟨gc, oc, ea, q4, -, d0, d1, d2, d3, d4, -⟩ := N1.chan i hlt2
      rw [HL.out] at q4
      have HG2 := Lib.hid (HG.out.trans (portGo_at part port D.l i c hlt2))
      obtain ⟨x, hx⟩ : ∃ x, D.l[i] = x := ⟨_, rfl⟩
      rw [hx] at d0 d1 d2 d3 d4 HG2
      obtain ⟨x0, x1, x2, x3, x4⟩ := x
      dsimp only at d0 d1 d2 d3 d4 HG2
      clear hx hi HG N1 ea
      by_cases hit : x1 = part ∨ x2 = part
      · have HH := Lib.hid hit
        by_cases hz : (c : Int) = port
        · have HR : Hid (portV D.l part port = (i : Int)) := by
            show _ = _
            rw [HG2.out, if_pos HH.out, if_pos hz]
          have bz : ((c : Int) == port) = true := by simp [hz]
          by_cases e1 : x1 = part
          · have b1 : (x1 == part) = true := by simp [e1]
            clear hit hz e1
            go_wp2_with fail
            go_ret
            exact ⟨ret_int HR.out.symm, HC.out.alloc _⟩
          · have b1 : (x1 == part) = false := by simp [e1]
            have b2 : (x2 == part) = true := by simp [hit.resolve_left e1]
            clear hit hz e1
            go_wp2_with fail
            go_ret
            exact ⟨ret_int HR.out.symm, HC.out.alloc _⟩
        · have HR : Hid (portV D.l part port = portGo part port (D.l.drop (i + 1)) (i + 1) (c + 1)) := by
            show _ = _
            rw [HG2.out, if_pos HH.out, if_neg hz]
          have bz : ((c : Int) == port) = false := by simp [hz]
          by_cases e1 : x1 = part
          · have b1 : (x1 == part) = true := by simp [e1]
            clear hit hz e1
            go_wp2_with fail
            go_roundg (gk - 1)
            case measure => have := HI.out; omega
            case rel => exact ⟨i + 1, c + 1, by have := HI.out; omega, by go_num, by go_num, by omega, HR, HC.out.alloc _⟩
          · have b1 : (x1 == part) = false := by simp [e1]
            have b2 : (x2 == part) = true := by simp [hit.resolve_left e1]
            clear hit hz e1
            go_wp2_with fail
            go_roundg (gk - 1)
            case measure => have := HI.out; omega
            case rel => exact ⟨i + 1, c + 1, by have := HI.out; omega, by go_num, by go_num, by omega, HR, HC.out.alloc _⟩
      · have b1 : (x1 == part) = false := beq_eq_false_iff_ne.2 (fun e => hit (.inl e))
        have b2 : (x2 == part) = false := beq_eq_false_iff_ne.2 (fun e => hit (.inr e))
        have HR : Hid (portV D.l part port = portGo part port (D.l.drop (i + 1)) (i + 1) c) := by
          show _ = _
          rw [HG2.out, if_neg hit]
        clear hit
        go_wp2_with fail
        go_roundg (gk - 1)
        case measure => have := HI.out; omega
        case rel => exact ⟨i + 1, c, by have := HI.out; omega, by go_num, rfl, by omega, HR, HC.out.alloc _⟩
    · have HR : Hid (portV D.l part port = -1) := HG.out.trans (portGo_end part port D.l i c (by rw [HL.out]; omega))
      have q4 : wr.cell? ⟨D.n, 4, none⟩ = some (.slice D.ac L D.cc) := by rw [← HL.out]; exact N1.box.cell 4
      obtain rfl : L = i := by omega
      clear hi N1
      go_wp2_with fail
      go_ret
      exact ⟨ret_int HR.out.symm, HC.out⟩

/-- The length that the row's cell tells. -/
theorem RCh.form {x : ChanD} {v : Value} {q : List (List Int)} (h : RCh w F x v q) : ∃ ao cap, v = .slice ao q.length cap ∧ q.length ≤ cap ∧ cap ≤ maxLen ∧ q.length ≤ 16 := by
  obtain ⟨ms, h1, h2⟩ := h.row
  obtain ⟨ao, cap, rfl, h3, h4, -⟩ := h1.form
  have := h2.length
  have := h.qk.len
  have := h.ok.depth
  exact ⟨ao, cap, by rw [h2.length], by omega, h4, by omega⟩

set_option maxHeartbeats 1000000 in
theorem rstatus_any (N : RAt w F D Q vs) (part port : Int) :
    Calls Try.prog 26 #[.pointer (some ⟨D.n, 0, none⟩), .int .i64 part, .int .i64 port] w fun e w' => e = .returned (.int .i64 (stC D.l Q part port)) ∧ Chg w w' (fun _ => False) := by
  have HF := rport_any N part port
  rcases portV_rng D.l part port with hp | ⟨i, hp, hi⟩
  · have HR : Hid (stC D.l Q part port = 4294967295) := by show _ = _; unfold stC; rw [hp]; rfl
    rw [hp] at HF
    clear N hp
    go_enter Try.func26, Try.ntmps26
    go_wp2_with fail
    refine HF.mono ?_
    rintro e w1 ⟨rfl, C1⟩
    clear HF
    go_wp2_with fail
    go_ret
    exact ⟨ret_int HR.out.symm, C1⟩
  · have hmax := N.max
    have HR : Hid (stC D.l Q part port = ((Q i).length : Int)) := by
      show _ = _
      unfold stC
      rw [hp, Int.toNat_natCast, if_neg (by omega)]
    rw [hp] at HF
    have HN := Lib.hid N
    clear N hp
    go_enter Try.func26, Try.ntmps26
    go_wp2_with fail
    refine HF.mono ?_
    rintro e w1 ⟨rfl, C1⟩
    clear HF
    have N1 := HN.out.keep C1
    obtain ⟨gc, oc, -, -, q6, -, -, -, -, -, dq⟩ := N1.chan i hi
    obtain ⟨ao, cap, hv, -, -, h16⟩ := (N1.ch i hi).form
    have hln := N1.box.lt
    have hlq := N1.row.lt
    obtain ⟨L, hL⟩ : ∃ L, D.l.length = L := ⟨_, rfl⟩
    obtain ⟨z, hz⟩ : ∃ z, (Q i).length = z := ⟨_, rfl⟩
    rw [hL] at q6 hi hmax
    rw [hv, hz] at dq
    rw [hz] at HR h16
    clear hL hz hv N1
    go_wp2_with fail
    go_ret
    exact ⟨ret_int HR.out.symm, C1⟩

set_option maxHeartbeats 2000000 in
theorem rmessages_any (N : RAt w F D Q vs) (part : Int) :
    Calls Try.prog 27 #[.pointer (some ⟨D.n, 0, none⟩), .int .i64 part] w fun e w' => e = .returned (.int .i64 (msK D.l Q part D.l.length)) ∧ w = w' := by
  have hmax := N.max
  have HMR : Hid (∀ k, k ≤ D.l.length → 0 ≤ msK D.l Q part k ∧ msK D.l Q part k ≤ 16 * (k : Int)) := msK_rng (fun i hi => by have := (N.ch i hi).qk.len; have := (N.ch i hi).ok.depth; omega) part
  obtain ⟨L, hL⟩ : ∃ L, D.l.length = L := ⟨_, rfl⟩
  have HL := Lib.hid hL
  have HN := Lib.hid N
  have hmx : L ≤ 16 := by omega
  have hln := N.box.lt
  have q4 : w.cell? ⟨D.n, 4, none⟩ = some (.slice D.ac L D.cc) := by rw [← hL]; exact N.box.cell 4
  have HE : Hid (msK D.l Q part D.l.length = msK D.l Q part L) := by show _ = _; rw [hL]
  rw [HE.out]
  clear N hmax hL
  go_enter Try.func27, Try.ntmps27
  go_wp2_with fail
  go_loopg [5, 6] L (fun g s5 s6 wr => ∃ k : Nat, g + k = L ∧ s6 = .int .i64 k ∧ s5 = .int .i64 (msK D.l Q part k) ∧ wr = w)
  case atStart => exact ⟨0, rfl, rfl, rfl, rfl⟩
  case round =>
    obtain ⟨k, hk, rfl, rfl, hw⟩ := hrel
    subst hw
    have HK := Lib.hid hk
    by_cases hlt : k < L
    · have hlt2 : k < D.l.length := by rw [HL.out]; exact hlt
      obtain ⟨gc, oc, ea, -, q6, d0, -, d2, -, -, dq⟩ := HN.out.chan k hlt2
      obtain ⟨ao, cap, hv, -, -, h16⟩ := (HN.out.ch k hlt2).form
      obtain ⟨hm1, hm2⟩ := HMR.out k (by omega)
      have hm3 : msK D.l Q part (k + 1) = msK D.l Q part k + if D.l[k].dst = part ∧ D.l[k].kind = 1 then ((Q k).length : Int) else 0 := by
        rw [← chD_at hlt2]; rfl
      obtain ⟨x, hx⟩ : ∃ x, D.l[k] = x := ⟨_, rfl⟩
      obtain ⟨z, hz⟩ : ∃ z, (Q k).length = z := ⟨_, rfl⟩
      obtain ⟨y, hy⟩ : ∃ y, msK D.l Q part k = y := ⟨_, rfl⟩
      rw [HL.out] at q6
      rw [hx] at d0 d2 hm3
      rw [hv, hz] at dq
      rw [hz] at hm3 h16
      rw [hy] at hm1 hm2 hm3
      rw [hy]
      rw [ea] at q4
      have HM3 := Lib.hid hm3
      obtain ⟨x0, x1, x2, x3, x4⟩ := x
      dsimp only at d0 d2 HM3
      clear hx hz hy hm3 hk hv ea
      by_cases e2 : x0 = 1
      · by_cases e1 : x2 = part
        · have HV := Lib.hid (HM3.out.trans (by rw [if_pos ⟨e1, e2⟩]))
          have b1 : (x2 == part) = true := by simp [e1]
          subst e2
          clear e1 HM3
          go_wp2_with fail
          go_roundg (gk - 1)
          case measure => have := HK.out; omega
          case rel => exact ⟨k + 1, by have := HK.out; omega, by go_num, congrArg (Value.int .i64) (by rw [HV.out]), rfl⟩
        · have HV := Lib.hid (HM3.out.trans (by rw [if_neg (fun h => e1 h.1)]))
          have b1 : (x2 == part) = false := by simp [e1]
          subst e2
          clear e1 HM3
          go_wp2_with fail
          go_roundg (gk - 1)
          case measure => have := HK.out; omega
          case rel => exact ⟨k + 1, by have := HK.out; omega, by go_num, congrArg (Value.int .i64) (by rw [HV.out]; omega), rfl⟩
      · have HV := Lib.hid (HM3.out.trans (by rw [if_neg (fun h => e2 h.2)]))
        have b2 : (x0 == 1) = false := by simp [e2]
        clear e2 HM3
        go_wp2_with fail
        go_roundg (gk - 1)
        case measure => have := HK.out; omega
        case rel => exact ⟨k + 1, by have := HK.out; omega, by go_num, congrArg (Value.int .i64) (by rw [HV.out]; omega), rfl⟩
    · obtain rfl : L = k := by omega
      clear hk
      go_wp2_with fail
      go_ret
      exact ⟨rfl, rfl⟩
end
end Go.Proofs.Ytiedfglkjkaefaa

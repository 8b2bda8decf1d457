/- ports: from, Status, Messages. -/
import Derived.Test.YtiedfglkjkaefaaPo2
namespace Go.Proofs.Ytiedfglkjkaefaa
open Go.RowKit

def fromV (l : List ChanD) (part port : Int) : Int := if 0 ≤ portV l part port ∧ (chD l (portV l part port).toNat).src ≠ part then -1 else portV l part port

/-- The cells of channel i, for the walk. -/
theorem NetAt.chan {w : World} {F : Nat → Prop} {D : NetD} {Q : Que} {vs : Nat → Value} (N : NetAt w F D Q vs) (i : Nat) (h : i < D.l.length) : ∃ gc gh, D.ac = some ⟨gc, 0, none⟩ ∧ D.ah = some ⟨gh, 0, none⟩ ∧
    w.cell? ⟨D.n, 4, none⟩ = some (.slice (some ⟨gc, 0, none⟩) D.l.length D.cc) ∧ w.cell? ⟨D.n, 6, none⟩ = some (.slice (some ⟨gh, 0, none⟩) D.l.length D.hc) ∧
    w.cell? ⟨gc, i * 5, none⟩ = some (.int .i64 D.l[i].kind) ∧ w.cell? ⟨gc, i * 5 + 1, none⟩ = some (.int .i64 D.l[i].src) ∧ w.cell? ⟨gc, i * 5 + 2, none⟩ = some (.int .i64 D.l[i].dst) ∧ w.cell? ⟨gc, i * 5 + 3, none⟩ = some (.int .i64 D.l[i].size) ∧ w.cell? ⟨gc, i * 5 + 4, none⟩ = some (.int .i64 D.l[i].depth) ∧
    w.cell? ⟨gh, i, none⟩ = some (.iface (tyC D.l[i]) (.pointer (some ⟨D.bs i, 0, none⟩))) := by
  obtain ⟨gc, gh, ea, eh, _, _, _, _, hls, hr⟩ := N.cells (by omega)
  have d0 := Lst.cell0 (n := 5) (f := chanCells) (fun _ => rfl) hls i (by decide) h rfl
  have d1 := Lst.cell (n := 5) (f := chanCells) (fun _ => rfl) hls i 1 (by decide) h rfl
  have d2 := Lst.cell (n := 5) (f := chanCells) (fun _ => rfl) hls i 2 (by decide) h rfl
  have d3 := Lst.cell (n := 5) (f := chanCells) (fun _ => rfl) hls i 3 (by decide) h rfl
  have d4 := Lst.cell (n := 5) (f := chanCells) (fun _ => rfl) hls i 4 (by decide) h rfl
  simp only [Nat.zero_add] at d0 d1 d2 d3 d4
  refine ⟨gc, gh, ea, eh, ?_, ?_, d0, d1, d2, d3, d4, ?_⟩
  · rw [← ea]; exact N.box.cell 4
  · rw [← eh]; exact N.box.cell 6
  · rw [hr i h]; unfold chV; rw [chD_at h]

theorem cnt_any {w : World} {F : Nat → Prop} {x : ChanD} {b : Nat} {v : Value} {q : List (List Int)} (K : ChAt w F x b v q) :
    (x.kind = 0 → Calls Try.prog 74 #[.pointer (some ⟨b, 0, none⟩)] w fun e w' => e = .returned (.int .i64 (q.length : Int)) ∧ w = w') ∧
    (x.kind = 1 → Calls Try.prog 76 #[.pointer (some ⟨b, 0, none⟩)] w fun e w' => e = .returned (.int .i64 (q.length : Int)) ∧ w = w') := by
  refine ⟨fun hk => ?_, fun hk => ?_⟩
  · obtain ⟨hb, h⟩ := K.boxS hk
    rcases h with ⟨rfl, rfl⟩ | ⟨xs, rfl, M⟩
    · exact cntS hb 0 rfl (by omega)
    · obtain ⟨ao, cap, rfl, _⟩ := own_form M.own
      have := (K.qk.msg xs (by simp)).2
      exact cntS hb 1 (by rw [if_neg (by omega)]) (by omega)
  · obtain ⟨hb, _, ms, h1, h2⟩ := K.boxQ hk
    obtain ⟨ao, cap, rfl, _⟩ := h1.form
    rw [← h2.length]
    exact cntQ hb
theorem tyC_S {x : ChanD} (h : x.kind = 0) : tyC x = 77 := if_pos h
theorem tyC_Q {x : ChanD} (h : x.kind = 1) : tyC x = 80 := if_neg (by rw [h]; decide)

section
variable {w : World} {F : Nat → Prop} {D : NetD} {Q : Que} {vs : Nat → Value}
set_option maxHeartbeats 1000000 in
theorem from_any (N : NetAt w F D Q vs) (part port : Int) (h1 : -9223372036854775808 ≤ port) (h2 : port ≤ 9223372036854775807) :
    Calls Try.prog 34 #[.pointer (some ⟨D.n, 0, none⟩), .int .i64 part, .int .i64 port] w fun e w' => e = .returned (.int .i64 (fromV D.l part port)) ∧ Chg w w' (fun _ => False) := by
  have HF := find_any N part port h1 h2
  rcases portV_rng D.l part port with hp | ⟨i, hp, hi⟩
  · have HR : Hid (fromV D.l part port = -1) := by show _ = _; unfold fromV; rw [hp]; rfl
    rw [hp] at HF
    clear N hp h1 h2
    go_enter Try.func34, Try.ntmps34
    go_wp2_with fail
    refine HF.mono ?_
    rintro e w1 ⟨rfl, C1⟩
    clear HF
    go_wp2_with fail
    go_ret
    exact ⟨ret_int HR.out.symm, C1⟩
  · have hmax := N.max
    have HR : Hid (fromV D.l part port = if D.l[i].src ≠ part then -1 else (i : Int)) := by
      show _ = _
      unfold fromV
      rw [hp, Int.toNat_natCast, chD_at hi]
      by_cases hs : D.l[i].src ≠ part
      · rw [if_pos ⟨by omega, hs⟩, if_pos hs]
      · rw [if_neg (fun h => hs h.2), if_neg hs]
    rw [hp] at HF
    have HN := Lib.hid N
    clear N hp h1 h2
    go_enter Try.func34, Try.ntmps34
    go_wp2_with fail
    refine HF.mono ?_
    rintro e w1 ⟨rfl, C1⟩
    clear HF
    obtain ⟨gc, gh, -, -, q4, -, -, d1, -⟩ := (HN.out.chg C1 (fun _ _ h => h)).chan i hi
    obtain ⟨L, hL⟩ : ∃ L, D.l.length = L := ⟨_, rfl⟩
    obtain ⟨sr, hsr⟩ : ∃ x, D.l[i].src = x := ⟨_, rfl⟩
    rw [hL] at q4 hi hmax
    rw [hsr] at d1 HR
    clear hL hsr
    by_cases hs : sr = part
    · have b1 : (sr != part) = false := by simp [hs]
      have HR2 := Lib.hid (HR.out.trans (if_neg (fun h => h hs)))
      clear hs HR
      go_wp2_with fail
      go_ret
      exact ⟨ret_int HR2.out.symm, C1⟩
    · have b1 : (sr != part) = true := bne_iff_ne.2 hs
      have HR2 := Lib.hid (HR.out.trans (if_pos hs))
      clear hs HR
      go_wp2_with fail
      go_ret
      exact ⟨ret_int HR2.out.symm, C1⟩

set_option maxHeartbeats 1000000 in
theorem status_any (N : NetAt w F D Q vs) (part port : Int) (h1 : -9223372036854775808 ≤ port) (h2 : port ≤ 9223372036854775807) :
    Calls Try.prog 16 #[.pointer (some ⟨D.n, 0, none⟩), .int .i64 part, .int .i64 port] w fun e w' => e = .returned (.int .i64 (stC D.l Q part port)) ∧ Chg w w' (fun _ => False) := by
  have HF := find_any N part port h1 h2
  rcases portV_rng D.l part port with hp | ⟨i, hp, hi⟩
  · have HR : Hid (stC D.l Q part port = 4294967295) := by show _ = _; unfold stC; rw [hp]; rfl
    rw [hp] at HF
    clear N hp h1 h2
    go_enter Try.func16, Try.ntmps16
    go_wp2_with fail
    refine HF.mono ?_
    rintro e w1 ⟨rfl, C1⟩
    clear HF
    go_wp2_with fail
    go_ret
    exact ⟨ret_int HR.out.symm, C1⟩
  · have hmax := N.max
    have HR : Hid (stC D.l Q part port = ((Q i).length : Int)) := by
      show _ = _
      unfold stC
      rw [hp, Int.toNat_natCast, if_neg (by omega)]
    rw [hp] at HF
    have HN := Lib.hid N
    clear N hp h1 h2
    go_enter Try.func16, Try.ntmps16
    go_wp2_with fail
    refine HF.mono ?_
    rintro e w1 ⟨rfl, C1⟩
    clear HF
    have N1 := HN.out.chg C1 (fun _ _ h => h)
    obtain ⟨gc, gh, -, -, -, q6, -, -, -, -, -, dh⟩ := N1.chan i hi
    obtain ⟨KS, KQ⟩ := cnt_any (N1.ch i hi)
    have hk := (N1.ch i hi).ok.kind
    obtain ⟨L, hL⟩ : ∃ L, D.l.length = L := ⟨_, rfl⟩
    obtain ⟨x, hx⟩ : ∃ x, D.l[i] = x := ⟨_, rfl⟩
    obtain ⟨z, hz⟩ : ∃ z, (Q i).length = z := ⟨_, rfl⟩
    rw [hL] at q6 hi hmax
    rw [hx] at dh KS KQ hk
    rw [hz] at KS KQ HR
    clear hL hx hz N1
    rcases hk with hk | hk
    · rw [tyC_S hk] at dh
      have K := KS hk
      clear KS KQ hk
      go_wp2_with fail
      refine K.mono ?_
      rintro e w2 ⟨rfl, rfl⟩
      clear K
      go_wp2_with fail
      go_ret
      exact ⟨ret_int HR.out.symm, C1⟩
    · rw [tyC_Q hk] at dh
      have K := KQ hk
      clear KS KQ hk
      go_wp2_with fail
      refine K.mono ?_
      rintro e w2 ⟨rfl, rfl⟩
      clear K
      go_wp2_with fail
      go_ret
      exact ⟨ret_int HR.out.symm, C1⟩

set_option maxHeartbeats 2000000 in
theorem messages_any (N : NetAt w F D Q vs) (part : Int) :
    Calls Try.prog 14 #[.pointer (some ⟨D.n, 0, none⟩), .int .i64 part] w fun e w' => e = .returned (.int .i64 (msK D.l Q part D.l.length)) ∧ Chg w w' (fun _ => False) := by
  have hmax := N.max
  have HMR : Hid (∀ k, k ≤ D.l.length → 0 ≤ msK D.l Q part k ∧ msK D.l Q part k ≤ 16 * (k : Int)) := msK_rng (fun i hi => by have := (N.ch i hi).qk.len; have := (N.ch i hi).ok.depth; omega) part
  obtain ⟨L, hL⟩ : ∃ L, D.l.length = L := ⟨_, rfl⟩
  have HL := Lib.hid hL
  have q4 : w.cell? ⟨D.n, 4, none⟩ = some (.slice D.ac L D.cc) := by rw [← hL]; exact N.box.cell 4
  have HN := Lib.hid N
  have hmx : L ≤ 16 := by omega
  have HE : Hid (msK D.l Q part D.l.length = msK D.l Q part L) := by show _ = _; rw [hL]
  rw [HE.out]
  clear N hmax hL
  go_enter Try.func14, Try.ntmps14
  go_wp2_with fail
  clear q4
  go_loopg [5, 14] L (fun g s5 s14 wr => ∃ k : Nat, g + k = L ∧ s14 = .int .i64 k ∧ s5 = .int .i64 (msK D.l Q part k) ∧ Chg w wr (fun _ => False))
  case atStart => exact ⟨0, rfl, rfl, rfl, Chg.refl _ _⟩
  case round =>
    obtain ⟨k, hk, rfl, rfl, Ck⟩ := hrel
    have HK := Lib.hid hk
    by_cases hlt : k < L
    · have hlt2 : k < D.l.length := by rw [HL.out]; exact hlt
      have N1 := HN.out.chg Ck (fun _ _ h => h)
      obtain ⟨gc, gh, ea, -, -, q6, d0, d1, d2, d3, d4, dh⟩ := N1.chan k hlt2
      obtain ⟨KS, KQ⟩ := cnt_any (N1.ch k hlt2)
      have hkd := (N1.ch k hlt2).ok.kind
      have hql := (N1.ch k hlt2).qk.len
      have hdp := (N1.ch k hlt2).ok.depth
      obtain ⟨hm1, hm2⟩ := HMR.out k (by omega)
      have hm3 : msK D.l Q part (k + 1) = msK D.l Q part k + if D.l[k].dst = part ∧ D.l[k].kind = 1 then ((Q k).length : Int) else 0 := by
        rw [← chD_at hlt2]; rfl
      have KQ' := (cnt_any ((N1.ch k hlt2).chg ((Chg.refl wr (fun _ => False)).alloc (.cells #[.int .i64 D.l[k].kind, .int .i64 D.l[k].src, .int .i64 D.l[k].dst, .int .i64 D.l[k].size, .int .i64 D.l[k].depth] 73)) (fun h => h) (fun _ _ _ h => h) (fun _ _ _ h => h) (fun _ h => h))).2
      obtain ⟨x, hx⟩ : ∃ x, D.l[k] = x := ⟨_, rfl⟩
      obtain ⟨z, hz⟩ : ∃ z, (Q k).length = z := ⟨_, rfl⟩
      obtain ⟨y, hy⟩ : ∃ y, msK D.l Q part k = y := ⟨_, rfl⟩
      have N1q6 := q6
      rw [HL.out] at q6
      rw [hx] at d0 d1 d2 d3 d4 dh KQ' hkd hql hdp hm3
      rw [hz] at KQ' hm3 hql
      rw [hy] at hm1 hm2 hm3
      rw [hy, ea]
      have HY := Lib.hid hy
      have HM3 := Lib.hid hm3
      obtain ⟨x0, x1, x2, x3, x4⟩ := x
      dsimp only at d0 d1 d2 d3 d4 KQ' hkd hql hdp HM3
      have hz16 : z ≤ 16 := by omega
      have hn1 := N1.box.lt
      have hgh : gh < wr.heap.size := World.block_lt_of_cell? wr _ dh
      clear KS KQ hx hz hy hm3 N1 N1q6 hk hql hdp
      by_cases e1 : x2 = part
      · by_cases e2 : x0 = 1
        · rw [tyC_Q e2] at dh
          have K := KQ' e2
          have HV := Lib.hid (HM3.out.trans (by rw [if_pos ⟨e1, e2⟩]))
          have b1 : (x2 == part) = true := by simp [e1]
          clear KQ' hkd HM3
          subst e2
          clear e1
          go_wp2_with fail
          refine K.mono ?_
          rintro e w2 ⟨rfl, rfl⟩
          clear K
          go_wp2_with fail
          rw [← ea]
          go_roundg (gk - 1)
          case measure => have := HK.out; omega
          case rel => exact ⟨k + 1, by have := HK.out; omega, by go_num, congrArg (Value.int .i64) (by rw [HV.out]), Ck.alloc _⟩
        · have HV := Lib.hid (HM3.out.trans (by rw [if_neg (fun h => e2 h.2)]))
          have b1 : (x2 == part) = true := by simp [e1]
          have b2 : (x0 == 1) = false := by simp [e2]
          clear KQ' hkd HM3 e1 e2 dh
          go_wp2_with fail
          rw [← ea]
          go_roundg (gk - 1)
          case measure => have := HK.out; omega
          case rel => exact ⟨k + 1, by have := HK.out; omega, by go_num, congrArg (Value.int .i64) (by rw [HV.out]; omega), Ck.alloc _⟩
      · have HV := Lib.hid (HM3.out.trans (by rw [if_neg (fun h => e1 h.1)]))
        have b1 : (x2 == part) = false := by simp [e1]
        clear KQ' hkd HM3 e1 dh
        go_wp2_with fail
        rw [← ea]
        go_roundg (gk - 1)
        case measure => have := HK.out; omega
        case rel => exact ⟨k + 1, by have := HK.out; omega, by go_num, congrArg (Value.int .i64) (by rw [HV.out]; omega), Ck.alloc _⟩
    · obtain rfl : L = k := by omega
      clear hk
      go_wp2_with fail
      go_ret
      exact ⟨rfl, Ck⟩
end
end Go.Proofs.Ytiedfglkjkaefaa

/- plan: ticks, Find, At, Runs, share, upto, Steps, Share. -/
import Derived.Test.YtmbdimcjpdofoaaPlanDef
import Derived.Test.YtmbdimcjpdofoaaSeq
import Derived.Test.YtmbdimcjpdofoaaLst
import Derived.Deep.DeepCutAuto
namespace Go.Proofs.Ytmbdimcjpdofoaa
open Go.RowKit

def iCells (z : Int) : List Value := [.int .i64 z]
theorem ret2_ii {a b c d : Int} (h : a = c) (k : b = d) : Ending.returned (.tuple #[.int .i64 a, .int .i64 b]) = .returned (.tuple #[.int .i64 c, .int .i64 d]) := by rw [h, k]
theorem ret2_ib {a c : Int} {b d : Bool} (h : a = c) (k : b = d) : Ending.returned (.tuple #[.int .i64 a, .bool b]) = .returned (.tuple #[.int .i64 c, .bool d]) := by rw [h, k]

set_option maxHeartbeats 1000000 in
theorem ticks_any {C : Cfg} {ap ac aw ao : Option Addr} {cp cc cw cap : Nat} (l : List Int) (w : World) (h : CfgAt w C ap ac aw cp cc cw) (hl : Lst w ao l.length cap (l.flatMap iCells) 1) :
    Calls Try.prog 24 #[.agg (cfgCells C ap ac aw cp cc cw), .slice ao l.length cap] w fun e w' => e = .returned (.bool (tickB C l)) ∧ Chg w w' (fun _ => False) := by
  have hm1 := hl.mx
  have hm2 := hl.le
  unfold maxLen at hm1
  have HB := Box.new w 26 (cfgCells C ap ac aw cp cc cw)
  have HA := h.keep ((Chg.refl w (fun _ => False)).alloc (.cells (cfgCells C ap ac aw cp cc cw) 26))
  have HL := hl.chg ((Chg.refl w (fun _ => False)).alloc (.cells (cfgCells C ap ac aw cp cc cw) 26)) (fun _ _ h => h)
  have HC := check_any _ HA
  unfold cfgCells at *
  go_enter Try.func24, Try.ntmps24
  go_wp2_with fail
  go_loop [9] (fun i => ∃ k : Nat, k ≤ l.length ∧ i = .int .i64 k ∧ Hid ((l.take k).all okT = true)) (fun i => l.length - (intOf i).toNat)
  case atStart => exact ⟨0, by omega, rfl, rfl⟩
  case round =>
    obtain ⟨k, hk, rfl, HK⟩ := hrel
    by_cases hlt : k < l.length
    · obtain ⟨b, o, rfl⟩ := hl.pos (by omega)
      have c0 := Lst.cell0 (n := 1) (fun _ => rfl) HL k (by decide) hlt rfl
      have HT := Lib.hid (allk_succ l okT k hlt)
      have HF : Hid (okT l[k] = false → tickB C l = false) := fun hf => by unfold tickB; rw [all_false l okT k hlt hf]; rfl
      obtain ⟨x, hx⟩ : ∃ x, l[k] = x := ⟨_, rfl⟩
      rw [hx] at c0 HT HF
      clear hx
      rw [Nat.mul_one] at c0
      by_cases x1 : x < 0
      · have q1 : decide (x < 0) = true := decide_eq_true x1
        have HR := Lib.hid (HF.out (decide_eq_false (by omega)))
        go_wp2_with fail
        go_ret
        exact ⟨ret_bool HR.out.symm, (Chg.refl _ _).alloc _⟩
      have q1 : decide (x < 0) = false := decide_eq_false x1
      by_cases x2 : 1099511627776 < x
      · have q2 : decide (1099511627776 < x) = true := decide_eq_true x2
        have HR := Lib.hid (HF.out (decide_eq_false (by omega)))
        go_wp2_with fail
        go_ret
        exact ⟨ret_bool HR.out.symm, (Chg.refl _ _).alloc _⟩
      have q2 : decide (1099511627776 < x) = false := decide_eq_false x2
      have HR : Hid ((l.take (k + 1)).all okT = true) := by show _ = _; rw [HT.out, HK.out]; exact decide_eq_true (by omega)
      go_wp2_with fail
      go_round
      case rel => exact ⟨k + 1, by omega, by go_num, HR.out⟩
      case measure => simp [intOf]; omega
    · have h1 : k = l.length := by omega
      subst h1
      have HR : Hid (tickB C l = (chk C == 0)) := by
        show _ = _
        unfold tickB
        have := HK.out
        rw [List.take_length] at this
        rw [this, Bool.true_and]
      have x0 := HB.cell 0
      have x1 := HB.cell 1
      have x2 := HB.cell 2
      have x3 := HB.cell 3
      have x4 := HB.cell 4
      have x5 := HB.cell 5
      go_wp2_with fail
      refine HC.mono ?_
      rintro e w1 ⟨rfl, C1⟩
      clear x0 x1 x2 x3 x4 x5
      go_wp2_with fail
      go_ret
      exact ⟨ret_bool HR.out.symm, ((Chg.refl _ _).alloc _).trans C1⟩

/-- ticks at no tick, one, two. -/
theorem ticks_box {C : Cfg} {ap ac aw : Option Addr} {cp cc cw : Nat} (l : List Int) {w : World} (h : CfgAt w C ap ac aw cp cc cw) {g n : Nat} {t : TypeId} (hb : Box w g t (l.flatMap iCells).toArray) (hn : l.length = n) (hn2 : n ≤ 5) {v : Bool} (hv : tickB C l = v) :
    Calls Try.prog 24 #[.agg (cfgCells C ap ac aw cp cc cw), .slice (some ⟨g, 0, none⟩) n n] w fun e w' => e = .returned (.bool v) ∧ Chg w w' (fun _ => False) := by
  subst hv hn
  exact ticks_any l w h (hb.lst _ _ 1 _ rfl (by rw [flat_length iCells 1 (fun _ => rfl)]) (Nat.le_refl _) (by unfold maxLen; omega))
theorem ticks_none {C : Cfg} {ap ac aw : Option Addr} {cp cc cw : Nat} {w : World} (h : CfgAt w C ap ac aw cp cc cw) :
    Calls Try.prog 24 #[.agg (cfgCells C ap ac aw cp cc cw), .slice none 0 0] w fun e w' => e = .returned (.bool (chk C == 0)) ∧ Chg w w' (fun _ => False) := by
  have := ticks_any [] w h (Lst.none _ _)
  exact this

set_option maxHeartbeats 1000000 in
theorem find_any {C : Cfg} {ap ac aw : Option Addr} {cp cc cw : Nat} (w : World) (h : CfgAt w C ap ac aw cp cc cw) (hF : WFine C) (t : Int) (h0 : 0 ≤ t) (h1 : t ≤ 1099511627776) :
    Calls Try.prog 26 #[.agg (cfgCells C ap ac aw cp cc cw), .int .i64 t] w fun e w' => e = .returned (.tuple #[.int .i64 (findV C.wins (t % C.major)).1, .int .i64 (findV C.wins (t % C.major)).2]) ∧ Chg w w' (fun _ => False) := by
  have hm := hF.major
  obtain ⟨hm1, hm2⟩ := hm
  have hsw := hF.switch
  obtain ⟨hsw1, hsw2⟩ := hsw
  have hwl := hF.len
  have HE := Lib.hid hF.each
  have HB := Box.new w 26 (cfgCells C ap ac aw cp cc cw)
  have HA := h.keep ((Chg.refl w (fun _ => False)).alloc (.cells (cfgCells C ap ac aw cp cc cw) 26))
  have hu : t.tmod C.major = t % C.major := by rw [Int.tmod_eq_emod_of_nonneg h0]
  have hu0 : 0 ≤ t % C.major := Int.emod_nonneg _ (by omega)
  have hu1 : t % C.major < C.major := Int.emod_lt_of_pos _ (by omega)
  have hne : (C.major == 0) = false := beq_eq_false_iff_ne.2 (by omega)
  obtain ⟨u, hue⟩ : ∃ u, t % C.major = u := ⟨_, rfl⟩
  rw [hue] at hu0 hu1 hu ⊢
  have HU := Lib.hid hue
  clear hue hF
  unfold cfgCells at *
  have x1 := HB.cell 1
  have x5 := HB.cell 5
  go_enter Try.func26, Try.ntmps26
  go_wp2_with fail
  go_loopg [16] C.wins.length (fun g i wr => ∃ k : Nat, g + k = C.wins.length ∧ i = .int .i64 k ∧ Hid (findV C.wins u = findV (C.wins.drop k) u) ∧ Chg (w.alloc (.cells #[.int .i64 C.pages, .int .i64 C.major, .int .i64 C.switch, .slice ap C.parts.length cp, .slice ac C.chans.length cc, .slice aw C.wins.length cw] 26)) wr (fun _ => False))
  case atStart => exact ⟨0, rfl, rfl, rfl, Chg.refl _ _⟩
  case round =>
    obtain ⟨k, hk, rfl, HK, Ck⟩ := hrel
    have HKK := Lib.hid hk
    have hkl : k ≤ C.wins.length := by omega
    clear hk
    by_cases hlt : k < C.wins.length
    · obtain ⟨b, o, rfl⟩ := h.ws.pos (by omega)
      have hkk := HA.ws.chg Ck (fun _ _ h => h)
      have c0 := Lst.cell0 (n := 3) (fun _ => rfl) hkk k (by decide) hlt rfl
      have c1 := Lst.cell (n := 3) (fun _ => rfl) hkk k 1 (by decide) hlt rfl
      have c2 := Lst.cell (n := 3) (fun _ => rfl) hkk k 2 (by decide) hlt rfl
      have hx := HE.out _ (List.getElem_mem hlt)
      have hd := drop_cons C.wins k hlt
      obtain ⟨x, hxe⟩ : ∃ x, C.wins[k] = x := ⟨_, rfl⟩
      rw [hxe] at c0 c1 c2 hx hd
      obtain ⟨z1, z2, z3, z4, z5⟩ := hx
      have HK2 : Hid (findV C.wins u = if inW x u = true then (x.part, u - x.start) else findV (C.wins.drop (k + 1)) u) := by show _ = _; rw [HK.out, hd]; rfl
      clear hkk hxe hd HK
      have C2 := Ck.alloc (.cells #[.int .i64 x.start, .int .i64 x.len, .int .i64 x.part] 38)
      by_cases y1 : x.start ≤ u
      · have q1 : decide (x.start ≤ u) = true := decide_eq_true y1
        by_cases y2 : u < x.start + x.len
        · have q2 : decide (u < x.start + x.len) = true := decide_eq_true y2
          have HR : Hid (findV C.wins u = (x.part, u - x.start)) := by show _ = _; rw [HK2.out, if_pos (by unfold inW; rw [q1, q2]; rfl)]
          clear y1 y2
          go_wp2_with fail
          go_region
          all_goals
            go_wp2_with fail
            go_ret2
            exact ⟨ret2_ii (by rw [HR.out]) (by rw [HR.out]), (((Chg.refl _ _).alloc _).trans C2).drew⟩
        · have q2 : decide (u < x.start + x.len) = false := decide_eq_false y2
          have HR : Hid (findV C.wins u = findV (C.wins.drop (k + 1)) u) := by show _ = _; rw [HK2.out, if_neg (by unfold inW; rw [q2]; simp)]
          clear y1 y2
          go_wp2_with fail
          go_roundg (gk - 1)
          case measure => have := HKK.out; omega
          case rel => exact ⟨k + 1, by have := HKK.out; omega, by go_num, HR.out, C2⟩
      · have q1 : decide (x.start ≤ u) = false := decide_eq_false y1
        have HR : Hid (findV C.wins u = findV (C.wins.drop (k + 1)) u) := by show _ = _; rw [HK2.out, if_neg (by unfold inW; rw [q1]; simp)]
        clear y1
        go_wp2_with fail
        go_roundg (gk - 1)
        case measure => have := HKK.out; omega
        case rel => exact ⟨k + 1, by have := HKK.out; omega, by go_num, HR.out, C2⟩
    · have h5 : k = C.wins.length := by omega
      subst h5
      have HR : Hid (findV C.wins u = (-1, 0)) := by show _ = _; rw [HK.out, List.drop_length]; rfl
      go_wp2_with fail
      go_ret2
      exact ⟨ret2_ii (by rw [HR.out]) (by rw [HR.out]), ((Chg.refl _ _).alloc _).trans Ck⟩

theorem tick_wf {C : Cfg} {l : List Int} (h : tickB C l = true) : WFine C ∧ chk C = 0 ∧ ∀ t ∈ l, 0 ≤ t ∧ t ≤ 1099511627776 := by
  unfold tickB at h
  rw [Bool.and_eq_true, List.all_eq_true] at h
  have h0 : chk C = 0 := beq_iff_eq.1 h.2
  refine ⟨wfine_of ?_, h0, fun t ht => of_decide_eq_true (h.1 t ht)⟩
  have h2 := h0
  unfold chk at h2
  cases h1 : winsOk C
  · exfalso
    rw [h1] at h2
    simp only [if_true] at h2
    repeat' split at h2
    all_goals exact absurd h2 (by decide)
  · rfl

set_option maxHeartbeats 1000000 in
theorem at_any {C : Cfg} {ap ac aw : Option Addr} {cp cc cw : Nat} (w : World) (h : CfgAt w C ap ac aw cp cc cw) (t : Int) :
    Calls Try.prog 14 #[.agg (cfgCells C ap ac aw cp cc cw), .int .i64 t] w fun e w' => e = .returned (.tuple #[.int .i64 (atV C t).1, .int .i64 (atV C t).2]) ∧ Chg w w' (fun _ => False) := by
  have HB := Box.new w 26 (cfgCells C ap ac aw cp cc cw)
  have HA := h.keep ((Chg.refl w (fun _ => False)).alloc (.cells (cfgCells C ap ac aw cp cc cw) 26))
  have HBT := Box.new (w.alloc (.cells (cfgCells C ap ac aw cp cc cw) 26)) 3 #[.int .i64 t]
  have HA2 := HA.keep ((Chg.refl _ (fun _ => False)).alloc (.cells #[.int .i64 t] 3))
  rw [show (w.alloc (.cells (cfgCells C ap ac aw cp cc cw) 26)).heap.size = w.heap.size + 1 by simp] at HBT
  obtain ⟨tb, htb⟩ : ∃ tb, tickB C [t] = tb := ⟨_, rfl⟩
  have HT := ticks_box (n := 1) [t] HA2 HBT rfl (by decide) htb
  have HV : Hid (atV C t = if tb = true then findV C.wins (t % C.major) else (-1, 0)) := by show _ = _; rw [← htb]; rfl
  have C2 : Chg w ((w.alloc (.cells (cfgCells C ap ac aw cp cc cw) 26)).alloc (.cells #[.int .i64 t] 3)) (fun _ => False) := ((Chg.refl _ _).alloc _).alloc _
  have HB2 := (HB.alloc (.cells #[.int .i64 t] 3))
  cases tb
  · have HR : Hid (atV C t = (-1, 0)) := HV.out
    clear htb
    unfold cfgCells at *
    go_enter Try.func14, Try.ntmps14
    go_wp2_with fail
    refine HT.mono ?_
    rintro e w1 ⟨rfl, C1⟩
    go_wp2_with fail
    go_ret2
    exact ⟨ret2_ii (by rw [HR.out]) (by rw [HR.out]), C2.trans C1⟩
  · obtain ⟨hF, _, hr⟩ := tick_wf htb
    have hr := hr t (by simp)
    have HFD := Lib.hid (fun w1 (c : Chg _ w1 (fun _ => False)) => find_any w1 (HA2.keep c) hF t hr.1 hr.2)
    have HR : Hid (atV C t = findV C.wins (t % C.major)) := HV.out
    clear htb hF hr
    unfold cfgCells at *
    go_enter Try.func14, Try.ntmps14
    go_wp2_with fail
    refine HT.mono ?_
    rintro e w1 ⟨rfl, C1⟩
    have B1 := HB2.chg C1 (fun h => h)
    have x0 := B1.cell 0
    have x1 := B1.cell 1
    have x2 := B1.cell 2
    have x3 := B1.cell 3
    have x4 := B1.cell 4
    have x5 := B1.cell 5
    go_wp2_with fail
    refine (HFD.out w1 C1).mono ?_
    rintro e w2 ⟨rfl, C3⟩
    clear x0 x1 x2 x3 x4 x5
    go_wp2_with fail
    go_ret2
    exact ⟨ret2_ii (by rw [HR.out]) (by rw [HR.out]), (C2.trans C1).trans C3⟩
end Go.Proofs.Ytmbdimcjpdofoaa

/- frames: Begin, First, Host, Guest, Owner; the reference's First, Host, Guest. -/
import Derived.Test.YtdhkbephofnfdaaCfgCheck
import Derived.Test.YtdhkbephofnfdaaOwn
import Derived.Deep.DeepCutAuto
namespace Go.Proofs.Ytdhkbephofnfdaa
open Go.RowKit

theorem chk_facts {C : Cfg} (h : chk C = 0) : wi C.pages 5 256 = true ∧ partsOk C = true ∧ memOk C = true ∧ chansOk C = true ∧ winsOk C = true := by
  unfold chk at h
  cases h1 : wi C.pages 5 256
  · rw [h1, if_pos rfl] at h; exact absurd h (by decide)
  rw [h1, if_neg (by decide)] at h
  cases h2 : partsOk C
  · rw [h2, if_pos rfl] at h; exact absurd h (by decide)
  rw [h2, if_neg (by decide)] at h
  cases h3 : memOk C
  · rw [h3, if_pos rfl] at h; exact absurd h (by decide)
  rw [h3, if_neg (by decide)] at h
  cases h4 : chansOk C
  · rw [h4, if_pos rfl] at h; exact absurd h (by decide)
  rw [h4, if_neg (by decide)] at h
  cases h5 : winsOk C
  · rw [h5, if_pos rfl] at h; exact absurd h (by decide)
  exact ⟨rfl, rfl, rfl, rfl, rfl⟩

/-- What a configuration that may be has. -/
structure Fine (C : Cfg) : Prop where
  pages : 5 ≤ C.pages ∧ C.pages ≤ 256
  len : 1 ≤ C.parts.length ∧ C.parts.length ≤ 8
  each : ∀ p ∈ C.parts, 1 ≤ p.pages ∧ p.pages ≤ 64
  action : ∀ p ∈ C.parts, 0 ≤ p.action ∧ p.action ≤ 1
  sum : psum C.parts C.parts.length ≤ C.pages - 4
theorem fine_of {C : Cfg} (h : chk C = 0) : Fine C := by
  obtain ⟨h1, h2, h3, _, _⟩ := chk_facts h
  have hp := wi_true h1
  unfold partsOk at h2
  rw [Bool.and_eq_true] at h2
  have hl := wi_true h2.1
  unfold memOk at h3
  rw [Bool.and_eq_true, List.all_eq_true] at h3
  refine ⟨hp, by omega, fun p hm => wi_true (h3.1 p hm), fun p hm => ?_, by rw [psum_all]; exact of_decide_eq_true h3.2⟩
  obtain ⟨k, hk, rfl⟩ := List.getElem_of_mem hm
  have := List.all_eq_true.1 h2.2 k (List.mem_range.2 hk)
  rw [partOk_at _ _ hk] at this
  simp only [Bool.and_eq_true] at this
  exact wi_true this.1.2
theorem Fine.sumR {C : Cfg} (h : Fine C) (k : Nat) : 0 ≤ psum C.parts k ∧ psum C.parts k ≤ 512 := by
  have h1 : ∀ k, k ≤ C.parts.length → (C.parts.take k).all (fun p => wi p.pages 1 64) = true := fun k _ => by
    rw [List.all_eq_true]
    intro p hp
    exact decide_eq_true (h.each p (List.mem_of_mem_take hp))
  by_cases hk : k ≤ C.parts.length
  · have := psum_le C.parts k (h1 k hk)
    have := h.len
    omega
  · have e : psum C.parts k = psum C.parts C.parts.length := by
      unfold psum
      rw [List.take_of_length_le (by omega), List.take_length]
    have := psum_le C.parts C.parts.length (h1 _ (Nat.le_refl _))
    have := h.len
    omega

set_option maxHeartbeats 1000000 in
theorem begin_any {C : Cfg} {ap ac aw : Option Addr} {cp cc cw : Nat} (w : World) (h : CfgAt w C ap ac aw cp cc cw) (hF : Fine C) (k : Nat) (hk : k ≤ C.parts.length) :
    Calls Try.prog 48 #[.agg (cfgCells C ap ac aw cp cc cw), .int .i64 k] w fun e w' => e = .returned (.int .i64 (4 + psum C.parts k)) ∧ Chg w w' (fun _ => False) := by
  have hl := hF.len
  have HP := Lib.hid hF.sumR
  have HE := Lib.hid hF.each
  unfold cfgCells
  go_enter Try.func48, Try.ntmps48
  go_wp2_with fail
  go_loopw [5, 8] (fun n i wr => ∃ j : Nat, j ≤ k ∧ i = .int .i64 j ∧ n = .int .i64 (4 + psum C.parts j) ∧ Chg w wr (fun _ => False) ∧ Box wr w.heap.size 27 (cfgCells C ap ac aw cp cc cw)) (fun _ i _ => k - (intOf i).toNat)
  case atStart => exact ⟨0, by omega, rfl, rfl, (Chg.refl _ _).alloc _, Box.new _ _ _⟩
  case round =>
    obtain ⟨j, hj, rfl, rfl, Cj, Bj⟩ := hrel
    have hp := HP.out j
    obtain ⟨hp1, hp2⟩ := hp
    by_cases hlt : j < k
    · obtain ⟨b, o, rfl⟩ := h.ps.pos (by omega)
      have hkk := h.keep Cj
      have c1 := Lst.cell (n := 3) (fun _ => rfl) hkk.ps j 1 (by decide) (by omega) rfl
      have d3 : wr.cell? ⟨w.heap.size, 3, none⟩ = some (.slice (some ⟨b, o, none⟩) C.parts.length cp) := Bj.cell 3
      have hx := HE.out _ (List.getElem_mem (show j < C.parts.length by omega))
      have HS := Lib.hid (psum_succ C.parts j (by omega))
      obtain ⟨x, hxe⟩ : ∃ x, C.parts[j]'(by omega) = x := ⟨_, rfl⟩
      rw [hxe] at c1 HS hx
      obtain ⟨hx1, hx2⟩ := hx
      clear hkk hxe
      go_wp2_with fail
      go_roundw
      case rel => exact ⟨j + 1, by omega, by go_num, by rw [HS.out]; exact int_eq (by omega), Cj, Bj⟩
      case measure => simp [intOf]; omega
    · have h1 : j = k := by omega
      subst h1
      go_wp2_with fail
      go_ret
      exact ⟨rfl, Cj⟩

def firstV (C : Cfg) (p : Int) : Int := if p < 0 ∨ (C.parts.length : Int) ≤ p ∨ chk C ≠ 0 then -1 else 4 + psum C.parts p.toNat

set_option maxHeartbeats 1000000 in
theorem first_any {C : Cfg} {ap ac aw : Option Addr} {cp cc cw : Nat} (w : World) (h : CfgAt w C ap ac aw cp cc cw) (p : Int) :
    Calls Try.prog 25 #[.agg (cfgCells C ap ac aw cp cc cw), .int .i64 p] w fun e w' => e = .returned (.int .i64 (firstV C p)) ∧ Chg w w' (fun _ => False) := by
  have hm1 := h.ps.mx
  have hm2 := h.ps.le
  unfold maxLen at hm1
  have HB := Box.new w 27 (cfgCells C ap ac aw cp cc cw)
  have HA := h.keep ((Chg.refl w (fun _ => False)).alloc (.cells (cfgCells C ap ac aw cp cc cw) 27))
  by_cases h1 : p < 0
  · have HR : Hid (firstV C p = -1) := by show _ = _; unfold firstV; rw [if_pos (.inl h1)]
    have q1 : decide (p < 0) = true := decide_eq_true h1
    unfold cfgCells
    go_enter Try.func25, Try.ntmps25
    go_wp2_with fail
    go_ret
    exact ⟨ret_int HR.out.symm, (Chg.refl _ _).alloc _⟩
  have q1 : decide (p < 0) = false := decide_eq_false h1
  by_cases h2 : (C.parts.length : Int) ≤ p
  · have HR : Hid (firstV C p = -1) := by show _ = _; unfold firstV; rw [if_pos (.inr (.inl h2))]
    have q2 : decide ((C.parts.length : Int) ≤ p) = true := decide_eq_true h2
    unfold cfgCells
    go_enter Try.func25, Try.ntmps25
    go_wp2_with fail
    go_ret
    exact ⟨ret_int HR.out.symm, (Chg.refl _ _).alloc _⟩
  have q2 : decide ((C.parts.length : Int) ≤ p) = false := decide_eq_false h2
  have HC := check_any _ HA
  by_cases h3 : chk C = 0
  · have hF := fine_of h3
    obtain ⟨k, rfl⟩ := Int.eq_ofNat_of_zero_le (show 0 ≤ p by omega)
    have HR : Hid (firstV C k = 4 + psum C.parts k) := by show _ = _; unfold firstV; rw [if_neg (by rintro (h | h | h) <;> first | exact absurd h (by omega) | exact h h3)]; rfl
    have HBG := fun w' C' => begin_any w' (HA.keep (w' := w') C') hF k (by omega)
    rw [h3] at HC
    clear h3 hF
    unfold cfgCells at *
    go_enter Try.func25, Try.ntmps25
    go_wp2_with fail
    refine HC.mono ?_
    rintro e w1 ⟨rfl, C1⟩
    have B1 := HB.chg C1 (fun h => h)
    have x0 := B1.cell 0
    have x1 := B1.cell 1
    have x2 := B1.cell 2
    have x3 := B1.cell 3
    have x4 := B1.cell 4
    have x5 := B1.cell 5
    go_wp2_with fail
    refine (HBG _ C1).mono ?_
    rintro e w2 ⟨rfl, C2⟩
    go_wp2_with fail
    go_ret
    exact ⟨ret_int HR.out.symm, (((Chg.refl _ _).alloc _).trans C1).trans C2⟩
  · have HR : Hid (firstV C p = -1) := by show _ = _; unfold firstV; rw [if_pos (.inr (.inr h3))]
    have q3 : (chk C != 0) = true := bne_iff_ne.2 h3
    unfold cfgCells at *
    go_enter Try.func25, Try.ntmps25
    go_wp2_with fail
    refine HC.mono ?_
    rintro e w1 ⟨rfl, C1⟩
    go_wp2_with fail
    go_ret
    exact ⟨ret_int HR.out.symm, ((Chg.refl _ _).alloc _).trans C1⟩

def hostV (C : Cfg) (p fr : Int) : Int × Bool := if firstV C p < 0 ∨ fr < 0 then (0, false) else match C.parts[p.toNat]? with
  | some x => if x.pages ≤ fr then (0, false) else (firstV C p + fr, true)
  | none => (0, false)

theorem firstV_yes {C : Cfg} {p : Int} (h : ¬ firstV C p < 0) : ∃ k : Nat, p = k ∧ k < C.parts.length ∧ chk C = 0 ∧ firstV C p = 4 + psum C.parts k := by
  unfold firstV at h
  split at h
  · exact absurd (by decide : (-1 : Int) < 0) h
  · rename_i h2
    have h3 : chk C = 0 := Decidable.byContradiction fun h => h2 (.inr (.inr h))
    obtain ⟨k, rfl⟩ := Int.eq_ofNat_of_zero_le (show 0 ≤ p by omega)
    exact ⟨k, rfl, by omega, h3, by unfold firstV; rw [if_neg h2]; rfl⟩
theorem ret2_ib {a c : Int} {b d : Bool} (h : a = c) (k : b = d) : Ending.returned (.tuple #[.int .i64 a, .bool b]) = .returned (.tuple #[.int .i64 c, .bool d]) := by rw [h, k]
theorem ret2_ii {a b c d : Int} (h : a = c) (k : b = d) : Ending.returned (.tuple #[.int .i64 a, .int .i64 b]) = .returned (.tuple #[.int .i64 c, .int .i64 d]) := by rw [h, k]

set_option maxHeartbeats 1000000 in
theorem host2_any {C : Cfg} {ap ac aw : Option Addr} {cp cc cw : Nat} (w : World) (h : CfgAt w C ap ac aw cp cc cw) (p fr : Int) :
    Calls Try.prog 21 #[.agg (cfgCells C ap ac aw cp cc cw), .int .i64 p, .int .i64 fr] w fun e w' => e = .returned (.tuple #[.int .i64 (hostV C p fr).1, .bool (hostV C p fr).2]) ∧ Chg w w' (fun _ => False) := by
  have hm1 := h.ps.mx
  have hm2 := h.ps.le
  unfold maxLen at hm1
  have HB := Box.new w 27 (cfgCells C ap ac aw cp cc cw)
  have HA := h.keep ((Chg.refl w (fun _ => False)).alloc (.cells (cfgCells C ap ac aw cp cc cw) 27))
  have HC := first_any _ HA p
  have hz : w.heap.size < (w.alloc (.cells (cfgCells C ap ac aw cp cc cw) 27)).heap.size := by simp
  by_cases h1 : firstV C p < 0
  · have HR : Hid (hostV C p fr = (0, false)) := by show _ = _; unfold hostV; rw [if_pos (.inl h1)]
    have q1 : decide (firstV C p < 0) = true := decide_eq_true h1
    unfold cfgCells at *
    go_enter Try.func21, Try.ntmps21
    go_wp2_with fail
    refine HC.mono ?_
    rintro e w1 ⟨rfl, C1⟩
    go_wp2_with fail
    go_ret2
    exact ⟨ret2_ib (by rw [HR.out]) (by rw [HR.out]), ((Chg.refl _ _).alloc _).trans C1⟩
  obtain ⟨k, rfl, hk, h0, hf⟩ := firstV_yes h1
  have hF := fine_of h0
  have hs := hF.sumR k
  have hp := hF.each _ (List.getElem_mem hk)
  have q1 : decide (firstV C k < 0) = false := decide_eq_false h1
  have hfr : 0 ≤ firstV C k ∧ firstV C k ≤ 1000 := by omega
  have HV : Hid (hostV C k fr = if fr < 0 then (0, false) else if C.parts[k].pages ≤ fr then (0, false) else (firstV C k + fr, true)) := by
    show _ = _
    unfold hostV
    rw [show ((k : Int)).toNat = k from rfl, List.getElem?_eq_getElem hk]
    by_cases h2 : fr < 0
    · rw [if_pos (.inr h2), if_pos h2]
    · rw [if_neg (by omega), if_neg h2]
  obtain ⟨fv, hfv⟩ : ∃ fv, firstV C k = fv := ⟨_, rfl⟩
  rw [hfv] at HC q1 hfr HV
  obtain ⟨hf1, hf2⟩ := hfr
  clear h1 hf h0 hF hs hfv
  by_cases h2 : fr < 0
  · have HR : Hid (hostV C k fr = (0, false)) := by show _ = _; rw [HV.out, if_pos h2]
    have q2 : decide (fr < 0) = true := decide_eq_true h2
    unfold cfgCells at *
    go_enter Try.func21, Try.ntmps21
    go_wp2_with fail
    refine HC.mono ?_
    rintro e w1 ⟨rfl, C1⟩
    go_wp2_with fail
    go_ret2
    exact ⟨ret2_ib (by rw [HR.out]) (by rw [HR.out]), ((Chg.refl _ _).alloc _).trans C1⟩
  have q2 : decide (fr < 0) = false := decide_eq_false h2
  obtain ⟨b, o, rfl⟩ := h.ps.pos (by omega)
  have HCL := Lib.hid (fun w1 (c : Chg _ w1 (fun _ => False)) => Lst.cell (n := 3) (fun _ => rfl) (HA.ps.chg c (fun _ _ h => h)) k 1 (by decide) hk rfl)
  obtain ⟨x, hx⟩ : ∃ x, C.parts[k].pages = x := ⟨_, rfl⟩
  rw [hx] at HCL HV hp
  obtain ⟨hp1, hp2⟩ := hp
  clear hx
  have hk0 : (0 : Int) ≤ (k : Int) := by omega
  by_cases h3 : x ≤ fr
  · have HR : Hid (hostV C k fr = (0, false)) := by show _ = _; rw [HV.out, if_neg h2, if_pos h3]
    have q3 : decide (x ≤ fr) = true := decide_eq_true h3
    unfold cfgCells at *
    go_enter Try.func21, Try.ntmps21
    go_wp2_with fail
    refine HC.mono ?_
    rintro e w1 ⟨rfl, C1⟩
    have c1 := HCL.out w1 C1
    have x3 := (HB.chg C1 (fun h => h)).cell 3
    go_wp2_with fail
    go_ret2
    exact ⟨ret2_ib (by rw [HR.out]) (by rw [HR.out]), ((Chg.refl _ _).alloc _).trans C1⟩
  · have HR : Hid (hostV C k fr = (fv + fr, true)) := by show _ = _; rw [HV.out, if_neg h2, if_neg h3]
    have q3 : decide (x ≤ fr) = false := decide_eq_false h3
    unfold cfgCells at *
    go_enter Try.func21, Try.ntmps21
    go_wp2_with fail
    refine HC.mono ?_
    rintro e w1 ⟨rfl, C1⟩
    have c1 := HCL.out w1 C1
    have x3 := (HB.chg C1 (fun h => h)).cell 3
    go_wp2_with fail
    go_ret2
    exact ⟨ret2_ib (by rw [HR.out]) (by rw [HR.out]), ((Chg.refl _ _).alloc _).trans C1⟩

/-- Whose the n-th frame behind the i-th partition's first one is. -/
def guestGo : List PartD → Nat → Int → Int × Int
  | [], _, _ => (-2, -1)
  | p :: r, i, n => if n < p.pages then (i, n) else guestGo r (i + 1) (n - p.pages)
def guestV (C : Cfg) (fr : Int) : Int × Int := if chk C ≠ 0 ∨ fr < 0 ∨ C.pages ≤ fr then (-3, -1) else if fr < 4 then (-1, -1) else guestGo C.parts 0 (fr - 4)

set_option maxHeartbeats 2000000 in
theorem guest_any {C : Cfg} {ap ac aw : Option Addr} {cp cc cw : Nat} (w : World) (h : CfgAt w C ap ac aw cp cc cw) (fr : Int) :
    Calls Try.prog 23 #[.agg (cfgCells C ap ac aw cp cc cw), .int .i64 fr] w fun e w' => e = .returned (.tuple #[.int .i64 (guestV C fr).1, .int .i64 (guestV C fr).2]) ∧ Chg w w' (fun _ => False) := by
  have hm1 := h.ps.mx
  have hm2 := h.ps.le
  unfold maxLen at hm1
  have HB := Box.new w 27 (cfgCells C ap ac aw cp cc cw)
  have HA := h.keep ((Chg.refl w (fun _ => False)).alloc (.cells (cfgCells C ap ac aw cp cc cw) 27))
  have HC := check_any _ HA
  by_cases h1 : chk C = 0
  case neg =>
    have HR : Hid (guestV C fr = (-3, -1)) := by show _ = _; unfold guestV; rw [if_pos (.inl h1)]
    have q1 : (chk C != 0) = true := bne_iff_ne.2 h1
    unfold cfgCells at *
    go_enter Try.func23, Try.ntmps23
    go_wp2_with fail
    refine HC.mono ?_
    rintro e w1 ⟨rfl, C1⟩
    go_wp2_with fail
    go_ret2
    exact ⟨ret2_ii (by rw [HR.out]) (by rw [HR.out]), ((Chg.refl _ _).alloc _).trans C1⟩
  have hF := fine_of h1
  have HV : Hid (guestV C fr = if fr < 0 ∨ C.pages ≤ fr then (-3, -1) else if fr < 4 then (-1, -1) else guestGo C.parts 0 (fr - 4)) := by
    show _ = _
    unfold guestV
    by_cases h2 : fr < 0 ∨ C.pages ≤ fr
    · rw [if_pos (.inr h2), if_pos h2]
    · rw [if_neg (by rintro (h | h); exact h h1; exact h2 h), if_neg h2]
  rw [h1] at HC
  have hpg := hF.pages
  obtain ⟨hpg1, hpg2⟩ := hpg
  by_cases h2 : fr < 0
  · have HR : Hid (guestV C fr = (-3, -1)) := by show _ = _; rw [HV.out, if_pos (.inl h2)]
    have q2 : decide (fr < 0) = true := decide_eq_true h2
    clear h1
    unfold cfgCells at *
    go_enter Try.func23, Try.ntmps23
    go_wp2_with fail
    refine HC.mono ?_
    rintro e w1 ⟨rfl, C1⟩
    go_wp2_with fail
    go_ret2
    exact ⟨ret2_ii (by rw [HR.out]) (by rw [HR.out]), ((Chg.refl _ _).alloc _).trans C1⟩
  have q2 : decide (fr < 0) = false := decide_eq_false h2
  by_cases h3 : C.pages ≤ fr
  · have HR : Hid (guestV C fr = (-3, -1)) := by show _ = _; rw [HV.out, if_pos (.inr h3)]
    have q3 : decide (C.pages ≤ fr) = true := decide_eq_true h3
    clear h1
    unfold cfgCells at *
    go_enter Try.func23, Try.ntmps23
    go_wp2_with fail
    refine HC.mono ?_
    rintro e w1 ⟨rfl, C1⟩
    have x0 := (HB.chg C1 (fun h => h)).cell 0
    go_wp2_with fail
    go_ret2
    exact ⟨ret2_ii (by rw [HR.out]) (by rw [HR.out]), ((Chg.refl _ _).alloc _).trans C1⟩
  have q3 : decide (C.pages ≤ fr) = false := decide_eq_false h3
  by_cases h4 : fr < 4
  · have HR : Hid (guestV C fr = (-1, -1)) := by show _ = _; rw [HV.out, if_neg (by omega), if_pos h4]
    have q4 : decide (fr < 4) = true := decide_eq_true h4
    clear h1
    unfold cfgCells at *
    go_enter Try.func23, Try.ntmps23
    go_wp2_with fail
    refine HC.mono ?_
    rintro e w1 ⟨rfl, C1⟩
    have x0 := (HB.chg C1 (fun h => h)).cell 0
    go_wp2_with fail
    go_ret2
    exact ⟨ret2_ii (by rw [HR.out]) (by rw [HR.out]), ((Chg.refl _ _).alloc _).trans C1⟩
  have q4 : decide (fr < 4) = false := decide_eq_false h4
  have HR : Hid (guestV C fr = guestGo C.parts 0 (fr - 4)) := by show _ = _; rw [HV.out, if_neg (by omega), if_neg h4]
  have HBG := Lib.hid (fun w' k hk (c : Chg _ w' (fun _ => False)) => begin_any w' (HA.keep (w' := w') c) hF k hk)
  have HFF := Lib.hid hF
  clear h1 HV hF
  unfold cfgCells at *
  go_enter Try.func23, Try.ntmps23
  go_wp2_with fail
  refine HC.mono ?_
  rintro e w1 ⟨rfl, C1⟩
  have B1 := HB.chg C1 (fun h => h)
  have x0 := B1.cell 0
  have x3 := B1.cell 3
  go_wp2_with fail
  clear HC q2 q3 q4
  go_loopw [27] (fun i wr => ∃ k : Nat, k ≤ C.parts.length ∧ i = .int .i64 k ∧ 4 + psum C.parts k ≤ fr ∧ Hid (guestV C fr = guestGo (C.parts.drop k) k (fr - 4 - psum C.parts k)) ∧ Chg (w.alloc (.cells #[.int .i64 C.pages, .int .i64 C.major, .int .i64 C.switch, .slice ap C.parts.length cp, .slice ac C.chans.length cc, .slice aw C.wins.length cw] 27)) wr (fun _ => False)) (fun i _ => C.parts.length - (intOf i).toNat)
  case atStart => exact ⟨0, by omega, rfl, by simp [psum]; omega, by show _ = _; rw [HR.out]; simp [psum], C1⟩
  case round =>
    obtain ⟨k, hk, rfl, hle, HG, Ck⟩ := hrel
    have Bk := HB.chg Ck (fun h => h)
    have hzz := Bk.lt
    have x0 := Bk.cell 0
    have x1 := Bk.cell 1
    have x2 := Bk.cell 2
    have x3 := Bk.cell 3
    have x4 := Bk.cell 4
    have x5 := Bk.cell 5
    by_cases hlt : k < C.parts.length
    · obtain ⟨b, o, rfl⟩ := h.ps.pos (by omega)
      have hkk := HA.ps.chg Ck (fun _ _ h => h)
      have c0 := Lst.cell0 (n := 3) (fun _ => rfl) hkk k (by decide) hlt rfl
      have c1 := Lst.cell (n := 3) (fun _ => rfl) hkk k 1 (by decide) hlt rfl
      have c2 := Lst.cell (n := 3) (fun _ => rfl) hkk k 2 (by decide) hlt rfl
      have hp := HFF.out.each _ (List.getElem_mem hlt)
      have hs := HFF.out.sumR k
      have HS := Lib.hid (psum_succ C.parts k hlt)
      have HD := Lib.hid (drop_cons C.parts k hlt)
      have HBK := HBG.out
      obtain ⟨x, hx⟩ : ∃ x, C.parts[k] = x := ⟨_, rfl⟩
      rw [hx] at c0 c1 c2 HS hp HD
      obtain ⟨hp1, hp2⟩ := hp
      have HG2 : Hid (guestV C fr = if fr - 4 - psum C.parts k < x.pages then ((k : Int), fr - 4 - psum C.parts k) else guestGo (C.parts.drop (k + 1)) (k + 1) (fr - 4 - psum C.parts k - x.pages)) := by
        show _ = _
        rw [HG.out, HD.out]
        rfl
      obtain ⟨ps, hps⟩ : ∃ ps, psum C.parts k = ps := ⟨_, rfl⟩
      obtain ⟨hs1, hs2⟩ := hs
      rw [hps] at hle hs1 hs2 HG2 HS
      have HPS := Lib.hid hps
      replace HBK := Lib.hid HBK
      clear hkk hx HG hps
      by_cases h5 : fr < 4 + ps + x.pages
      · have q5 : decide (fr < 4 + ps + x.pages) = true := decide_eq_true h5
        have q6 : decide (4 + ps ≤ fr) = true := decide_eq_true hle
        have HR2 : Hid (guestV C fr = ((k : Int), fr - (4 + ps))) := by show _ = _; rw [HG2.out, if_pos (by omega)]; rw [show fr - 4 - ps = fr - (4 + ps) by omega]
        clear h5
        go_wp2_with fail
        refine (HBK.out _ k hk (Ck.alloc _)).mono ?_
        rintro e w2 ⟨rfl, C2⟩
        rw [HPS.out]
        have C2' := (Ck.alloc _).trans C2
        have y1 := ((Box.new wr 30 #[.string x.name, .int .i64 x.pages, .int .i64 x.action]).chg C2 (fun h => h)).cell 1
        go_wp2_with fail
        go_ret2
        exact ⟨ret2_ii (by rw [HR2.out]) (by rw [HR2.out]), ((Chg.refl _ _).alloc _).trans C2'⟩
      · have q5 : decide (fr < 4 + ps + x.pages) = false := decide_eq_false h5
        have q6 : decide (4 + ps ≤ fr) = true := decide_eq_true hle
        have HR2 : Hid (guestV C fr = guestGo (C.parts.drop (k + 1)) (k + 1) (fr - 4 - psum C.parts (k + 1))) := by show _ = _; rw [HG2.out, if_neg (by omega), HS.out]; rw [show fr - 4 - ps - x.pages = fr - 4 - (ps + x.pages) by omega]
        have H5 := Lib.hid h5
        clear h5
        go_wp2_with fail
        refine (HBK.out _ k hk (Ck.alloc _)).mono ?_
        rintro e w2 ⟨rfl, C2⟩
        rw [HPS.out]
        have C2' := (Ck.alloc _).trans C2
        have y1 := ((Box.new wr 30 #[.string x.name, .int .i64 x.pages, .int .i64 x.action]).chg C2 (fun h => h)).cell 1
        go_wp2_with fail
        go_roundw
        case rel => exact ⟨k + 1, by omega, by go_num, by have := H5.out; rw [HS.out]; omega, HR2.out, C2'⟩
        case measure => simp [intOf]; omega
    · have h5 : k = C.parts.length := by omega
      subst h5
      have HR2 : Hid (guestV C fr = (-2, -1)) := by show _ = _; rw [HG.out, List.drop_length]; rfl
      go_wp2_with fail
      go_ret2
      exact ⟨ret2_ii (by rw [HR2.out]) (by rw [HR2.out]), ((Chg.refl _ _).alloc _).trans Ck⟩

theorem owner_any {C : Cfg} {ap ac aw : Option Addr} {cp cc cw : Nat} (w : World) (h : CfgAt w C ap ac aw cp cc cw) (fr : Int) :
    Calls Try.prog 27 #[.agg (cfgCells C ap ac aw cp cc cw), .int .i64 fr] w fun e w' => e = .returned (.int .i64 (guestV C fr).1) ∧ Chg w w' (fun _ => False) := by
  have HA := h.keep ((Chg.refl w (fun _ => False)).alloc (.cells (cfgCells C ap ac aw cp cc cw) 27))
  have HC := guest_any _ HA fr
  unfold cfgCells at *
  go_enter Try.func27, Try.ntmps27
  go_wp2_with fail
  refine HC.mono ?_
  rintro e w1 ⟨rfl, C1⟩
  go_wp2_with fail
  go_ret
  exact ⟨rfl, ((Chg.refl _ _).alloc _).trans C1⟩
end Go.Proofs.Ytdhkbephofnfdaa

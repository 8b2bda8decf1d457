/- trunnionref14.Check says what config.Check says. -/
import Derived.Test.YtiedfglkjkaefaaCfgCheck
namespace Go.Proofs.Ytiedfglkjkaefaa
open Go.RowKit

set_option maxHeartbeats 400000 in
theorem rname_any (s : ByteArray) (w : World) (hs : s.size ≤ 9223372036854775807) : Calls Try.prog 42 #[.string s] w fun e w' => e = .returned (.bool (nameOk s)) ∧ w = w' := by
  have he : s.toList = s.data.toList := ByteArray.toList_eq s
  obtain ⟨b0, hb0⟩ : ∃ b0, decide (s.size ≤ 20) = b0 := ⟨_, rfl⟩
  have hb1 : decide ((s.size : Int) ≤ 20) = b0 := by rw [← hb0]; simp; omega
  obtain ⟨z0, hz0⟩ : ∃ z0, s.toList.isEmpty = z0 := ⟨_, rfl⟩
  have HN : Hid (nameOk s = ((!z0) && (b0 && s.data.toList.all chB))) := by
    show nameOk s = _
    unfold nameOk
    rw [← hb0, ← hz0, he]
    cases h : s.data.toList with
    | nil =>
      have : s.size = 0 := by have h2 : s.size = s.data.toList.length := by simp
                              rw [h2, h]; rfl
      simp [this]
    | cons x l =>
      have : 0 < s.size := by have h2 : s.size = s.data.toList.length := by simp
                              rw [h2, h]; simp
      simp [this]
  clear he hb0
  go_enter Try.func42, Try.ntmps42
  go_wp2
  go_loop [3] (fun i => ∃ k : Nat, k ≤ s.size ∧ i = .int .i64 k ∧ Hid ((s.data.toList.take k).all chB = true)) (fun i => s.size - (intOf i).toNat)
  case atStart => exact ⟨0, by omega, rfl, rfl⟩
  case round =>
    obtain ⟨k, hk, rfl, HA⟩ := hrel
    by_cases hlt : k < s.size
    · have HT := Lib.hid (all_take_succ s k hlt)
      have HF : chB s[k] = false → Hid (nameOk s = false) := fun hc => by
        show _ = _
        rw [HN.out, all_false s.data.toList chB k (by simpa using hlt) hc]
        simp
      have HFF := Lib.hid HF
      clear hb1 hz0 HF
      have hr : ((s[k].toNat : Int) < 48) ∨ (48 ≤ (s[k].toNat : Int) ∧ (s[k].toNat : Int) ≤ 57) ∨ (57 < (s[k].toNat : Int) ∧ (s[k].toNat : Int) < 97) ∨ (97 ≤ (s[k].toNat : Int) ∧ (s[k].toNat : Int) ≤ 122) ∨ (122 < (s[k].toNat : Int)) := by omega
      rcases hr with r1 | ⟨r1, r2⟩ | ⟨r1, r2⟩ | ⟨r1, r2⟩ | r1
      · go_wp2
        go_ret
        exact ⟨ret_bool (HFF.out (decide_eq_false (by omega))).out.symm, rfl⟩
      · go_wp2
        go_round
        case rel => exact ⟨k + 1, by omega, by go_num, by show _ = _; rw [HT.out, HA.out, Bool.true_and]; exact decide_eq_true (by omega)⟩
        case measure => simp [intOf]; omega
      · have e1 : decide ((s[k].toNat : Int) ≤ 57) = false := decide_eq_false (by omega)
        go_wp2
        go_ret
        exact ⟨ret_bool (HFF.out (decide_eq_false (by omega))).out.symm, rfl⟩
      · go_wp2
        go_round
        case rel => exact ⟨k + 1, by omega, by go_num, by show _ = _; rw [HT.out, HA.out, Bool.true_and]; exact decide_eq_true (by omega)⟩
        case measure => simp [intOf]; omega
      · have e1 : decide ((s[k].toNat : Int) ≤ 57) = false := decide_eq_false (by omega)
        have e2 : decide ((s[k].toNat : Int) ≤ 122) = false := decide_eq_false (by omega)
        go_wp2
        go_ret
        exact ⟨ret_bool (HFF.out (decide_eq_false (by omega))).out.symm, rfl⟩
    · have h1 : k = s.size := by omega
      subst h1
      have HR : Hid (nameOk s = ((!z0) && b0)) := by
        show _ = _
        rw [HN.out]
        have := HA.out
        rw [List.take_of_length_le (by simp)] at this
        rw [this, Bool.and_true]
      cases z0
      · go_wp2
        go_ret
        exact ⟨ret_bool (by rw [HR.out]; simp), rfl⟩
      · go_wp2
        go_ret
        exact ⟨ret_bool (by rw [HR.out]; simp), rfl⟩

theorem chk_mem {C : Cfg} (hp : wi C.pages 5 256 = true) (h1 : partsOk C = true) (h : memOk C = false) : chk C = 11 := by
  unfold chk; rw [hp, h1, h]; rfl
theorem chk_chan {C : Cfg} (hp : wi C.pages 5 256 = true) (h1 : partsOk C = true) (h2 : memOk C = true) (h : chansOk C = false) : chk C = 13 := by
  unfold chk; rw [hp, h1, h2, h]; rfl
theorem chk_win {C : Cfg} (hp : wi C.pages 5 256 = true) (h1 : partsOk C = true) (h2 : memOk C = true) (h3 : chansOk C = true) (h : winsOk C = false) : chk C = 12 := by
  unfold chk; rw [hp, h1, h2, h3, h]; rfl
theorem chk_ok {C : Cfg} (hp : wi C.pages 5 256 = true) (h1 : partsOk C = true) (h2 : memOk C = true) (h3 : chansOk C = true) (h : winsOk C = true) : chk C = 0 := by
  unfold chk; rw [hp, h1, h2, h3, h]; rfl
theorem chk_part {C : Cfg} (hp : wi C.pages 5 256 = true) (h : partsOk C = false) : chk C = 10 := by
  unfold chk; rw [hp, h]; rfl
theorem chk_page {C : Cfg} (hp : wi C.pages 5 256 = false) : chk C = 11 := by
  unfold chk; rw [hp]; rfl

theorem chOk_true {np : Int} {x : ChanD} (h : chOk np x = true) : 0 ≤ x.kind ∧ x.kind ≤ 1 ∧ 0 ≤ x.src ∧ x.src < np ∧ 0 ≤ x.dst ∧ x.dst < np ∧ x.src ≠ x.dst ∧ 1 ≤ x.size ∧ x.size ≤ 64 ∧ 1 ≤ x.depth ∧ x.depth ≤ 16 ∧ (x.kind = 1 ∨ x.depth = 1) := by
  unfold chOk at h
  simp only [wi, Bool.and_eq_true, Bool.or_eq_true, decide_eq_true_eq, bne_iff_ne, beq_iff_eq] at h
  omega
theorem chOk_mk {np : Int} {x : ChanD} (h1 : 0 ≤ x.kind ∧ x.kind ≤ 1) (h2 : 0 ≤ x.src ∧ x.src < np) (h3 : 0 ≤ x.dst ∧ x.dst < np) (h4 : x.src ≠ x.dst) (h5 : 1 ≤ x.size ∧ x.size ≤ 64) (h6 : 1 ≤ x.depth ∧ x.depth ≤ 16) (h7 : x.kind = 1 ∨ x.depth = 1) : chOk np x = true := by
  unfold chOk
  simp only [wi, Bool.and_eq_true, Bool.or_eq_true, decide_eq_true_eq, bne_iff_ne, beq_iff_eq]
  omega

set_option maxRecDepth 100000 in
set_option maxHeartbeats 16000000 in
theorem rcheck_any {C : Cfg} {ap ac aw : Option Addr} {cp cc cw : Nat} (w : World) (h : CfgAt w C ap ac aw cp cc cw) :
    Calls Try.prog 21 #[.agg (cfgCells C ap ac aw cp cc cw)] w fun e w' => e = .returned (.int .i64 (chk C)) ∧ Chg w w' (fun _ => False) := by
  have hm1 := h.ps.mx
  have hm2 := h.ps.le
  have hm3 := h.cs.mx
  have hm4 := h.cs.le
  have hm5 := h.ws.mx
  have hm6 := h.ws.le
  unfold maxLen at hm1 hm3 hm5
  cases hp : wi C.pages 5 256
  · have HR := Lib.hid (chk_page hp)
    have hp' := wi_false hp
    clear hp
    by_cases q1 : C.pages < 5
    · have e1 : decide (C.pages < 5) = true := decide_eq_true q1
      clear hp'
      unfold cfgCells
      go_enter Try.func21, Try.ntmps21
      go_wp2_with fail
      go_ret
      exact ⟨ret_int HR.out.symm, (Chg.refl _ _).alloc _⟩
    · have e1 : decide (C.pages < 5) = false := decide_eq_false q1
      have e2 : decide (256 < C.pages) = true := decide_eq_true (by omega)
      clear hp'
      unfold cfgCells
      go_enter Try.func21, Try.ntmps21
      go_wp2_with fail
      go_ret
      exact ⟨ret_int HR.out.symm, (Chg.refl _ _).alloc _⟩
  have HP := Lib.hid hp
  obtain ⟨p1, p2⟩ := wi_true hp
  clear hp
  have e1 : decide (C.pages < 5) = false := decide_eq_false (by omega)
  have e2 : decide (256 < C.pages) = false := decide_eq_false (by omega)
  by_cases q1 : C.parts.length < 1
  · have HR : Hid (chk C = 10) := chk_part HP.out (by unfold partsOk; rw [show wi (C.parts.length : Int) 1 8 = false from decide_eq_false (by omega)]; rfl)
    have e3 : decide ((C.parts.length : Int) < 1) = true := decide_eq_true (by omega)
    unfold cfgCells
    go_enter Try.func21, Try.ntmps21
    go_wp2_with fail
    go_ret
    exact ⟨ret_int HR.out.symm, (Chg.refl _ _).alloc _⟩
  have e3 : decide ((C.parts.length : Int) < 1) = false := decide_eq_false (by omega)
  by_cases q2 : 8 < C.parts.length
  · have HR : Hid (chk C = 10) := chk_part HP.out (by unfold partsOk; rw [show wi (C.parts.length : Int) 1 8 = false from decide_eq_false (by omega)]; rfl)
    have e4 : decide (8 < (C.parts.length : Int)) = true := decide_eq_true (by omega)
    unfold cfgCells
    go_enter Try.func21, Try.ntmps21
    go_wp2_with fail
    go_ret
    exact ⟨ret_int HR.out.symm, (Chg.refl _ _).alloc _⟩
  have e4 : decide (8 < (C.parts.length : Int)) = false := decide_eq_false (by omega)
  have HL : Hid (wi (C.parts.length : Int) 1 8 = true) := decide_eq_true (by omega)
  unfold cfgCells
  go_enter Try.func21, Try.ntmps21
  go_wp2_with fail
  clear e1 e2 e3 e4
  go_loopw [3] (fun i wr => ∃ k : Nat, k ≤ C.parts.length ∧ i = .int .i64 k ∧ Hid (((List.range C.parts.length).take k).all (partOk C.parts) = true) ∧ Chg w wr (fun _ => False) ∧ Box wr w.heap.size 32 (cfgCells C ap ac aw cp cc cw)) (fun i _ => C.parts.length - (intOf i).toNat)
  case atStart => exact ⟨0, by omega, rfl, rfl, (Chg.refl _ _).alloc _, Box.new _ _ _⟩
  case round =>
    obtain ⟨k, hk, rfl, HA, Ck, Bk⟩ := hrel
    have d0 : wr.cell? ⟨w.heap.size, 0, none⟩ = some (.int .i64 C.pages) := Bk.cell 0
    have d3 : wr.cell? ⟨w.heap.size, 3, none⟩ = some (.slice ap C.parts.length cp) := Bk.cell 3
    have d4 : wr.cell? ⟨w.heap.size, 4, none⟩ = some (.slice ac C.chans.length cc) := Bk.cell 4
    by_cases hlt : k < C.parts.length
    · obtain ⟨b, o, rfl⟩ := h.ps.pos (by omega)
      have hkk := h.keep Ck
      have c0 := Lst.cell0 (n := 3) (fun _ => rfl) hkk.ps k (by decide) hlt rfl
      have c2 := Lst.cell (n := 3) (fun _ => rfl) hkk.ps k 2 (by decide) hlt rfl
      have hns : C.parts[k].name.size ≤ 9223372036854775807 := h.names _ (List.getElem_mem hlt)
      have HPK := Lib.hid (partOk_at C.parts k hlt)
      obtain ⟨x, hx⟩ : ∃ x, C.parts[k] = x := ⟨_, rfl⟩
      rw [hx] at c0 c2 hns HPK
      have hx0 := Lib.hid hx
      have HF : Hid (partOk C.parts k = false → chk C = 10) := fun hf => chk_part HP.out (by unfold partsOk; rw [range_all_false _ _ _ hlt hf, Bool.and_false])
      have HN := fun wx => rname_any x.name wx hns
      clear hx hkk
      cases hn0 : nameOk x.name
      · rw [hn0] at HN
        have HR : Hid (chk C = 10) := HF.out (by rw [HPK.out, hn0]; rfl)
        clear hn0
        go_wp2_with (go_at_call 42; refine (HN _).mono ?_; rintro e w' ⟨rfl, rfl⟩)
        go_ret
        exact ⟨ret_int HR.out.symm, Ck⟩
      rw [hn0] at HN
      by_cases a1 : x.action < 0
      · have HR : Hid (chk C = 10) := HF.out (by rw [HPK.out, show wi x.action 0 1 = false from decide_eq_false (by omega)]; simp)
        have f1 : decide (x.action < 0) = true := decide_eq_true a1
        clear hn0
        go_wp2_with (go_at_call 42; refine (HN _).mono ?_; rintro e w' ⟨rfl, rfl⟩)
        go_ret
        exact ⟨ret_int HR.out.symm, Ck⟩
      have f1 : decide (x.action < 0) = false := decide_eq_false a1
      by_cases a2 : 1 < x.action
      · have HR : Hid (chk C = 10) := HF.out (by rw [HPK.out, show wi x.action 0 1 = false from decide_eq_false (by omega)]; simp)
        have f2 : decide (1 < x.action) = true := decide_eq_true a2
        clear hn0
        go_wp2_with (go_at_call 42; refine (HN _).mono ?_; rintro e w' ⟨rfl, rfl⟩)
        go_ret
        exact ⟨ret_int HR.out.symm, Ck⟩
      have f2 : decide (1 < x.action) = false := decide_eq_false a2
      have HX : Hid (partOk C.parts k = nameNew ((C.parts.take k).drop 0) x.name) := by
        show _ = _
        rw [HPK.out, hn0, show wi x.action 0 1 = true from decide_eq_true (by omega)]
        simp
      obtain ⟨wo, hwo⟩ : ∃ wo, wo = wr := ⟨_, rfl⟩
      subst hwo
      clear hn0 HPK
      go_wp2_with (go_at_call 42; refine (HN _).mono ?_; rintro e w' ⟨rfl, rfl⟩)
      clear HN f1 f2
      go_loopw [5] (fun i wr => ∃ j : Nat, j ≤ k ∧ i = .int .i64 j ∧ Hid (partOk C.parts k = nameNew ((C.parts.take k).drop j) x.name) ∧ Chg w wr (fun _ => False) ∧ Box wr w.heap.size 32 (cfgCells C (some ⟨b, o, none⟩) ac aw cp cc cw)) (fun i _ => k - (intOf i).toNat)
      case atStart => exact ⟨0, by omega, rfl, HX, Ck, Bk⟩
      case round =>
        obtain ⟨j, hj, rfl, HJ, Cj, Bj⟩ := hrel
        have d3 : wr.cell? ⟨w.heap.size, 3, none⟩ = some (.slice (some ⟨b, o, none⟩) C.parts.length cp) := Bj.cell 3
        by_cases hlj : j < k
        · have hkj := h.keep Cj
          have c0 := Lst.cell0 (n := 3) (fun _ => rfl) hkj.ps j (by decide) (by omega) rfl
          have c1 := Lst.cell0 (n := 3) (fun _ => rfl) hkj.ps k (by decide) hlt rfl
          have hd := nameNew_drop C.parts k j x.name hlj (by omega)
          obtain ⟨y, hy⟩ : ∃ y, C.parts[j]'(by omega) = y := ⟨_, rfl⟩
          rw [hy] at c0 hd
          have c1' : wr.cell? ⟨b, o + k * 3, none⟩ = some (.string x.name) := by rw [c1, ← hx0.out]
          have hj0 : (0 : Int) ≤ (j : Int) := by omega
          have hj1 : (j : Int) < C.parts.length := by omega
          have hk0 : (0 : Int) ≤ (k : Int) := by omega
          have hk1 : (k : Int) < C.parts.length := by omega
          have HD := Lib.hid hd
          clear hkj hy hd c1
          cases hq : (y.name.toList == x.name.toList)
          · have hq' := hq
            have HR : Hid (partOk C.parts k = nameNew ((C.parts.take k).drop (j + 1)) x.name) := by show _ = _; rw [HJ.out, HD.out, hq]; rfl
            go_wp2_with fail
            go_quiet (fail)
            go_wp2_with fail
            go_roundw
            case rel => exact ⟨j + 1, by omega, by go_num, HR, Cj.drewN _, Bj.drewN _⟩
            case measure => simp [intOf]; omega
          · have HR : Hid (chk C = 10) := HF.out (by rw [HJ.out, HD.out, hq]; rfl)
            go_wp2_with fail
            go_quiet (fail)
            go_wp2_with fail
            go_ret
            exact ⟨ret_int HR.out.symm, Cj.drewN _⟩
        · have h1 : j = k := by omega
          subst h1
          have HR : Hid (partOk C.parts j = true) := by show _ = _; rw [HJ.out, List.drop_eq_nil_of_le (by simp; omega)]; rfl
          go_wp2_with fail
          go_roundw
          case rel => exact ⟨j + 1, by omega, by go_num, range_all_succ _ _ _ hlt HA.out HR.out, Cj, Bj⟩
          case measure => simp [intOf]; omega
    · have h1 : k = C.parts.length := by omega
      subst h1
      have HO : Hid (partsOk C = true) := by
        show _ = _
        unfold partsOk
        have := HA.out
        rw [List.take_of_length_le (by simp)] at this
        rw [HL.out, this]
        rfl
      clear HA
      go_wp2_with fail
      go_loopw [6, 7] (fun s i wr => ∃ k : Nat, k ≤ C.parts.length ∧ i = .int .i64 k ∧ s = .int .i64 (psum C.parts k) ∧ Hid ((C.parts.take k).all (fun p => wi p.pages 1 64) = true) ∧ Chg w wr (fun _ => False) ∧ Box wr w.heap.size 32 (cfgCells C ap ac aw cp cc cw)) (fun _ i _ => C.parts.length - (intOf i).toNat)
      case atStart => exact ⟨0, by omega, rfl, rfl, rfl, Ck, Bk⟩
      case round =>
        obtain ⟨k, hk, rfl, rfl, HA, Ck, Bk⟩ := hrel
        have d0 : wr.cell? ⟨w.heap.size, 0, none⟩ = some (.int .i64 C.pages) := Bk.cell 0
        have d3 : wr.cell? ⟨w.heap.size, 3, none⟩ = some (.slice ap C.parts.length cp) := Bk.cell 3
        have d4 : wr.cell? ⟨w.heap.size, 4, none⟩ = some (.slice ac C.chans.length cc) := Bk.cell 4
        have hps := psum_le C.parts k HA.out
        by_cases hlt : k < C.parts.length
        · obtain ⟨b, o, rfl⟩ := h.ps.pos (by omega)
          have hkk := h.keep Ck
          have c1 := Lst.cell (n := 3) (fun _ => rfl) hkk.ps k 1 (by decide) hlt rfl
          have HS := Lib.hid (psum_succ C.parts k hlt)
          have hps1 : 0 ≤ psum C.parts k := hps.1
          have hps2 : psum C.parts k ≤ 512 := by omega
          have HF : Hid (wi C.parts[k].pages 1 64 = false → chk C = 11) := fun hf => chk_mem HP.out HO.out (by unfold memOk; rw [all_false C.parts (fun p => wi p.pages 1 64) k hlt hf]; rfl)
          have HT : Hid (wi C.parts[k].pages 1 64 = true → (C.parts.take (k + 1)).all (fun p => wi p.pages 1 64) = true) := fun hf => all_succ C.parts _ k hlt HA.out hf
          obtain ⟨x, hx⟩ : ∃ x, C.parts[k].pages = x := ⟨_, rfl⟩
          have c1' : wr.cell? ⟨b, o + k * 3 + 1, none⟩ = some (.int .i64 x) := by rw [← hx]; exact c1
          rw [hx] at HS HF HT
          clear hkk hx hps c1
          by_cases a1 : x < 1
          · have HR : Hid (chk C = 11) := HF.out (decide_eq_false (by omega))
            have f1 : decide (x < 1) = true := decide_eq_true a1
            go_wp2_with fail
            go_ret
            exact ⟨ret_int HR.out.symm, Ck⟩
          by_cases a2 : 64 < x
          · have HR : Hid (chk C = 11) := HF.out (decide_eq_false (by omega))
            have f1 : decide (x < 1) = false := decide_eq_false a1
            have f2 : decide (64 < x) = true := decide_eq_true a2
            go_wp2_with fail
            go_ret
            exact ⟨ret_int HR.out.symm, Ck⟩
          have f1 : decide (x < 1) = false := decide_eq_false a1
          have f2 : decide (64 < x) = false := decide_eq_false a2
          go_wp2_with fail
          go_roundw
          case rel => exact ⟨k + 1, by omega, by go_num, by rw [HS.out], HT.out (decide_eq_true (by omega)), Ck, Bk⟩
          case measure => simp [intOf]; omega
        · have h1 : k = C.parts.length := by omega
          subst h1
          have hps1 : 0 ≤ psum C.parts C.parts.length := hps.1
          have hps2 : psum C.parts C.parts.length ≤ 512 := by omega
          have HM : Hid (memOk C = decide (psum C.parts C.parts.length ≤ C.pages - 4)) := by
            show _ = _
            unfold memOk
            have := HA.out
            rw [List.take_length] at this
            rw [this, psum_all, Bool.true_and]
          obtain ⟨x, hx⟩ : ∃ x, psum C.parts C.parts.length = x := ⟨_, rfl⟩
          rw [hx] at hps1 hps2 HM ⊢
          clear hx hps HA
          by_cases a1 : C.pages - 4 < x
          · have f1 : decide (C.pages - 4 < x) = true := decide_eq_true a1
            have HR : Hid (chk C = 11) := chk_mem HP.out HO.out (by rw [HM.out]; exact decide_eq_false (by omega))
            go_wp2_with fail
            go_ret
            exact ⟨ret_int HR.out.symm, Ck⟩
          have f1 : decide (C.pages - 4 < x) = false := decide_eq_false a1
          have HQ : Hid (memOk C = true) := by show _ = _; rw [HM.out]; exact decide_eq_true (by omega)
          by_cases a2 : 16 < C.chans.length
          · have f2 : decide (16 < (C.chans.length : Int)) = true := decide_eq_true (by omega)
            have HR : Hid (chk C = 13) := chk_chan HP.out HO.out HQ.out (by unfold chansOk; rw [show decide (C.chans.length ≤ 16) = false from decide_eq_false (by omega)]; rfl)
            go_wp2_with fail
            go_ret
            exact ⟨ret_int HR.out.symm, Ck⟩
          have f2 : decide (16 < (C.chans.length : Int)) = false := decide_eq_false (by omega)
          go_wp2_with fail
          clear f1 f2 a1 hps1 hps2
          go_loopw [8] (fun i wr => ∃ k : Nat, k ≤ C.chans.length ∧ i = .int .i64 k ∧ Hid ((C.chans.take k).all (chOk C.parts.length) = true) ∧ Chg w wr (fun _ => False) ∧ Box wr w.heap.size 32 (cfgCells C ap ac aw cp cc cw)) (fun i _ => C.chans.length - (intOf i).toNat)
          case atStart => exact ⟨0, by omega, rfl, rfl, Ck, Bk⟩
          case round =>
            obtain ⟨k, hk, rfl, HA, Ck, Bk⟩ := hrel
            have d1 : wr.cell? ⟨w.heap.size, 1, none⟩ = some (.int .i64 C.major) := Bk.cell 1
            have d2 : wr.cell? ⟨w.heap.size, 2, none⟩ = some (.int .i64 C.switch) := Bk.cell 2
            have d3 : wr.cell? ⟨w.heap.size, 3, none⟩ = some (.slice ap C.parts.length cp) := Bk.cell 3
            have d4 : wr.cell? ⟨w.heap.size, 4, none⟩ = some (.slice ac C.chans.length cc) := Bk.cell 4
            have d5 : wr.cell? ⟨w.heap.size, 5, none⟩ = some (.slice aw C.wins.length cw) := Bk.cell 5
            have hz := Bk.lt
            by_cases hlt : k < C.chans.length
            · obtain ⟨b, o, rfl⟩ := h.cs.pos (by omega)
              have hkk := h.keep Ck
              have c0 := Lst.cell0 (n := 5) (fun _ => rfl) hkk.cs k (by decide) hlt rfl
              have c1 := Lst.cell (n := 5) (fun _ => rfl) hkk.cs k 1 (by decide) hlt rfl
              have c2 := Lst.cell (n := 5) (fun _ => rfl) hkk.cs k 2 (by decide) hlt rfl
              have c3 := Lst.cell (n := 5) (fun _ => rfl) hkk.cs k 3 (by decide) hlt rfl
              have c4 := Lst.cell (n := 5) (fun _ => rfl) hkk.cs k 4 (by decide) hlt rfl
              have HF : Hid (chOk C.parts.length C.chans[k] = false → chk C = 13) := fun hf => chk_chan HP.out HO.out HQ.out (by unfold chansOk; rw [all_false C.chans (chOk C.parts.length) k hlt hf, Bool.and_false])
              have HT : Hid (chOk C.parts.length C.chans[k] = true → (C.chans.take (k + 1)).all (chOk C.parts.length) = true) := fun hf => all_succ C.chans _ k hlt HA.out hf
              obtain ⟨x, hx⟩ : ∃ x, C.chans[k] = x := ⟨_, rfl⟩
              rw [hx] at c0 c1 c2 c3 c4 HF HT
              clear hkk hx
              by_cases t1 : x.kind < 0
              · have gt1 : decide (x.kind < 0) = true := by first | exact decide_eq_true t1 | exact beq_iff_eq.2 t1 | exact bne_iff_ne.2 t1
                have HR : Hid (chk C = 13) := HF.out (by rw [Bool.eq_false_iff]; intro hh; have := chOk_true hh; omega)
                go_wp2_with fail
                go_ret
                exact ⟨ret_int HR.out.symm, Ck.alloc _⟩
              have gt1 : decide (x.kind < 0) = false := by first | exact decide_eq_false t1 | exact beq_eq_false_iff_ne.2 t1 | (rw [bne_eq_false_iff_eq]; omega)
              by_cases t2 : 1 < x.kind
              · have gt2 : decide (1 < x.kind) = true := by first | exact decide_eq_true t2 | exact beq_iff_eq.2 t2 | exact bne_iff_ne.2 t2
                have HR : Hid (chk C = 13) := HF.out (by rw [Bool.eq_false_iff]; intro hh; have := chOk_true hh; omega)
                go_wp2_with fail
                go_ret
                exact ⟨ret_int HR.out.symm, Ck.alloc _⟩
              have gt2 : decide (1 < x.kind) = false := by first | exact decide_eq_false t2 | exact beq_eq_false_iff_ne.2 t2 | (rw [bne_eq_false_iff_eq]; omega)
              by_cases t3 : x.src < 0
              · have gt3 : decide (x.src < 0) = true := by first | exact decide_eq_true t3 | exact beq_iff_eq.2 t3 | exact bne_iff_ne.2 t3
                have HR : Hid (chk C = 13) := HF.out (by rw [Bool.eq_false_iff]; intro hh; have := chOk_true hh; omega)
                go_wp2_with fail
                go_ret
                exact ⟨ret_int HR.out.symm, Ck.alloc _⟩
              have gt3 : decide (x.src < 0) = false := by first | exact decide_eq_false t3 | exact beq_eq_false_iff_ne.2 t3 | (rw [bne_eq_false_iff_eq]; omega)
              by_cases t4 : (C.parts.length : Int) ≤ x.src
              · have gt4 : decide ((C.parts.length : Int) ≤ x.src) = true := by first | exact decide_eq_true t4 | exact beq_iff_eq.2 t4 | exact bne_iff_ne.2 t4
                have HR : Hid (chk C = 13) := HF.out (by rw [Bool.eq_false_iff]; intro hh; have := chOk_true hh; omega)
                go_wp2_with fail
                go_ret
                exact ⟨ret_int HR.out.symm, Ck.alloc _⟩
              have gt4 : decide ((C.parts.length : Int) ≤ x.src) = false := by first | exact decide_eq_false t4 | exact beq_eq_false_iff_ne.2 t4 | (rw [bne_eq_false_iff_eq]; omega)
              by_cases t5 : x.dst < 0
              · have gt5 : decide (x.dst < 0) = true := by first | exact decide_eq_true t5 | exact beq_iff_eq.2 t5 | exact bne_iff_ne.2 t5
                have HR : Hid (chk C = 13) := HF.out (by rw [Bool.eq_false_iff]; intro hh; have := chOk_true hh; omega)
                go_wp2_with fail
                go_ret
                exact ⟨ret_int HR.out.symm, Ck.alloc _⟩
              have gt5 : decide (x.dst < 0) = false := by first | exact decide_eq_false t5 | exact beq_eq_false_iff_ne.2 t5 | (rw [bne_eq_false_iff_eq]; omega)
              by_cases t6 : (C.parts.length : Int) ≤ x.dst
              · have gt6 : decide ((C.parts.length : Int) ≤ x.dst) = true := by first | exact decide_eq_true t6 | exact beq_iff_eq.2 t6 | exact bne_iff_ne.2 t6
                have HR : Hid (chk C = 13) := HF.out (by rw [Bool.eq_false_iff]; intro hh; have := chOk_true hh; omega)
                go_wp2_with fail
                go_ret
                exact ⟨ret_int HR.out.symm, Ck.alloc _⟩
              have gt6 : decide ((C.parts.length : Int) ≤ x.dst) = false := by first | exact decide_eq_false t6 | exact beq_eq_false_iff_ne.2 t6 | (rw [bne_eq_false_iff_eq]; omega)
              by_cases t7 : x.src = x.dst
              · have gt7 : (x.src == x.dst) = true := by first | exact decide_eq_true t7 | exact beq_iff_eq.2 t7 | exact bne_iff_ne.2 t7
                have HR : Hid (chk C = 13) := HF.out (by rw [Bool.eq_false_iff]; intro hh; have := chOk_true hh; omega)
                go_wp2_with fail
                go_ret
                exact ⟨ret_int HR.out.symm, Ck.alloc _⟩
              have gt7 : (x.src == x.dst) = false := by first | exact decide_eq_false t7 | exact beq_eq_false_iff_ne.2 t7 | (rw [bne_eq_false_iff_eq]; omega)
              by_cases t8 : x.size < 1
              · have gt8 : decide (x.size < 1) = true := by first | exact decide_eq_true t8 | exact beq_iff_eq.2 t8 | exact bne_iff_ne.2 t8
                have HR : Hid (chk C = 13) := HF.out (by rw [Bool.eq_false_iff]; intro hh; have := chOk_true hh; omega)
                go_wp2_with fail
                go_ret
                exact ⟨ret_int HR.out.symm, Ck.alloc _⟩
              have gt8 : decide (x.size < 1) = false := by first | exact decide_eq_false t8 | exact beq_eq_false_iff_ne.2 t8 | (rw [bne_eq_false_iff_eq]; omega)
              by_cases t9 : 64 < x.size
              · have gt9 : decide (64 < x.size) = true := by first | exact decide_eq_true t9 | exact beq_iff_eq.2 t9 | exact bne_iff_ne.2 t9
                have HR : Hid (chk C = 13) := HF.out (by rw [Bool.eq_false_iff]; intro hh; have := chOk_true hh; omega)
                go_wp2_with fail
                go_ret
                exact ⟨ret_int HR.out.symm, Ck.alloc _⟩
              have gt9 : decide (64 < x.size) = false := by first | exact decide_eq_false t9 | exact beq_eq_false_iff_ne.2 t9 | (rw [bne_eq_false_iff_eq]; omega)
              by_cases t10 : x.depth < 1
              · have gt10 : decide (x.depth < 1) = true := by first | exact decide_eq_true t10 | exact beq_iff_eq.2 t10 | exact bne_iff_ne.2 t10
                have HR : Hid (chk C = 13) := HF.out (by rw [Bool.eq_false_iff]; intro hh; have := chOk_true hh; omega)
                go_wp2_with fail
                go_ret
                exact ⟨ret_int HR.out.symm, Ck.alloc _⟩
              have gt10 : decide (x.depth < 1) = false := by first | exact decide_eq_false t10 | exact beq_eq_false_iff_ne.2 t10 | (rw [bne_eq_false_iff_eq]; omega)
              by_cases t11 : 16 < x.depth
              · have gt11 : decide (16 < x.depth) = true := by first | exact decide_eq_true t11 | exact beq_iff_eq.2 t11 | exact bne_iff_ne.2 t11
                have HR : Hid (chk C = 13) := HF.out (by rw [Bool.eq_false_iff]; intro hh; have := chOk_true hh; omega)
                go_wp2_with fail
                go_ret
                exact ⟨ret_int HR.out.symm, Ck.alloc _⟩
              have gt11 : decide (16 < x.depth) = false := by first | exact decide_eq_false t11 | exact beq_eq_false_iff_ne.2 t11 | (rw [bne_eq_false_iff_eq]; omega)
              by_cases t12 : x.kind = 0
              · have gt12 : (x.kind == 0) = true := beq_iff_eq.2 t12
                by_cases t13 : x.depth ≠ 1
                · have gt13 : (x.depth != 1) = true := bne_iff_ne.2 t13
                  have HR : Hid (chk C = 13) := HF.out (by rw [Bool.eq_false_iff]; intro hh; have := chOk_true hh; omega)
                  go_wp2_with fail
                  go_ret
                  exact ⟨ret_int HR.out.symm, Ck.alloc _⟩
                · have gt13 : (x.depth != 1) = false := by rw [bne_eq_false_iff_eq]; omega
                  have HR := Lib.hid (HT.out (chOk_mk (by omega) (by omega) (by omega) (by omega) (by omega) (by omega) (by omega)))
                  go_wp2_with fail
                  go_roundw
                  case rel => exact ⟨k + 1, by omega, by go_num, HR.out, Ck.alloc _, Bk.alloc _⟩
                  case measure => simp [intOf]; omega
              · have gt12 : (x.kind == 0) = false := beq_eq_false_iff_ne.2 t12
                have HR := Lib.hid (HT.out (chOk_mk (by omega) (by omega) (by omega) (by omega) (by omega) (by omega) (by omega)))
                go_wp2_with fail
                go_roundw
                case rel => exact ⟨k + 1, by omega, by go_num, HR.out, Ck.alloc _, Bk.alloc _⟩
                case measure => simp [intOf]; omega
            · have h1 : k = C.chans.length := by omega
              subst h1
              have HC : Hid (chansOk C = true) := by
                show _ = _
                unfold chansOk
                have := HA.out
                rw [List.take_length] at this
                rw [this, show decide (C.chans.length ≤ 16) = true from decide_eq_true (by omega)]
                rfl
              clear HA
              by_cases s1 : C.major < 1
              · have gs1 : decide (C.major < 1) = true := by first | exact decide_eq_true s1 | exact beq_iff_eq.2 s1 | exact bne_iff_ne.2 s1
                have HR : Hid (chk C = 12) := chk_win HP.out HO.out HQ.out HC.out (by unfold winsOk; rw [show winBase C = false from by (unfold winBase; simp only [wi, Bool.and_eq_false_iff, decide_eq_false_iff_not]; omega)]; rfl)
                go_wp2_with fail
                go_ret
                exact ⟨ret_int HR.out.symm, Ck⟩
              have gs1 : decide (C.major < 1) = false := by first | exact decide_eq_false s1 | exact beq_eq_false_iff_ne.2 s1 | (rw [bne_eq_false_iff_eq]; omega)
              by_cases s2 : 100000 < C.major
              · have gs2 : decide (100000 < C.major) = true := by first | exact decide_eq_true s2 | exact beq_iff_eq.2 s2 | exact bne_iff_ne.2 s2
                have HR : Hid (chk C = 12) := chk_win HP.out HO.out HQ.out HC.out (by unfold winsOk; rw [show winBase C = false from by (unfold winBase; simp only [wi, Bool.and_eq_false_iff, decide_eq_false_iff_not]; omega)]; rfl)
                go_wp2_with fail
                go_ret
                exact ⟨ret_int HR.out.symm, Ck⟩
              have gs2 : decide (100000 < C.major) = false := by first | exact decide_eq_false s2 | exact beq_eq_false_iff_ne.2 s2 | (rw [bne_eq_false_iff_eq]; omega)
              by_cases s3 : C.switch < 0
              · have gs3 : decide (C.switch < 0) = true := by first | exact decide_eq_true s3 | exact beq_iff_eq.2 s3 | exact bne_iff_ne.2 s3
                have HR : Hid (chk C = 12) := chk_win HP.out HO.out HQ.out HC.out (by unfold winsOk; rw [show winBase C = false from by (unfold winBase; simp only [wi, Bool.and_eq_false_iff, decide_eq_false_iff_not]; omega)]; rfl)
                go_wp2_with fail
                go_ret
                exact ⟨ret_int HR.out.symm, Ck⟩
              have gs3 : decide (C.switch < 0) = false := by first | exact decide_eq_false s3 | exact beq_eq_false_iff_ne.2 s3 | (rw [bne_eq_false_iff_eq]; omega)
              by_cases s4 : 1000 < C.switch
              · have gs4 : decide (1000 < C.switch) = true := by first | exact decide_eq_true s4 | exact beq_iff_eq.2 s4 | exact bne_iff_ne.2 s4
                have HR : Hid (chk C = 12) := chk_win HP.out HO.out HQ.out HC.out (by unfold winsOk; rw [show winBase C = false from by (unfold winBase; simp only [wi, Bool.and_eq_false_iff, decide_eq_false_iff_not]; omega)]; rfl)
                go_wp2_with fail
                go_ret
                exact ⟨ret_int HR.out.symm, Ck⟩
              have gs4 : decide (1000 < C.switch) = false := by first | exact decide_eq_false s4 | exact beq_eq_false_iff_ne.2 s4 | (rw [bne_eq_false_iff_eq]; omega)
              by_cases s5 : (C.wins.length : Int) < 1
              · have gs5 : decide ((C.wins.length : Int) < 1) = true := by first | exact decide_eq_true s5 | exact beq_iff_eq.2 s5 | exact bne_iff_ne.2 s5
                have HR : Hid (chk C = 12) := chk_win HP.out HO.out HQ.out HC.out (by unfold winsOk; rw [show winBase C = false from by (unfold winBase; simp only [wi, Bool.and_eq_false_iff, decide_eq_false_iff_not]; omega)]; rfl)
                go_wp2_with fail
                go_ret
                exact ⟨ret_int HR.out.symm, Ck⟩
              have gs5 : decide ((C.wins.length : Int) < 1) = false := by first | exact decide_eq_false s5 | exact beq_eq_false_iff_ne.2 s5 | (rw [bne_eq_false_iff_eq]; omega)
              by_cases s6 : 32 < (C.wins.length : Int)
              · have gs6 : decide (32 < (C.wins.length : Int)) = true := by first | exact decide_eq_true s6 | exact beq_iff_eq.2 s6 | exact bne_iff_ne.2 s6
                have HR : Hid (chk C = 12) := chk_win HP.out HO.out HQ.out HC.out (by unfold winsOk; rw [show winBase C = false from by (unfold winBase; simp only [wi, Bool.and_eq_false_iff, decide_eq_false_iff_not]; omega)]; rfl)
                go_wp2_with fail
                go_ret
                exact ⟨ret_int HR.out.symm, Ck⟩
              have gs6 : decide (32 < (C.wins.length : Int)) = false := by first | exact decide_eq_false s6 | exact beq_eq_false_iff_ne.2 s6 | (rw [bne_eq_false_iff_eq]; omega)
              have HB : Hid (winBase C = true) := by show _ = _; unfold winBase; simp only [wi, Bool.and_eq_true, decide_eq_true_eq]; omega
              go_wp2_with fail
              clear gs1 gs2 gs3 gs4 gs5 gs6
              go_loopw [10, 11] (fun e i wr => ∃ (k : Nat) (en : Int), k ≤ C.wins.length ∧ i = .int .i64 k ∧ e = .int .i64 en ∧ 0 ≤ en ∧ en ≤ 100000 ∧ Hid (winsGo C C.wins 0 = winsGo C (C.wins.drop k) en) ∧ Chg w wr (fun _ => False) ∧ Box wr w.heap.size 32 (cfgCells C ap ac aw cp cc cw)) (fun _ i _ => C.wins.length - (intOf i).toNat)
              case atStart => exact ⟨0, 0, by omega, rfl, rfl, by omega, by omega, rfl, Ck, Bk⟩
              case round =>
                obtain ⟨k, en, hk, rfl, rfl, hen1, hen2, HG, Ck, Bk⟩ := hrel
                have d1 : wr.cell? ⟨w.heap.size, 1, none⟩ = some (.int .i64 C.major) := Bk.cell 1
                have d2 : wr.cell? ⟨w.heap.size, 2, none⟩ = some (.int .i64 C.switch) := Bk.cell 2
                have d3 : wr.cell? ⟨w.heap.size, 3, none⟩ = some (.slice ap C.parts.length cp) := Bk.cell 3
                have d5 : wr.cell? ⟨w.heap.size, 5, none⟩ = some (.slice aw C.wins.length cw) := Bk.cell 5
                have hz := Bk.lt
                by_cases hlt : k < C.wins.length
                · obtain ⟨b, o, rfl⟩ := h.ws.pos (by omega)
                  have hkk := h.keep Ck
                  have c0 := Lst.cell0 (n := 3) (fun _ => rfl) hkk.ws k (by decide) hlt rfl
                  have c1 := Lst.cell (n := 3) (fun _ => rfl) hkk.ws k 1 (by decide) hlt rfl
                  have c2 := Lst.cell (n := 3) (fun _ => rfl) hkk.ws k 2 (by decide) hlt rfl
                  have hdr := drop_cons C.wins k hlt
                  obtain ⟨x, hx⟩ : ∃ x, C.wins[k] = x := ⟨_, rfl⟩
                  rw [hx] at c0 c1 c2 hdr
                  have HG2 : Hid (winsGo C C.wins 0 = (winOk C en x && winsGo C (C.wins.drop (k + 1)) (x.start + x.len))) := by
                    have := HG.out
                    rw [hdr] at this
                    exact this
                  clear hkk hx hdr HG
                  by_cases t1 : x.start < en
                  · have gt1 : decide (x.start < en) = true := by first | exact decide_eq_true t1 | exact beq_iff_eq.2 t1 | exact bne_iff_ne.2 t1
                    have HR : Hid (chk C = 12) := chk_win HP.out HO.out HQ.out HC.out (by unfold winsOk; rw [HG2.out, show winOk C en x = false from by (unfold winOk; simp only [wi, Bool.and_eq_false_iff, decide_eq_false_iff_not]; omega), HB.out]; rfl)
                    go_wp2_with fail
                    go_ret
                    exact ⟨ret_int HR.out.symm, Ck.alloc _⟩
                  have gt1 : decide (x.start < en) = false := by first | exact decide_eq_false t1 | exact beq_eq_false_iff_ne.2 t1 | (rw [bne_eq_false_iff_eq]; omega)
                  by_cases t2 : C.major < x.start
                  · have gt2 : decide (C.major < x.start) = true := by first | exact decide_eq_true t2 | exact beq_iff_eq.2 t2 | exact bne_iff_ne.2 t2
                    have HR : Hid (chk C = 12) := chk_win HP.out HO.out HQ.out HC.out (by unfold winsOk; rw [HG2.out, show winOk C en x = false from by (unfold winOk; simp only [wi, Bool.and_eq_false_iff, decide_eq_false_iff_not]; omega), HB.out]; rfl)
                    go_wp2_with fail
                    go_ret
                    exact ⟨ret_int HR.out.symm, Ck.alloc _⟩
                  have gt2 : decide (C.major < x.start) = false := by first | exact decide_eq_false t2 | exact beq_eq_false_iff_ne.2 t2 | (rw [bne_eq_false_iff_eq]; omega)
                  by_cases t3 : x.len ≤ C.switch
                  · have gt3 : decide (x.len ≤ C.switch) = true := by first | exact decide_eq_true t3 | exact beq_iff_eq.2 t3 | exact bne_iff_ne.2 t3
                    have HR : Hid (chk C = 12) := chk_win HP.out HO.out HQ.out HC.out (by unfold winsOk; rw [HG2.out, show winOk C en x = false from by (unfold winOk; simp only [wi, Bool.and_eq_false_iff, decide_eq_false_iff_not]; omega), HB.out]; rfl)
                    go_wp2_with fail
                    go_ret
                    exact ⟨ret_int HR.out.symm, Ck.alloc _⟩
                  have gt3 : decide (x.len ≤ C.switch) = false := by first | exact decide_eq_false t3 | exact beq_eq_false_iff_ne.2 t3 | (rw [bne_eq_false_iff_eq]; omega)
                  by_cases t4 : C.major - x.start < x.len
                  · have gt4 : decide (C.major - x.start < x.len) = true := by first | exact decide_eq_true t4 | exact beq_iff_eq.2 t4 | exact bne_iff_ne.2 t4
                    have HR : Hid (chk C = 12) := chk_win HP.out HO.out HQ.out HC.out (by unfold winsOk; rw [HG2.out, show winOk C en x = false from by (unfold winOk; simp only [wi, Bool.and_eq_false_iff, decide_eq_false_iff_not]; omega), HB.out]; rfl)
                    go_wp2_with fail
                    go_ret
                    exact ⟨ret_int HR.out.symm, Ck.alloc _⟩
                  have gt4 : decide (C.major - x.start < x.len) = false := by first | exact decide_eq_false t4 | exact beq_eq_false_iff_ne.2 t4 | (rw [bne_eq_false_iff_eq]; omega)
                  by_cases t5 : x.part < 0
                  · have gt5 : decide (x.part < 0) = true := by first | exact decide_eq_true t5 | exact beq_iff_eq.2 t5 | exact bne_iff_ne.2 t5
                    have HR : Hid (chk C = 12) := chk_win HP.out HO.out HQ.out HC.out (by unfold winsOk; rw [HG2.out, show winOk C en x = false from by (unfold winOk; simp only [wi, Bool.and_eq_false_iff, decide_eq_false_iff_not]; omega), HB.out]; rfl)
                    go_wp2_with fail
                    go_ret
                    exact ⟨ret_int HR.out.symm, Ck.alloc _⟩
                  have gt5 : decide (x.part < 0) = false := by first | exact decide_eq_false t5 | exact beq_eq_false_iff_ne.2 t5 | (rw [bne_eq_false_iff_eq]; omega)
                  by_cases t6 : (C.parts.length : Int) ≤ x.part
                  · have gt6 : decide ((C.parts.length : Int) ≤ x.part) = true := by first | exact decide_eq_true t6 | exact beq_iff_eq.2 t6 | exact bne_iff_ne.2 t6
                    have HR : Hid (chk C = 12) := chk_win HP.out HO.out HQ.out HC.out (by unfold winsOk; rw [HG2.out, show winOk C en x = false from by (unfold winOk; simp only [wi, Bool.and_eq_false_iff, decide_eq_false_iff_not]; omega), HB.out]; rfl)
                    go_wp2_with fail
                    go_ret
                    exact ⟨ret_int HR.out.symm, Ck.alloc _⟩
                  have gt6 : decide ((C.parts.length : Int) ≤ x.part) = false := by first | exact decide_eq_false t6 | exact beq_eq_false_iff_ne.2 t6 | (rw [bne_eq_false_iff_eq]; omega)
                  have HR : Hid (winsGo C C.wins 0 = winsGo C (C.wins.drop (k + 1)) (x.start + x.len)) := by show _ = _; rw [HG2.out, show winOk C en x = true from by (unfold winOk; simp only [wi, Bool.and_eq_true, decide_eq_true_eq]; omega)]; rfl
                  go_wp2_with fail
                  go_roundw
                  case rel => exact ⟨k + 1, x.start + x.len, by omega, by go_num, rfl, by omega, by omega, HR, Ck.alloc _, Bk.alloc _⟩
                  case measure => simp [intOf]; omega
                · have h1 : k = C.wins.length := by omega
                  subst h1
                  have HR : Hid (chk C = 0) := chk_ok HP.out HO.out HQ.out HC.out (by unfold winsOk; rw [HG.out, HB.out, List.drop_length]; rfl)
                  go_wp2_with fail
                  go_ret
                  exact ⟨ret_int HR.out.symm, Ck⟩
end Go.Proofs.Ytiedfglkjkaefaa

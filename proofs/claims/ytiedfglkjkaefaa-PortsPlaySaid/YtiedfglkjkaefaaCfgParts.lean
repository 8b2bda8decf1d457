/- config: parts. -/
import Derived.Test.YtiedfglkjkaefaaCfgAt
namespace Go.Proofs.Ytiedfglkjkaefaa
open Go.RowKit

/-- Is a partition's name its own among those ahead of it? -/
def nameNew (l : List PartD) (s : ByteArray) : Bool := l.all (fun q => !(q.name.toList == s.toList))
def partOk (l : List PartD) (k : Nat) : Bool := match l[k]? with
  | some p => (nameOk p.name && wi p.action 0 1) && nameNew (l.take k) p.name
  | none => true
def partsOk (C : Cfg) : Bool := wi C.parts.length 1 8 && (List.range C.parts.length).all (partOk C.parts)

theorem partOk_at (l : List PartD) (k : Nat) (h : k < l.length) : partOk l k = ((nameOk l[k].name && wi l[k].action 0 1) && nameNew (l.take k) l[k].name) := by
  unfold partOk
  rw [List.getElem?_eq_getElem h]

theorem nameNew_drop (l : List PartD) (k j : Nat) (s : ByteArray) (hj : j < k) (hk : k ≤ l.length) : nameNew ((l.take k).drop j) s = (!((l[j]'(by omega)).name.toList == s.toList) && nameNew ((l.take k).drop (j + 1)) s) := by
  unfold nameNew
  rw [List.drop_eq_getElem_cons (by simp; omega), List.all_cons]
  simp

theorem range_all_succ (n k : Nat) (f : Nat → Bool) (hk : k < n) (h : ((List.range n).take k).all f = true) (h2 : f k = true) : ((List.range n).take (k + 1)).all f = true := by
  rw [List.take_succ_eq_append_getElem (by simpa using hk), List.all_append, h]
  simp [h2]
theorem range_all_false (n k : Nat) (f : Nat → Bool) (hk : k < n) (h : f k = false) : (List.range n).all f = false := by
  rw [List.all_eq_false]
  exact ⟨k, List.mem_range.2 hk, by rw [h]; exact Bool.false_ne_true⟩

set_option maxHeartbeats 1000000 in
theorem parts_any {C : Cfg} {ap ac aw : Option Addr} {cp cc cw : Nat} (w : World) (h : CfgAt w C ap ac aw cp cc cw) :
    Calls Try.prog 47 #[.agg (cfgCells C ap ac aw cp cc cw)] w fun e w' => e = .returned (.int .i64 (fineV (partsOk C) 10)) ∧ Chg w w' (fun _ => False) := by
  have hm3 := h.ps.mx
  have hm4 := h.ps.le
  unfold maxLen at hm3
  cases hb : wi C.parts.length 1 8
  · have HW := fun wx => within_any C.parts.length 1 8 wx
    rw [hb] at HW
    have HR : Hid (fineV (partsOk C) 10 = 10) := by show _ = _; unfold partsOk; rw [hb]; rfl
    clear hb
    unfold cfgCells
    go_enter Try.func47, Try.ntmps47
    go_wp2_with (go_at_call 54; refine (HW _).mono ?_; rintro e w' ⟨rfl, rfl⟩)
    go_ret
    exact ⟨ret_int HR.out.symm, (Chg.refl _ _).alloc _⟩
  · have HW := fun wx => within_any C.parts.length 1 8 wx
    rw [hb] at HW
    have hb8 := wi_true hb
    have HB := Lib.hid hb
    clear hb
    unfold cfgCells
    go_enter Try.func47, Try.ntmps47
    go_wp2_with (go_at_call 54; refine (HW _).mono ?_; rintro e w' ⟨rfl, rfl⟩)
    clear HW
    go_loopw [18] (fun i wr => ∃ (k : Nat), k ≤ C.parts.length ∧ i = .int .i64 k ∧ Hid (((List.range C.parts.length).take k).all (partOk C.parts) = true) ∧ Chg w wr (fun _ => False) ∧ Box wr w.heap.size 105 (cfgCells C ap ac aw cp cc cw)) (fun i _ => C.parts.length - (intOf i).toNat)
    case atStart => exact ⟨0, by omega, rfl, rfl, (Chg.refl _ _).alloc _, Box.new _ _ _⟩
    case round =>
      obtain ⟨k, hk, rfl, HA, Ck, Bk⟩ := hrel
      by_cases hlt : k < C.parts.length
      · obtain ⟨b, o, rfl⟩ := h.ps.pos (by omega)
        have hkk := h.keep Ck
        have c0 := Lst.cell0 (n := 3) (fun _ => rfl) hkk.ps k (by decide) hlt rfl
        have c1 := Lst.cell (n := 3) (fun _ => rfl) hkk.ps k 1 (by decide) hlt rfl
        have c2 := Lst.cell (n := 3) (fun _ => rfl) hkk.ps k 2 (by decide) hlt rfl
        have hns : C.parts[k].name.size ≤ 9223372036854775807 := h.names _ (List.getElem_mem hlt)
        have HP := Lib.hid (partOk_at C.parts k hlt)
        obtain ⟨x, hx⟩ : ∃ x, C.parts[k] = x := ⟨_, rfl⟩
        rw [hx] at c0 c1 c2 hns HP
        have d3 : wr.cell? ⟨w.heap.size, 3, none⟩ = some (.slice (some ⟨b, o, none⟩) C.parts.length cp) := Bk.cell 3
        have hz := Bk.lt
        have HN := fun wx => named_any x.name wx hns
        have HX := fun wx => within_any x.action 0 1 wx
        obtain ⟨n0, hn0⟩ : ∃ n0, nameOk x.name = n0 := ⟨_, rfl⟩
        obtain ⟨a0, ha0⟩ : ∃ a0, wi x.action 0 1 = a0 := ⟨_, rfl⟩
        rw [hn0] at HN
        rw [ha0] at HX
        have HP2 : Hid (partOk C.parts k = ((n0 && a0) && nameNew (C.parts.take k) x.name)) := by show _ = _; rw [← hn0, ← ha0]; exact HP.out
        obtain ⟨wo, hwo⟩ : ∃ wo, wo = wr := ⟨_, rfl⟩
        subst hwo
        clear hkk hx hn0 ha0 HP
        cases n0
        all_goals
          go_wp2_with (first
            | (go_at_call 55; refine (HN _).mono ?_; rintro e w' ⟨rfl, rfl⟩)
            | (go_at_call 54; refine (HX _).mono ?_; rintro e w' ⟨rfl, rfl⟩))
          go_loopw [5, 37] (fun v i wr => ∃ (j : Nat) (ok : Bool), j ≤ k ∧ i = .int .i64 j ∧ v = .bool ok ∧ Hid (partOk C.parts k = (ok && nameNew ((C.parts.take k).drop j) x.name)) ∧ Chg w wr (fun _ => False) ∧ Box wr w.heap.size 105 (cfgCells C (some ⟨b, o, none⟩) ac aw cp cc cw) ∧ Box wr wo.heap.size 70 #[.string x.name, .int .i64 x.pages, .int .i64 x.action]) (fun _ i _ => k - (intOf i).toNat)
          case atStart => exact ⟨0, _, by omega, rfl, rfl, HP2.out, Ck.alloc _, Bk.alloc _, Box.new _ _ _⟩
          case round =>
            obtain ⟨j, ok, hj, rfl, rfl, HO, Cj, Bj, Bp⟩ := hrel
            have e0 : wr.cell? ⟨wo.heap.size, 0, none⟩ = some (.string x.name) := Bp.cell 0
            have hz2 := Bj.lt
            have hz3 := Bp.lt
            by_cases hlj : j < k
            · have hkj := h.keep Cj
              have c0 := Lst.cell0 (n := 3) (fun _ => rfl) hkj.ps j (by decide) (by omega) rfl
              have c1 := Lst.cell (n := 3) (fun _ => rfl) hkj.ps j 1 (by decide) (by omega) rfl
              have c2 := Lst.cell (n := 3) (fun _ => rfl) hkj.ps j 2 (by decide) (by omega) rfl
              have hd := nameNew_drop C.parts k j x.name hlj (by omega)
              obtain ⟨y, hy⟩ : ∃ y, C.parts[j]'(by omega) = y := ⟨_, rfl⟩
              rw [hy] at c0 c1 c2 hd
              have HD := Lib.hid hd
              clear hkj hy hd
              cases ok
              · go_wp2_with fail
                go_roundw
                case rel => exact ⟨j + 1, _, by omega, by go_num, rfl, HO.out, Cj.alloc _, Bj.alloc _, Bp.alloc _⟩
                case measure => simp [intOf]; omega
              · go_wp2_with fail
                go_roundw
                case rel => exact ⟨j + 1, _, by omega, by go_num, rfl, by show _ = _; rw [HO.out, HD.out]; rfl, Cj.alloc _, Bj.alloc _, Bp.alloc _⟩
                case measure => simp [intOf]; omega
            · have h1 : j = k := by omega
              have hpk := HO.out
              rw [h1, List.drop_of_length_le (by simp; omega)] at hpk
              have HQ : Hid (partOk C.parts k = ok) := by show _ = _; rw [hpk]; simp [nameNew]
              subst h1
              clear hpk HO
              cases ok
              · have HR : Hid (fineV (partsOk C) 10 = 10) := by show _ = _; unfold partsOk; rw [range_all_false _ j _ hlt HQ.out]; simp [fineV]
                go_wp2_with fail
                go_ret
                exact ⟨ret_int HR.out.symm, Cj⟩
              · go_wp2_with fail
                go_roundw
                case rel => exact ⟨j + 1, by omega, by go_num, range_all_succ _ j _ hlt HA.out HQ.out, Cj, Bj⟩
                case measure => simp [intOf]; omega
      · have h1 : k = C.parts.length := by omega
        subst h1
        go_wp2
        go_ret
        refine ⟨ret_int ?_, Ck⟩
        have := HA.out
        rw [List.take_of_length_le (by simp)] at this
        unfold partsOk
        rw [this, HB.out]
        rfl

end Go.Proofs.Ytiedfglkjkaefaa

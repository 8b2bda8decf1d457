/- The reference's below, Steps. -/
import Derived.Test.YtmbdimcjpdofoaaPlan3
import Derived.Test.YtmbdimcjpdofoaaChkAt
namespace Go.Proofs.Ytmbdimcjpdofoaa
open Go.RowKit

def belK (C : Cfg) (part q u : Int) (k : Nat) : Int := q * shrK C.switch part C.major C.wins k + shrK C.switch part u C.wins k
theorem belK_end (C : Cfg) (part t : Int) : belK C part (t / C.major) (t % C.major) C.wins.length = uptoV C part t := rfl

set_option maxHeartbeats 2000000 in
theorem rbelow_any {C : Cfg} {ap ac aw : Option Addr} {cp cc cw : Nat} (w : World) (h : CfgAt w C ap ac aw cp cc cw) (hF : WFine C) (part t : Int) (h0 : 0 ≤ t) (h9 : t ≤ 1099511627776) :
    Calls Try.prog 28 #[.agg (cfgCells C ap ac aw cp cc cw), .int .i64 part, .int .i64 t] w fun e w' => e = .returned (.int .i64 (uptoV C part t)) ∧ Chg w w' (fun _ => False) := by
  have hm := hF.major
  obtain ⟨hm1, hm2⟩ := hm
  have hsw := hF.switch
  obtain ⟨hsw1, hsw2⟩ := hsw
  have hwl := hF.len
  have HE := Lib.hid hF.each
  have hq := quo_le h0 h9 hm1
  have hu0 : 0 ≤ t % C.major := Int.emod_nonneg _ (by omega)
  have hu1 : t % C.major < C.major := Int.emod_lt_of_pos _ (by omega)
  have e1 : t.tmod C.major = t % C.major := by rw [Int.tmod_eq_emod_of_nonneg h0]
  have e2 : t.tdiv C.major = t / C.major := by rw [Int.tdiv_eq_ediv_of_nonneg h0]
  have HEND := Lib.hid (belK_end C part t)
  obtain ⟨u, hu⟩ : ∃ u, t % C.major = u := ⟨_, rfl⟩
  obtain ⟨q, hqe⟩ : ∃ q, t / C.major = q := ⟨_, rfl⟩
  rw [hu] at e1 hu0 hu1
  replace HEND : Hid (belK C part q u C.wins.length = uptoV C part t) := by show _ = _; rw [← hqe, ← hu]; exact HEND.out
  rw [hqe] at e2 hq
  obtain ⟨hq1, hq2⟩ := hq
  have HSL : Hid (∀ k, k ≤ C.wins.length → 0 ≤ belK C part q u k ∧ belK C part q u k ≤ 3518437208886400000) := fun k hk => by
    have a := shrK_le hF part C.major k hk
    have b := shrK_le hF part u k hk
    have c := mul_le hq1 hq2 a.1 (by omega)
    unfold belK
    omega
  have HB := Box.new w 26 (cfgCells C ap ac aw cp cc cw)
  have HA := h.keep ((Chg.refl w (fun _ => False)).alloc (.cells (cfgCells C ap ac aw cp cc cw) 26))
  have hne2 : ¬ C.major = 0 := by omega
  have hne : (C.major == 0) = false := beq_eq_false_iff_ne.2 hne2
  have yq : IntKind.i64.wrap q = q := IntWalk.i64_in _ (by omega)
  have yu : IntKind.i64.wrap u = u := IntWalk.i64_in _ (by omega)
  clear hF hu hqe
  unfold cfgCells at *
  go_enter Try.func28, Try.ntmps28
  go_wp2_with fail
  go_loopg [7, 8] C.wins.length (fun g n i wr => ∃ k : Nat, g + k = C.wins.length ∧ i = .int .i64 k ∧ n = .int .i64 (belK C part q u k) ∧ Chg (w.alloc (.cells #[.int .i64 C.pages, .int .i64 C.major, .int .i64 C.switch, .slice ap C.parts.length cp, .slice ac C.chans.length cc, .slice aw C.wins.length cw] 26)) wr (fun _ => False))
  case atStart => exact ⟨0, rfl, rfl, by simp [belK, shrK], Chg.refl _ _⟩
  case round =>
    obtain ⟨k, hk, rfl, rfl, Ck⟩ := hrel
    have HKK := Lib.hid hk
    have hkl : k ≤ C.wins.length := by omega
    have hs := HSL.out k hkl
    obtain ⟨hs1, hs2⟩ := hs
    have Bk := HB.chg Ck (fun h => h)
    have x1 := Bk.cell 1
    have x2 := Bk.cell 2
    have x5 := Bk.cell 5
    have hzz := Bk.lt
    clear hk
    by_cases hlt : k < C.wins.length
    · obtain ⟨b, o, rfl⟩ := h.ws.pos (by omega)
      have hkk := HA.ws.chg Ck (fun _ _ h => h)
      have c0 := Lst.cell0 (n := 3) (fun _ => rfl) hkk k (by decide) hlt rfl
      have c1 := Lst.cell (n := 3) (fun _ => rfl) hkk k 1 (by decide) hlt rfl
      have c2 := Lst.cell (n := 3) (fun _ => rfl) hkk k 2 (by decide) hlt rfl
      have hx := HE.out _ (List.getElem_mem hlt)
      have hs3 := HSL.out (k + 1) hlt
      have HS : Hid (belK C part q u (k + 1) = belK C part q u k + (q * shr1 C.switch part C.major C.wins[k] + shr1 C.switch part u C.wins[k])) := by
        show _ = _
        unfold belK
        rw [shrK_succ _ _ _ _ _ hlt, shrK_succ _ _ _ _ _ hlt, Int.mul_add]
        omega
      obtain ⟨x, hxe⟩ : ∃ x, C.wins[k] = x := ⟨_, rfl⟩
      rw [hxe] at c0 c1 c2 hx HS
      obtain ⟨z1, z2, z3, z4, z5⟩ := hx
      obtain ⟨sk, hsk⟩ : ∃ sk, belK C part q u k = sk := ⟨_, rfl⟩
      rw [hsk] at hs1 hs2 HS ⊢
      clear hkk hxe hsk
      have C2 := Ck.alloc (.cells #[.int .i64 x.start, .int .i64 x.len, .int .i64 x.part] 38)
      have hsx : x.start ≤ 100000 := by omega
      have hlx : x.len ≤ 100000 := by omega
      by_cases hp : x.part = part
      · have q1 : (x.part != part) = false := by simp [hp]
        have HP : Hid (belK C part q u (k + 1) = sk + q * (x.len - C.switch) + max 0 (min (u - x.start - C.switch) (x.len - C.switch))) := by
          show _ = _
          rw [HS.out]
          unfold shr1
          rw [if_pos hp, if_pos hp, show max 0 (min C.major (x.start + x.len) - x.start - C.switch) = x.len - C.switch by omega]
          omega
        have hp1 : 0 ≤ q * (x.len - C.switch) := Int.mul_nonneg hq1 (by omega)
        have hp3 : sk + q * (x.len - C.switch) + max 0 (min (u - x.start - C.switch) (x.len - C.switch)) ≤ 3518437208886400000 := by rw [← HP.out]; exact hs3.2
        obtain ⟨pr, hpr⟩ : ∃ pr, q * (x.len - C.switch) = pr := ⟨_, rfl⟩
        rw [hpr] at hp1 hp3 HP
        have hp2 : pr ≤ 3518437208886400000 := by omega
        have y1 : IntKind.i64.wrap pr = pr := IntWalk.i64_in _ (by omega)
        have y2 : IntKind.i64.wrap (sk + pr) = sk + pr := IntWalk.i64_in _ (by omega)
        have hp4 : sk + pr ≤ 3518437208886400000 := by omega
        clear hp hs3
        clear hp3
        go_wp2_with fail
        go_quiet (fail)
        go_wp2_with fail
        go_quiet (fail)
        go_wp2_with fail
        all_goals
          go_roundg (gk - 1)
          case measure => have := HKK.out; omega
          case rel => exact ⟨k + 1, by have := HKK.out; omega, by go_num, by rw [HP.out]; exact int_eq (by omega), C2.drewN _⟩
      · have q1 : (x.part != part) = true := bne_iff_ne.2 hp
        have HR : Hid (belK C part q u (k + 1) = sk) := by show _ = _; rw [HS.out]; unfold shr1; rw [if_neg hp, if_neg hp]; omega
        clear hp
        go_wp2_with fail
        go_roundg (gk - 1)
        case measure => have := HKK.out; omega
        case rel => exact ⟨k + 1, by have := HKK.out; omega, by go_num, by rw [HR.out], C2⟩
    · have h5 : k = C.wins.length := by omega
      subst h5
      go_wp2_with fail
      go_ret
      exact ⟨ret_int HEND.out, ((Chg.refl _ _).alloc _).trans Ck⟩
end Go.Proofs.Ytmbdimcjpdofoaa

/- plan: Next. -/
import Derived.Test.YtmbdimcjpdofoaaPlan3
namespace Go.Proofs.Ytmbdimcjpdofoaa
open Go.RowKit

/-- What the slots 'best', 'ok' hold. -/
def bestS (b : Option Int) (v k : Value) : Prop := (b = none ∧ v = .int .i64 0 ∧ k = .bool false) ∨ ∃ z : Int, b = some z ∧ v = .int .i64 z ∧ k = .bool true ∧ 0 ≤ z ∧ z ≤ 300000

set_option maxHeartbeats 4000000 in
theorem next_any {C : Cfg} {ap ac aw : Option Addr} {cp cc cw : Nat} (w : World) (h : CfgAt w C ap ac aw cp cc cw) (part t : Int) :
    Calls Try.prog 20 #[.agg (cfgCells C ap ac aw cp cc cw), .int .i64 part, .int .i64 t] w fun e w' => e = .returned (.tuple #[.int .i64 (nextV C part t).1, .bool (nextV C part t).2]) ∧ Chg w w' (fun _ => False) := by
  have HB := Box.new w 26 (cfgCells C ap ac aw cp cc cw)
  have HA := h.keep ((Chg.refl w (fun _ => False)).alloc (.cells (cfgCells C ap ac aw cp cc cw) 26))
  have HBT := Box.new (w.alloc (.cells (cfgCells C ap ac aw cp cc cw) 26)) 3 #[.int .i64 t]
  have HA2 := HA.keep ((Chg.refl _ (fun _ => False)).alloc (.cells #[.int .i64 t] 3))
  rw [show (w.alloc (.cells (cfgCells C ap ac aw cp cc cw) 26)).heap.size = w.heap.size + 1 by simp] at HBT
  obtain ⟨tb, htb⟩ : ∃ tb, tickB C [t] = tb := ⟨_, rfl⟩
  have HT := ticks_box (n := 1) [t] HA2 HBT rfl (by decide) htb
  have HV : Hid (nextV C part t = if tb = true then (match bestK C part (t % C.major) C.wins.length with
    | none => (0, false)
    | some b => (t - t % C.major + b, true)) else (0, false)) := by show _ = _; rw [← htb]; rfl
  have C2 : Chg w ((w.alloc (.cells (cfgCells C ap ac aw cp cc cw) 26)).alloc (.cells #[.int .i64 t] 3)) (fun _ => False) := ((Chg.refl _ _).alloc _).alloc _
  have HB2 := (HB.alloc (.cells #[.int .i64 t] 3))
  cases tb
  · have HR : Hid (nextV C part t = (0, false)) := HV.out
    clear htb
    unfold cfgCells at *
    go_enter Try.func20, Try.ntmps20
    go_wp2_with fail
    refine HT.mono ?_
    rintro e w1 ⟨rfl, C1⟩
    go_wp2_with fail
    go_ret2
    exact ⟨ret2_ib (by rw [HR.out]) (by rw [HR.out]), C2.trans C1⟩
  obtain ⟨hF, _, hr⟩ := tick_wf htb
  have hrt := hr t (by simp)
  obtain ⟨h0, h1⟩ := hrt
  have hm := hF.major
  obtain ⟨hm1, hm2⟩ := hm
  have hsw := hF.switch
  obtain ⟨hsw1, hsw2⟩ := hsw
  have hwl := hF.len
  have HE := Lib.hid hF.each
  have hu : t.tmod C.major = t % C.major := by rw [Int.tmod_eq_emod_of_nonneg h0]
  have hu0 : 0 ≤ t % C.major := Int.emod_nonneg _ (by omega)
  have hu1 : t % C.major < C.major := Int.emod_lt_of_pos _ (by omega)
  have hu2 : t % C.major ≤ t := by
    have hq := Int.mul_nonneg (show 0 ≤ C.major by omega) (Int.ediv_nonneg h0 (show 0 ≤ C.major by omega))
    rw [Int.emod_def]
    omega
  have hne : (C.major == 0) = false := beq_eq_false_iff_ne.2 (by omega)
  have HV2 : Hid (nextV C part t = match bestK C part (t % C.major) C.wins.length with
    | none => (0, false)
    | some b => (t - t % C.major + b, true)) := HV.out
  obtain ⟨u, hue⟩ : ∃ u, t % C.major = u := ⟨_, rfl⟩
  rw [hue] at hu0 hu1 hu2 hu HV2
  clear hue hF HV htb hr
  unfold cfgCells at *
  go_enter Try.func20, Try.ntmps20
  go_wp2_with fail
  refine HT.mono ?_
  rintro e w1 ⟨rfl, C1⟩
  have B1 := HB2.chg C1 (fun h => h)
  have x1 := B1.cell 1
  have x5 := B1.cell 5
  clear HT
  go_wp2_with fail
  go_loopg [9, 10, 26] C.wins.length (fun g v b i wr => ∃ k : Nat, g + k = C.wins.length ∧ i = .int .i64 k ∧ bestS (bestK C part u k) v b ∧ Chg ((w.alloc (.cells #[.int .i64 C.pages, .int .i64 C.major, .int .i64 C.switch, .slice ap C.parts.length cp, .slice ac C.chans.length cc, .slice aw C.wins.length cw] 26)).alloc (.cells #[.int .i64 t] 3)) wr (fun _ => False))
  case atStart => exact ⟨0, rfl, rfl, .inl ⟨rfl, rfl, rfl⟩, C1⟩
  case round =>
    obtain ⟨k, hk, rfl, hb, Ck⟩ := hrel
    have HKK := Lib.hid hk
    have hkl : k ≤ C.wins.length := by omega
    have Bk := HB2.chg Ck (fun h => h)
    have x1 := Bk.cell 1
    have x2 := Bk.cell 2
    have hzz := Bk.lt
    clear hk
    by_cases hlt : k < C.wins.length
    · obtain ⟨b, o, rfl⟩ := h.ws.pos (by omega)
      have hkk := HA2.ws.chg Ck (fun _ _ h => h)
      have c0 := Lst.cell0 (n := 3) (fun _ => rfl) hkk k (by decide) hlt rfl
      have c1 := Lst.cell (n := 3) (fun _ => rfl) hkk k 1 (by decide) hlt rfl
      have c2 := Lst.cell (n := 3) (fun _ => rfl) hkk k 2 (by decide) hlt rfl
      have hx := HE.out _ (List.getElem_mem hlt)
      have HS := Lib.hid (bestK_succ C part u k hlt)
      obtain ⟨x, hxe⟩ : ∃ x, C.wins[k] = x := ⟨_, rfl⟩
      rw [hxe] at c0 c1 c2 hx HS
      obtain ⟨z1, z2, z3, z4, z5⟩ := hx
      have hsx : x.start ≤ 100000 := by omega
      have hlx : x.len ≤ 100000 := by omega
      clear hkk hxe
      have C3 := Ck.alloc (.cells #[.int .i64 x.start, .int .i64 x.len, .int .i64 x.part] 38)
      by_cases hp : x.part = part
      · have q1 : (x.part != part) = false := by rw [bne_eq_false_iff_eq]; exact hp
        have HP : Hid (bestK C part u (k + 1) = match bestK C part u k with
          | none => some (cand C u x)
          | some v => if cand C u x < v then some (cand C u x) else some v) := by show _ = _; rw [HS.out]; unfold bestStep; rw [if_pos hp]; cases bestK C part u k <;> rfl
        have HC : Hid ((x.start + x.len ≤ max u (x.start + C.switch) ∧ cand C u x = x.start + C.switch + C.major) ∨ (max u (x.start + C.switch) < x.start + x.len ∧ cand C u x = max u (x.start + C.switch))) := by
          show _ ∨ _
          unfold cand
          split
          · exact .inl ⟨‹_›, rfl⟩
          · exact .inr ⟨by omega, rfl⟩
        obtain ⟨cv, hcv⟩ : ∃ cv, cand C u x = cv := ⟨_, rfl⟩
        rw [hcv] at HP HC
        clear hcv
        obtain ⟨bb, hbb⟩ : ∃ bb, bestK C part u k = bb := ⟨_, rfl⟩
        rw [hbb] at hb HP
        clear hp hbb
        rcases hb with ⟨rfl, rfl, rfl⟩ | ⟨z, rfl, rfl, rfl, hz0, hz1⟩
        · go_wp2_with fail
          all_goals
            go_roundg (gk - 1)
            case measure => have := HKK.out; omega
            case rel => exact ⟨k + 1, by have := HKK.out; omega, by go_num, .inr ⟨_, HP.out, int_eq (by have := HC.out; omega), rfl, by have := HC.out; omega, by have := HC.out; omega⟩, C3⟩
        · go_wp2_with fail
          all_goals
            go_roundg (gk - 1)
            case measure => have := HKK.out; omega
            case rel => exact ⟨k + 1, by have := HKK.out; omega, by go_num, by (have hcc := HC.out); rw [HP.out]; (first | (rw [show (if cv < z then some cv else some z) = some cv from if_pos (by omega)]; exact .inr ⟨_, rfl, int_eq (by omega), rfl, by omega, by omega⟩) | (rw [show (if cv < z then some cv else some z) = some z from if_neg (by omega)]; exact .inr ⟨_, rfl, rfl, rfl, hz0, hz1⟩)), C3⟩
      · have q1 : (x.part != part) = true := bne_iff_ne.2 hp
        have HR : Hid (bestK C part u (k + 1) = bestK C part u k) := by show _ = _; rw [HS.out]; unfold bestStep; rw [if_neg hp]
        have HBS := Lib.hid hb
        clear hp hb
        go_wp2_with fail
        go_roundg (gk - 1)
        case measure => have := HKK.out; omega
        case rel => exact ⟨k + 1, by have := HKK.out; omega, by go_num, by rw [HR.out]; exact HBS.out, C3⟩
    · have h5 : k = C.wins.length := by omega
      subst h5
      obtain ⟨bb, hbb⟩ : ∃ bb, bestK C part u C.wins.length = bb := ⟨_, rfl⟩
      rw [hbb] at hb HV2
      clear hbb
      rcases hb with ⟨rfl, rfl, rfl⟩ | ⟨z, rfl, rfl, rfl, hz0, hz1⟩
      · have HR : Hid (nextV C part t = (0, false)) := HV2.out
        go_wp2_with fail
        go_ret2
        exact ⟨ret2_ib (by rw [HR.out]) (by rw [HR.out]), C2.trans Ck⟩
      · have HR : Hid (nextV C part t = (t - u + z, true)) := HV2.out
        go_wp2_with fail
        go_ret2
        exact ⟨ret2_ib (by rw [HR.out]) (by rw [HR.out]), C2.trans Ck⟩
end Go.Proofs.Ytmbdimcjpdofoaa

/- walk.Map, walk.Walk. -/
import Derived.Test.YtadcmelbcahecaaWalkC
namespace Go.Proofs.Ytadcmelbcahecaa
open Go.RowKit

/-- May an entry of the first table lead on? -/
def dirB (p : Int) : Bool := decide (p % 2 = 1) && decide (p / 2 % 16 = 0)
def onB (ptbr : Int) : Bool := decide (ptbr / 2147483648 % 2 = 1)
/-- The address of the first entry, of the second one; vp: the page's number. -/
def adr1 (ptbr vp : Int) : Int := ptbr % 1048576 * 4096 + 4 * (vp / 1024)
def adr2 (p vp : Int) : Int := p / 4096 * 4096 + 4 * (vp % 1024)
/-- The entry of a page: none of the bus (.inl true), none (.inl false), or the entry. -/
inductive Ent where
  | bus | dir | bus2 (p : Int) | ent (e : Int)
def entOf (n : Nat) (f : Nat → Int) (ptbr vp : Int) : Ent :=
  if okB n (adr1 ptbr vp) 4 = false then .bus
  else if dirB (ldV n f (adr1 ptbr vp) 4) = false then .dir
  else if okB n (adr2 (ldV n f (adr1 ptbr vp) 4) vp) 4 = false then .bus2 (ldV n f (adr1 ptbr vp) 4)
  else .ent (ldV n f (adr2 (ldV n f (adr1 ptbr vp) 4) vp) 4)

theorem ldV_rng {n : Nat} {f : Nat → Int} (hf : ∀ i, i < n → 0 ≤ f i ∧ f i < 256) (a s : Int) : 0 ≤ ldV n f a s ∧ ldV n f a s < 4294967296 := by
  unfold ldV
  split
  · rename_i hb
    obtain ⟨_, h5, _, h7⟩ := okB_true hb
    exact leN_lt f n hf a.toNat s.toNat (by omega) (by omega)
  · omega

def mapV (n : Nat) (f : Nat → Int) (ptbr vpn : Int) : Int × Bool :=
  if onB ptbr = false then (0, false) else
  match entOf n f ptbr (vpn % 1048576) with
  | .ent e => if e % 2 = 1 then (e, true) else (0, false)
  | _ => (0, false)

set_option maxHeartbeats 1000000 in
theorem map_any {a b n : Nat} {f : Nat → Int} {w : World} (M : Mem 74 w a b n f) (ptbr vpn : Int) :
    Calls Try.prog 40 #[.iface 24 (.pointer (some ⟨a, 0, none⟩)), .int .i64 ptbr, .int .i64 vpn] w fun e w' => e = .returned (.tuple #[.int .i64 (mapV n f ptbr vpn).1, .bool (mapV n f ptbr vpn).2]) ∧ w = w' := by
  have HV : Hid (mapV n f ptbr vpn = if onB ptbr = false then (0, false) else
      match entOf n f ptbr (vpn % 1048576) with
      | .ent e => if e % 2 = 1 then (e, true) else (0, false)
      | _ => (0, false)) := rfl
  have e1 : bits .and .i64 vpn 1048575 = vpn % 1048576 := and20 vpn
  obtain ⟨vp, hvp⟩ : ∃ vp, vpn % 1048576 = vp := ⟨_, rfl⟩
  have hv0 : 0 ≤ vp := by omega
  have hv1 : vp < 1048576 := by omega
  rw [hvp] at e1 HV
  clear hvp
  by_cases hon : ptbr / 2147483648 % 2 = 1
  · have e2 : (bits .and .i64 ptbr 2147483648 == 0) = false := by rw [bit31]; exact beq_eq_false_iff_ne.2 (by omega)
    have e3 : bits .and .i64 ptbr 1048575 = ptbr % 1048576 := and20 ptbr
    have HE := entry_any M (ptbr % 1048576) (vp / 1024) (by omega) (by omega) (by omega) (by omega)
    have HO : Hid (onB ptbr = true) := decide_eq_true hon
    have HV2 : Hid (mapV n f ptbr vpn = match entOf n f ptbr vp with
      | .ent e => if e % 2 = 1 then (e, true) else (0, false)
      | _ => (0, false)) := by show _ = _; rw [HV.out, HO.out]; rfl
    have HA : Hid (entOf n f ptbr vp = if okB n (ptbr % 1048576 * 4096 + 4 * (vp / 1024)) 4 = false then .bus
      else if dirB (ldV n f (ptbr % 1048576 * 4096 + 4 * (vp / 1024)) 4) = false then .dir
      else if okB n (adr2 (ldV n f (ptbr % 1048576 * 4096 + 4 * (vp / 1024)) 4) vp) 4 = false then .bus2 (ldV n f (ptbr % 1048576 * 4096 + 4 * (vp / 1024)) 4)
      else .ent (ldV n f (adr2 (ldV n f (ptbr % 1048576 * 4096 + 4 * (vp / 1024)) 4) vp) 4)) := rfl
    have hp := ldV_rng M.rng (ptbr % 1048576 * 4096 + 4 * (vp / 1024)) 4
    obtain ⟨p, hpv⟩ : ∃ p, ldV n f (ptbr % 1048576 * 4096 + 4 * (vp / 1024)) 4 = p := ⟨_, rfl⟩
    obtain ⟨o1, ho1⟩ : ∃ o1, okB n (ptbr % 1048576 * 4096 + 4 * (vp / 1024)) 4 = o1 := ⟨_, rfl⟩
    rw [hpv, ho1] at HE HA
    rw [hpv] at hp
    obtain ⟨hp0, hp1⟩ := hp
    clear hon HV hpv ho1
    cases o1
    · have HR : Hid (mapV n f ptbr vpn = (0, false)) := by show _ = _; rw [HV2.out, HA.out]; rfl
      go_enter Try.func40, Try.ntmps40
      go_wp2_with fail
      refine HE.mono ?_
      rintro e w' ⟨rfl, rfl⟩
      clear HE
      go_wp2_with fail
      go_ret2
      exact ⟨ret2_ib (by rw [HR.out]) (by rw [HR.out]), rfl⟩
    by_cases p1 : p % 2 = 1
    · have b1 : (bits .and .i64 p 1 == 0) = false := by rw [bit0]; exact beq_eq_false_iff_ne.2 (by omega)
      by_cases p2 : p / 2 % 16 = 0
      · have b2 : (bits .and .i64 p 30 != 0) = false := by rw [bit14, bne_eq_false_iff_eq]; omega
        have b3 : bits .and .i64 vp 1023 = vp % 1024 := and1023 vp
        have HE2 := entry_any M (p / 4096) (vp % 1024) (by omega) (by omega) (by omega) (by omega)
        have HA2 : Hid (entOf n f ptbr vp = if okB n (p / 4096 * 4096 + 4 * (vp % 1024)) 4 = false then .bus2 p else .ent (ldV n f (p / 4096 * 4096 + 4 * (vp % 1024)) 4)) := by
          show _ = _
          rw [HA.out, show dirB p = true from by simp [dirB, p1, p2]]
          rfl
        obtain ⟨q, hqv⟩ : ∃ q, ldV n f (p / 4096 * 4096 + 4 * (vp % 1024)) 4 = q := ⟨_, rfl⟩
        obtain ⟨o2, ho2⟩ : ∃ o2, okB n (p / 4096 * 4096 + 4 * (vp % 1024)) 4 = o2 := ⟨_, rfl⟩
        rw [hqv, ho2] at HE2 HA2
        clear hqv ho2 p1 p2 HA
        cases o2
        · have HR : Hid (mapV n f ptbr vpn = (0, false)) := by show _ = _; rw [HV2.out, HA2.out]; rfl
          go_enter Try.func40, Try.ntmps40
          go_wp2_with fail
          refine HE.mono ?_
          rintro e w' ⟨rfl, rfl⟩
          clear HE
          go_wp2_with fail
          refine HE2.mono ?_
          rintro e w' ⟨rfl, rfl⟩
          clear HE2
          go_wp2_with fail
          go_ret2
          exact ⟨ret2_ib (by rw [HR.out]) (by rw [HR.out]), rfl⟩
        by_cases q1 : q % 2 = 1
        · have b4 : (bits .and .i64 q 1 == 0) = false := by rw [bit0]; exact beq_eq_false_iff_ne.2 (by omega)
          have HR : Hid (mapV n f ptbr vpn = (q, true)) := by show _ = _; rw [HV2.out, HA2.out]; simp [q1]
          clear q1
          go_enter Try.func40, Try.ntmps40
          go_wp2_with fail
          refine HE.mono ?_
          rintro e w' ⟨rfl, rfl⟩
          clear HE
          go_wp2_with fail
          refine HE2.mono ?_
          rintro e w' ⟨rfl, rfl⟩
          clear HE2
          go_wp2_with fail
          go_ret2
          exact ⟨ret2_ib (by rw [HR.out]) (by rw [HR.out]), rfl⟩
        · have b4 : (bits .and .i64 q 1 == 0) = true := by rw [bit0]; exact beq_iff_eq.2 (by omega)
          have HR : Hid (mapV n f ptbr vpn = (0, false)) := by show _ = _; rw [HV2.out, HA2.out]; simp [q1]
          clear q1
          go_enter Try.func40, Try.ntmps40
          go_wp2_with fail
          refine HE.mono ?_
          rintro e w' ⟨rfl, rfl⟩
          clear HE
          go_wp2_with fail
          refine HE2.mono ?_
          rintro e w' ⟨rfl, rfl⟩
          clear HE2
          go_wp2_with fail
          go_ret2
          exact ⟨ret2_ib (by rw [HR.out]) (by rw [HR.out]), rfl⟩
      · have b2 : (bits .and .i64 p 30 != 0) = true := by rw [bit14, bne_iff_ne]; omega
        have HR : Hid (mapV n f ptbr vpn = (0, false)) := by show _ = _; rw [HV2.out, HA.out, show dirB p = false from by simp [dirB, p2]]; rfl
        clear p1 p2
        go_enter Try.func40, Try.ntmps40
        go_wp2_with fail
        refine HE.mono ?_
        rintro e w' ⟨rfl, rfl⟩
        clear HE
        go_wp2_with fail
        go_ret2
        exact ⟨ret2_ib (by rw [HR.out]) (by rw [HR.out]), rfl⟩
    · have b1 : (bits .and .i64 p 1 == 0) = true := by rw [bit0]; exact beq_iff_eq.2 (by omega)
      have HR : Hid (mapV n f ptbr vpn = (0, false)) := by show _ = _; rw [HV2.out, HA.out, show dirB p = false from by simp [dirB, p1]]; rfl
      clear p1
      go_enter Try.func40, Try.ntmps40
      go_wp2_with fail
      refine HE.mono ?_
      rintro e w' ⟨rfl, rfl⟩
      clear HE
      go_wp2_with fail
      go_ret2
      exact ⟨ret2_ib (by rw [HR.out]) (by rw [HR.out]), rfl⟩
  · have e2 : (bits .and .i64 ptbr 2147483648 == 0) = true := by rw [bit31]; exact beq_iff_eq.2 (by omega)
    have HR : Hid (mapV n f ptbr vpn = (0, false)) := by show _ = _; rw [HV.out, if_pos (show onB ptbr = false from decide_eq_false hon)]
    clear hon
    go_enter Try.func40, Try.ntmps40
    go_wp2_with fail
    go_ret2
    exact ⟨ret2_ib (by rw [HR.out]) (by rw [HR.out]), rfl⟩
end Go.Proofs.Ytadcmelbcahecaa

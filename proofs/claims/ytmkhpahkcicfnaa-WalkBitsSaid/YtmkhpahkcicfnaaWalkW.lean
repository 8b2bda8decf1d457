/- walk.Walk. -/
import Derived.Test.YtmkhpahkcicfnaaWalkM
import Derived.Test.YtmkhpahkcicfnaaScope
namespace Go.Proofs.Ytmkhpahkcicfnaa
open Go.RowKit

def hasB (e kind : Int) : Bool := if kind % 4 = 0 then decide (e / 8 % 2 = 1) else if kind % 4 = 2 then decide (e / 4 % 2 = 1) else decide (e / 2 % 2 = 1)
/-- May an access be by an entry? -/
def accB (e kind : Int) (user : Bool) : Bool := decide (e % 2 = 1) && (hasB e kind && ((!user || decide (e / 16 % 2 = 1)) && !(decide (kind % 4 = 0) && (decide (e / 16 % 2 = 1) && !user))))
def walkV (n : Nat) (f : Nat → Int) (ptbr va kind : Int) (user : Bool) : Int × Int :=
  if onB ptbr = false then (va % 4294967296, 0) else
  match entOf n f ptbr (va % 4294967296 / 4096) with
  | .ent e => if accB e kind user = true then (e / 4096 * 4096 + va % 4096, 0) else (0, needFault kind)
  | .dir => (0, needFault kind)
  | _ => (0, 4)

theorem ret2_ii {a b c d : Int} (h : a = c) (k : b = d) : Ending.returned (.tuple #[.int .i64 a, .int .i64 b]) = .returned (.tuple #[.int .i64 c, .int .i64 d]) := by rw [h, k]
theorem hasB_and (e kind : Int) : (bits .and .i64 e (needBit kind) == 0) = !hasB e kind := by
  unfold needBit hasB
  split
  · rw [bit3, Bool.eq_iff_iff]; simp; omega
  · split
    · rw [bit2, Bool.eq_iff_iff]; simp; omega
    · rw [bit1, Bool.eq_iff_iff]; simp; omega
theorem need8 (kind : Int) : (needBit kind == 8) = decide (kind % 4 = 0) := by
  unfold needBit
  split
  · rename_i h; simp [h]
  · rename_i h
    split <;> simp [h]

set_option maxRecDepth 100000 in
set_option maxHeartbeats 4000000 in
theorem walk_any {a b n : Nat} {f : Nat → Int} {w : World} (M : Mem 61 w a b n f) (ptbr va kind : Int) (user : Bool) :
    Calls Try.prog 30 #[.iface 23 (.pointer (some ⟨a, 0, none⟩)), .int .i64 ptbr, .int .i64 va, .int .i64 kind, .bool user] w fun e w' => e = .returned (.tuple #[.int .i64 (walkV n f ptbr va kind user).1, .int .i64 (walkV n f ptbr va kind user).2]) ∧ w = w' := by
  have HV : Hid (walkV n f ptbr va kind user = if onB ptbr = false then (va % 4294967296, 0) else
      match entOf n f ptbr (va % 4294967296 / 4096) with
      | .ent e => if accB e kind user = true then (e / 4096 * 4096 + va % 4096, 0) else (0, needFault kind)
      | .dir => (0, needFault kind)
      | _ => (0, 4)) := rfl
  have HOF := fun wx => of_any va wx
  have HW : Hid (va % 4294967296 % 4096 = va % 4096) := by show _ = _; omega
  obtain ⟨vw, hvw⟩ : ∃ vw, va % 4294967296 = vw := ⟨_, rfl⟩
  have hv0 : 0 ≤ vw := by omega
  have hv1 : vw < 4294967296 := by omega
  rw [hvw] at HV HOF HW
  clear hvw
  have HN := fun wx => need_any kind wx
  have H8 := Lib.hid (need8 kind)
  have HHB := Lib.hid (fun e => hasB_and e kind)
  have HAB : Hid (∀ e, accB e kind user = (decide (e % 2 = 1) && (hasB e kind && ((!user || decide (e / 16 % 2 = 1)) && !(decide (kind % 4 = 0) && (decide (e / 16 % 2 = 1) && !user)))))) := fun _ => rfl
  obtain ⟨nb, hnb⟩ : ∃ nb, needBit kind = nb := ⟨_, rfl⟩
  obtain ⟨nf, hnf⟩ : ∃ nf, needFault kind = nf := ⟨_, rfl⟩
  rw [hnb] at HN H8 HHB
  rw [hnf] at HN HV
  obtain ⟨k0, hk0⟩ : ∃ k0, decide (kind % 4 = 0) = k0 := ⟨_, rfl⟩
  rw [hk0] at H8 HAB
  have h8 := H8.out
  clear hnb hnf hk0 H8
  by_cases hon : ptbr / 2147483648 % 2 = 1
  · have e2 : (bits .and .i64 ptbr 2147483648 == 0) = false := by rw [bit31]; exact beq_eq_false_iff_ne.2 (by omega)
    have e3 : bits .and .i64 ptbr 1048575 = ptbr % 1048576 := and20 ptbr
    have HE := entry_any M (ptbr % 1048576) (vw / 4194304) (by omega) (by omega) (by omega) (by omega)
    have HV2 : Hid (walkV n f ptbr va kind user = match entOf n f ptbr (vw / 4096) with
      | .ent e => if accB e kind user = true then (e / 4096 * 4096 + va % 4096, 0) else (0, nf)
      | .dir => (0, nf)
      | _ => (0, 4)) := by show _ = _; rw [HV.out, show onB ptbr = true from decide_eq_true hon]; rfl
    have HA : Hid (entOf n f ptbr (vw / 4096) = if okB n (ptbr % 1048576 * 4096 + 4 * (vw / 4194304)) 4 = false then .bus
      else if dirB (ldV n f (ptbr % 1048576 * 4096 + 4 * (vw / 4194304)) 4) = false then .dir
      else if okB n (adr2 (ldV n f (ptbr % 1048576 * 4096 + 4 * (vw / 4194304)) 4) (vw / 4096)) 4 = false then .bus2 (ldV n f (ptbr % 1048576 * 4096 + 4 * (vw / 4194304)) 4)
      else .ent (ldV n f (adr2 (ldV n f (ptbr % 1048576 * 4096 + 4 * (vw / 4194304)) 4) (vw / 4096)) 4)) := by
      show _ = _
      have : vw / 4096 / 1024 = vw / 4194304 := by omega
      rw [← this]
      rfl
    have hp := ldV_rng M.rng (ptbr % 1048576 * 4096 + 4 * (vw / 4194304)) 4
    obtain ⟨p, hpv⟩ : ∃ p, ldV n f (ptbr % 1048576 * 4096 + 4 * (vw / 4194304)) 4 = p := ⟨_, rfl⟩
    obtain ⟨o1, ho1⟩ : ∃ o1, okB n (ptbr % 1048576 * 4096 + 4 * (vw / 4194304)) 4 = o1 := ⟨_, rfl⟩
    rw [hpv, ho1] at HE HA
    rw [hpv] at hp
    obtain ⟨hp0, hp1⟩ := hp
    clear hon HV hpv ho1
    cases o1
    · have HR : Hid (walkV n f ptbr va kind user = (0, 4)) := by show _ = _; rw [HV2.out, HA.out]; rfl
      go_enter Try.func30, Try.ntmps30
      go_wp2_with fail
      refine scope_once ?_
      go_wp2_with (first
        | (go_at_call 36; refine (HOF _).mono ?_; rintro e w' ⟨rfl, rfl⟩)
        | (go_at_call 37; refine (HN _).mono ?_; rintro e w' ⟨rfl, rfl⟩))
      refine HE.mono ?_
      rintro e w' ⟨rfl, rfl⟩
      clear HE HOF HN
      go_wp2_with fail
      all_goals try (go_step3; (repeat rw [then_goto]); rw [once_goto]; refine ⟨_, rfl, ?_⟩; go_wp2_with fail; repeat (go_step3; go_wp2_with fail))
      all_goals
        (repeat rw [then_ret])
        first | rw [Exit.noGoto_ret] | rw [once_ret] | skip
        go_ret2
        exact ⟨ret2_ii (by rw [HR.out]) (by rw [HR.out]), rfl⟩
    by_cases p1 : p % 2 = 1
    case neg =>
      have b1 : (bits .and .i64 p 1 == 0) = true := by rw [bit0]; exact beq_iff_eq.2 (by omega)
      have HR : Hid (walkV n f ptbr va kind user = (0, nf)) := by show _ = _; rw [HV2.out, HA.out, show dirB p = false from by simp [dirB, p1]]; rfl
      clear p1
      go_enter Try.func30, Try.ntmps30
      go_wp2_with fail
      refine scope_once ?_
      go_wp2_with (first
        | (go_at_call 36; refine (HOF _).mono ?_; rintro e w' ⟨rfl, rfl⟩)
        | (go_at_call 37; refine (HN _).mono ?_; rintro e w' ⟨rfl, rfl⟩))
      refine HE.mono ?_
      rintro e w' ⟨rfl, rfl⟩
      clear HE HOF HN
      go_wp2_with fail
      all_goals try (go_step3; (repeat rw [then_goto]); rw [once_goto]; refine ⟨_, rfl, ?_⟩; go_wp2_with fail; repeat (go_step3; go_wp2_with fail))
      all_goals
        (repeat rw [then_ret])
        first | rw [Exit.noGoto_ret] | rw [once_ret] | skip
        go_ret2
        exact ⟨ret2_ii (by rw [HR.out]) (by rw [HR.out]), rfl⟩
    have b1 : (bits .and .i64 p 1 == 0) = false := by rw [bit0]; exact beq_eq_false_iff_ne.2 (by omega)
    by_cases p2 : p / 2 % 16 = 0
    case neg =>
      have b2 : (bits .and .i64 p 30 != 0) = true := by rw [bit14, bne_iff_ne]; omega
      have HR : Hid (walkV n f ptbr va kind user = (0, nf)) := by show _ = _; rw [HV2.out, HA.out, show dirB p = false from by simp [dirB, p2]]; rfl
      clear p1 p2
      go_enter Try.func30, Try.ntmps30
      go_wp2_with fail
      refine scope_once ?_
      go_wp2_with (first
        | (go_at_call 36; refine (HOF _).mono ?_; rintro e w' ⟨rfl, rfl⟩)
        | (go_at_call 37; refine (HN _).mono ?_; rintro e w' ⟨rfl, rfl⟩))
      refine HE.mono ?_
      rintro e w' ⟨rfl, rfl⟩
      clear HE HOF HN
      go_wp2_with fail
      all_goals try (go_step3; (repeat rw [then_goto]); rw [once_goto]; refine ⟨_, rfl, ?_⟩; go_wp2_with fail; repeat (go_step3; go_wp2_with fail))
      all_goals
        (repeat rw [then_ret])
        first | rw [Exit.noGoto_ret] | rw [once_ret] | skip
        go_ret2
        exact ⟨ret2_ii (by rw [HR.out]) (by rw [HR.out]), rfl⟩
    have b2 : (bits .and .i64 p 30 != 0) = false := by rw [bit14, bne_eq_false_iff_eq]; omega
    have b3 : bits .and .i64 (vw / 4096) 1023 = vw / 4096 % 1024 := and1023 _
    have HE2 := entry_any M (p / 4096) (vw / 4096 % 1024) (by omega) (by omega) (by omega) (by omega)
    have HA2 : Hid (entOf n f ptbr (vw / 4096) = if okB n (p / 4096 * 4096 + 4 * (vw / 4096 % 1024)) 4 = false then .bus2 p else .ent (ldV n f (p / 4096 * 4096 + 4 * (vw / 4096 % 1024)) 4)) := by
      show _ = _
      rw [HA.out, show dirB p = true from by simp [dirB, p1, p2]]
      rfl
    have hq := ldV_rng M.rng (p / 4096 * 4096 + 4 * (vw / 4096 % 1024)) 4
    obtain ⟨q, hqv⟩ : ∃ q, ldV n f (p / 4096 * 4096 + 4 * (vw / 4096 % 1024)) 4 = q := ⟨_, rfl⟩
    obtain ⟨o2, ho2⟩ : ∃ o2, okB n (p / 4096 * 4096 + 4 * (vw / 4096 % 1024)) 4 = o2 := ⟨_, rfl⟩
    rw [hqv, ho2] at HE2 HA2
    rw [hqv] at hq
    obtain ⟨hq0, hq1⟩ := hq
    clear hqv ho2 p1 p2 HA
    cases o2
    case false =>
      have HR : Hid (walkV n f ptbr va kind user = (0, 4)) := by show _ = _; rw [HV2.out, HA2.out]; rfl
      go_enter Try.func30, Try.ntmps30
      go_wp2_with fail
      refine scope_once ?_
      go_wp2_with (first
        | (go_at_call 36; refine (HOF _).mono ?_; rintro e w' ⟨rfl, rfl⟩)
        | (go_at_call 37; refine (HN _).mono ?_; rintro e w' ⟨rfl, rfl⟩))
      refine HE.mono ?_
      rintro e w' ⟨rfl, rfl⟩
      clear HE HOF HN
      go_wp2_with fail
      refine HE2.mono ?_
      rintro e w' ⟨rfl, rfl⟩
      clear HE2
      go_wp2_with fail
      all_goals try (go_step3; (repeat rw [then_goto]); rw [once_goto]; refine ⟨_, rfl, ?_⟩; go_wp2_with fail; repeat (go_step3; go_wp2_with fail))
      all_goals
        (repeat rw [then_ret])
        first | rw [Exit.noGoto_ret] | rw [once_ret] | skip
        go_ret2
        exact ⟨ret2_ii (by rw [HR.out]) (by rw [HR.out]), rfl⟩
    have HV3 : Hid (walkV n f ptbr va kind user = if accB q kind user = true then (q / 4096 * 4096 + va % 4096, 0) else (0, nf)) := by show _ = _; rw [HV2.out, HA2.out]; rfl
    have HQ := Lib.hid (HAB.out q)
    have hb := HHB.out q
    obtain ⟨x2, hx2⟩ : ∃ x2, hasB q kind = x2 := ⟨_, rfl⟩
    have hu0 : (bits .and .i64 q 16 == 0) = !decide (q / 16 % 2 = 1) := by rw [bit4, Bool.eq_iff_iff]; simp; omega
    have hu1 : (bits .and .i64 q 16 != 0) = decide (q / 16 % 2 = 1) := by rw [bit4, Bool.eq_iff_iff]; simp; omega
    have hv : (bits .and .i64 q 1 == 0) = !decide (q % 2 = 1) := by rw [bit0, Bool.eq_iff_iff]; simp; omega
    obtain ⟨x1, hx1⟩ : ∃ x1, decide (q % 2 = 1) = x1 := ⟨_, rfl⟩
    obtain ⟨x3, hx3⟩ : ∃ x3, decide (q / 16 % 2 = 1) = x3 := ⟨_, rfl⟩
    rw [hx1] at HQ hv
    rw [hx2] at HQ hb
    rw [hx3] at HQ hu0 hu1
    clear hx1 hx2 hx3 HHB HAB HA2 HV2
    cases x1
    case false =>
      simp only [Bool.not_true, Bool.not_false] at hv
      have HR : Hid (walkV n f ptbr va kind user = (0, nf)) := by show _ = _; rw [HV3.out, HQ.out]; (try cases k0) <;> (try cases x3) <;> rfl
      go_enter Try.func30, Try.ntmps30
      go_wp2_with fail
      refine scope_once ?_
      go_wp2_with (first
        | (go_at_call 36; refine (HOF _).mono ?_; rintro e w' ⟨rfl, rfl⟩)
        | (go_at_call 37; refine (HN _).mono ?_; rintro e w' ⟨rfl, rfl⟩))
      refine HE.mono ?_
      rintro e w' ⟨rfl, rfl⟩
      clear HE HOF HN
      go_wp2_with fail
      refine HE2.mono ?_
      rintro e w' ⟨rfl, rfl⟩
      clear HE2
      go_wp2_with fail
      all_goals try (go_step3; (repeat rw [then_goto]); rw [once_goto]; refine ⟨_, rfl, ?_⟩; go_wp2_with fail; repeat (go_step3; go_wp2_with fail))
      all_goals
        (repeat rw [then_ret])
        first | rw [Exit.noGoto_ret] | rw [once_ret] | skip
        go_ret2
        exact ⟨ret2_ii (by rw [HR.out]) (by rw [HR.out]), rfl⟩
    case true =>
      simp only [Bool.not_true, Bool.not_false] at hv
      cases x2
      case false =>
        simp only [Bool.not_true, Bool.not_false] at hb
        have HR : Hid (walkV n f ptbr va kind user = (0, nf)) := by show _ = _; rw [HV3.out, HQ.out]; (try cases k0) <;> (try cases x3) <;> rfl
        go_enter Try.func30, Try.ntmps30
        go_wp2_with fail
        refine scope_once ?_
        go_wp2_with (first
          | (go_at_call 36; refine (HOF _).mono ?_; rintro e w' ⟨rfl, rfl⟩)
          | (go_at_call 37; refine (HN _).mono ?_; rintro e w' ⟨rfl, rfl⟩))
        refine HE.mono ?_
        rintro e w' ⟨rfl, rfl⟩
        clear HE HOF HN
        go_wp2_with fail
        refine HE2.mono ?_
        rintro e w' ⟨rfl, rfl⟩
        clear HE2
        go_wp2_with fail
        all_goals try (go_step3; (repeat rw [then_goto]); rw [once_goto]; refine ⟨_, rfl, ?_⟩; go_wp2_with fail; repeat (go_step3; go_wp2_with fail))
        all_goals
          (repeat rw [then_ret])
          first | rw [Exit.noGoto_ret] | rw [once_ret] | skip
          go_ret2
          exact ⟨ret2_ii (by rw [HR.out]) (by rw [HR.out]), rfl⟩
      case true =>
        simp only [Bool.not_true, Bool.not_false] at hb
        cases user
        case false =>
          cases x3
          case false =>
            simp only [Bool.not_true, Bool.not_false] at hu0
            cases k0
            case false =>
              have b5 : bits .andNot .i64 q 4095 = q / 4096 * 4096 := andnot12 q (by omega) (by omega)
              have b6 : bits .and .i64 vw 4095 = vw % 4096 := and4095 vw
              have b7 : bits .or .i64 (q / 4096 * 4096) (vw % 4096) = q / 4096 * 4096 + vw % 4096 := or12 (q / 4096) (vw % 4096) (by omega) (by omega) (by omega) (by omega)
              have HR : Hid (walkV n f ptbr va kind false = (q / 4096 * 4096 + vw % 4096, 0)) := by show _ = _; rw [HV3.out, HQ.out, HW.out]; (try cases k0) <;> rfl
              go_enter Try.func30, Try.ntmps30
              go_wp2_with fail
              refine scope_once ?_
              go_wp2_with (first
                | (go_at_call 36; refine (HOF _).mono ?_; rintro e w' ⟨rfl, rfl⟩)
                | (go_at_call 37; refine (HN _).mono ?_; rintro e w' ⟨rfl, rfl⟩))
              refine HE.mono ?_
              rintro e w' ⟨rfl, rfl⟩
              clear HE HOF HN
              go_wp2_with fail
              refine HE2.mono ?_
              rintro e w' ⟨rfl, rfl⟩
              clear HE2
              go_wp2_with fail
              all_goals try (go_step3; (repeat rw [then_goto]); rw [once_goto]; refine ⟨_, rfl, ?_⟩; go_wp2_with fail; repeat (go_step3; go_wp2_with fail))
              all_goals
                (repeat rw [then_ret])
                first | rw [Exit.noGoto_ret] | rw [once_ret] | skip
                go_ret2
                exact ⟨ret2_ii (by rw [HR.out]) (by rw [HR.out]), rfl⟩
            case true =>
              have b5 : bits .andNot .i64 q 4095 = q / 4096 * 4096 := andnot12 q (by omega) (by omega)
              have b6 : bits .and .i64 vw 4095 = vw % 4096 := and4095 vw
              have b7 : bits .or .i64 (q / 4096 * 4096) (vw % 4096) = q / 4096 * 4096 + vw % 4096 := or12 (q / 4096) (vw % 4096) (by omega) (by omega) (by omega) (by omega)
              have HR : Hid (walkV n f ptbr va kind false = (q / 4096 * 4096 + vw % 4096, 0)) := by show _ = _; rw [HV3.out, HQ.out, HW.out]; (try cases k0) <;> rfl
              go_enter Try.func30, Try.ntmps30
              go_wp2_with fail
              refine scope_once ?_
              go_wp2_with (first
                | (go_at_call 36; refine (HOF _).mono ?_; rintro e w' ⟨rfl, rfl⟩)
                | (go_at_call 37; refine (HN _).mono ?_; rintro e w' ⟨rfl, rfl⟩))
              refine HE.mono ?_
              rintro e w' ⟨rfl, rfl⟩
              clear HE HOF HN
              go_wp2_with fail
              refine HE2.mono ?_
              rintro e w' ⟨rfl, rfl⟩
              clear HE2
              go_wp2_with fail
              all_goals try (go_step3; (repeat rw [then_goto]); rw [once_goto]; refine ⟨_, rfl, ?_⟩; go_wp2_with fail; repeat (go_step3; go_wp2_with fail))
              all_goals
                (repeat rw [then_ret])
                first | rw [Exit.noGoto_ret] | rw [once_ret] | skip
                go_ret2
                exact ⟨ret2_ii (by rw [HR.out]) (by rw [HR.out]), rfl⟩
          case true =>
            simp only [Bool.not_true, Bool.not_false] at hu0
            cases k0
            case false =>
              have b5 : bits .andNot .i64 q 4095 = q / 4096 * 4096 := andnot12 q (by omega) (by omega)
              have b6 : bits .and .i64 vw 4095 = vw % 4096 := and4095 vw
              have b7 : bits .or .i64 (q / 4096 * 4096) (vw % 4096) = q / 4096 * 4096 + vw % 4096 := or12 (q / 4096) (vw % 4096) (by omega) (by omega) (by omega) (by omega)
              have HR : Hid (walkV n f ptbr va kind false = (q / 4096 * 4096 + vw % 4096, 0)) := by show _ = _; rw [HV3.out, HQ.out, HW.out]; (try cases k0) <;> rfl
              go_enter Try.func30, Try.ntmps30
              go_wp2_with fail
              refine scope_once ?_
              go_wp2_with (first
                | (go_at_call 36; refine (HOF _).mono ?_; rintro e w' ⟨rfl, rfl⟩)
                | (go_at_call 37; refine (HN _).mono ?_; rintro e w' ⟨rfl, rfl⟩))
              refine HE.mono ?_
              rintro e w' ⟨rfl, rfl⟩
              clear HE HOF HN
              go_wp2_with fail
              refine HE2.mono ?_
              rintro e w' ⟨rfl, rfl⟩
              clear HE2
              go_wp2_with fail
              all_goals try (go_step3; (repeat rw [then_goto]); rw [once_goto]; refine ⟨_, rfl, ?_⟩; go_wp2_with fail; repeat (go_step3; go_wp2_with fail))
              all_goals
                (repeat rw [then_ret])
                first | rw [Exit.noGoto_ret] | rw [once_ret] | skip
                go_ret2
                exact ⟨ret2_ii (by rw [HR.out]) (by rw [HR.out]), rfl⟩
            case true =>
              have HR : Hid (walkV n f ptbr va kind false = (0, nf)) := by show _ = _; rw [HV3.out, HQ.out]; (try cases k0) <;> (try cases x3) <;> rfl
              go_enter Try.func30, Try.ntmps30
              go_wp2_with fail
              refine scope_once ?_
              go_wp2_with (first
                | (go_at_call 36; refine (HOF _).mono ?_; rintro e w' ⟨rfl, rfl⟩)
                | (go_at_call 37; refine (HN _).mono ?_; rintro e w' ⟨rfl, rfl⟩))
              refine HE.mono ?_
              rintro e w' ⟨rfl, rfl⟩
              clear HE HOF HN
              go_wp2_with fail
              refine HE2.mono ?_
              rintro e w' ⟨rfl, rfl⟩
              clear HE2
              go_wp2_with fail
              all_goals try (go_step3; (repeat rw [then_goto]); rw [once_goto]; refine ⟨_, rfl, ?_⟩; go_wp2_with fail; repeat (go_step3; go_wp2_with fail))
              all_goals
                (repeat rw [then_ret])
                first | rw [Exit.noGoto_ret] | rw [once_ret] | skip
                go_ret2
                exact ⟨ret2_ii (by rw [HR.out]) (by rw [HR.out]), rfl⟩
        case true =>
          cases x3
          case false =>
            simp only [Bool.not_true, Bool.not_false] at hu0
            have HR : Hid (walkV n f ptbr va kind true = (0, nf)) := by show _ = _; rw [HV3.out, HQ.out]; (try cases k0) <;> (try cases x3) <;> rfl
            go_enter Try.func30, Try.ntmps30
            go_wp2_with fail
            refine scope_once ?_
            go_wp2_with (first
              | (go_at_call 36; refine (HOF _).mono ?_; rintro e w' ⟨rfl, rfl⟩)
              | (go_at_call 37; refine (HN _).mono ?_; rintro e w' ⟨rfl, rfl⟩))
            refine HE.mono ?_
            rintro e w' ⟨rfl, rfl⟩
            clear HE HOF HN
            go_wp2_with fail
            refine HE2.mono ?_
            rintro e w' ⟨rfl, rfl⟩
            clear HE2
            go_wp2_with fail
            all_goals try (go_step3; (repeat rw [then_goto]); rw [once_goto]; refine ⟨_, rfl, ?_⟩; go_wp2_with fail; repeat (go_step3; go_wp2_with fail))
            all_goals
              (repeat rw [then_ret])
              first | rw [Exit.noGoto_ret] | rw [once_ret] | skip
              go_ret2
              exact ⟨ret2_ii (by rw [HR.out]) (by rw [HR.out]), rfl⟩
          case true =>
            simp only [Bool.not_true, Bool.not_false] at hu0
            have b5 : bits .andNot .i64 q 4095 = q / 4096 * 4096 := andnot12 q (by omega) (by omega)
            have b6 : bits .and .i64 vw 4095 = vw % 4096 := and4095 vw
            have b7 : bits .or .i64 (q / 4096 * 4096) (vw % 4096) = q / 4096 * 4096 + vw % 4096 := or12 (q / 4096) (vw % 4096) (by omega) (by omega) (by omega) (by omega)
            have HR : Hid (walkV n f ptbr va kind true = (q / 4096 * 4096 + vw % 4096, 0)) := by show _ = _; rw [HV3.out, HQ.out, HW.out]; (try cases k0) <;> rfl
            go_enter Try.func30, Try.ntmps30
            go_wp2_with fail
            refine scope_once ?_
            go_wp2_with (first
              | (go_at_call 36; refine (HOF _).mono ?_; rintro e w' ⟨rfl, rfl⟩)
              | (go_at_call 37; refine (HN _).mono ?_; rintro e w' ⟨rfl, rfl⟩))
            refine HE.mono ?_
            rintro e w' ⟨rfl, rfl⟩
            clear HE HOF HN
            go_wp2_with fail
            refine HE2.mono ?_
            rintro e w' ⟨rfl, rfl⟩
            clear HE2
            go_wp2_with fail
            all_goals try (go_step3; (repeat rw [then_goto]); rw [once_goto]; refine ⟨_, rfl, ?_⟩; go_wp2_with fail; repeat (go_step3; go_wp2_with fail))
            all_goals
              (repeat rw [then_ret])
              first | rw [Exit.noGoto_ret] | rw [once_ret] | skip
              go_ret2
              exact ⟨ret2_ii (by rw [HR.out]) (by rw [HR.out]), rfl⟩
  · have e2 : (bits .and .i64 ptbr 2147483648 == 0) = true := by rw [bit31]; exact beq_iff_eq.2 (by omega)
    have HR : Hid (walkV n f ptbr va kind user = (vw, 0)) := by show _ = _; rw [HV.out, if_pos (show onB ptbr = false from decide_eq_false hon)]
    clear hon
    go_enter Try.func30, Try.ntmps30
    go_wp2_with fail
    refine scope_once ?_
    go_wp2_with (go_at_call 36; refine (HOF _).mono ?_; rintro e w' ⟨rfl, rfl⟩)
    rw [once_ret]
    go_ret2
    exact ⟨ret2_ii (by rw [HR.out]) (by rw [HR.out]), rfl⟩
  end Go.Proofs.Ytmkhpahkcicfnaa

/- trunnionref1.Walk, of a user. -/
import Derived.Test.YtadcmelbcahecaaWalkM
import Derived.Test.YtadcmelbcahecaaRefMem
import Derived.Test.YtadcmelbcahecaaShB
import Derived.Test.YtadcmelbcahecaaOwn2
namespace Go.Proofs.Ytadcmelbcahecaa
open Go.RowKit

def hasB (e kind : Int) : Bool := if kind % 4 = 0 then decide (e / 8 % 2 = 1) else if kind % 4 = 2 then decide (e / 4 % 2 = 1) else decide (e / 2 % 2 = 1)
/-- May a user's access be by an entry? -/
def accU (e kind : Int) : Bool := decide (e % 2 = 1) && (hasB e kind && decide (e / 16 % 2 = 1))
def walkU (n : Nat) (f : Nat → Int) (ptbr va kind : Int) : Int × Int :=
  if onB ptbr = false then (va % 4294967296, 0) else
  match entOf n f ptbr (va % 4294967296 / 4096) with
  | .ent e => if accU e kind = true then (e / 4096 * 4096 + va % 4096, 0) else (0, needFault kind)
  | .dir => (0, needFault kind)
  | _ => (0, 4)

theorem ret2_iiw {a b c d : Int} (h : a = c) (k : b = d) : Ending.returned (.tuple #[.int .i64 a, .int .i64 b]) = .returned (.tuple #[.int .i64 c, .int .i64 d]) := by rw [h, k]
theorem hasB_and (e kind : Int) : (bits .and .i64 e (needBit kind) == 0) = !hasB e kind := by
  unfold needBit hasB
  split
  · rw [bit3, Bool.eq_iff_iff]; simp; omega
  · split
    · rw [bit2, Bool.eq_iff_iff]; simp; omega
    · rw [bit1, Bool.eq_iff_iff]; simp; omega
theorem rw_any (x : Int) (w : World) : Calls Try.prog 13 #[.int .i64 x] w fun e w' => e = .returned (.int .i64 (x % 4294967296)) ∧ w = w' := by
  have e1 : bits .and .i64 x 4294967295 = x % 4294967296 := and32 x
  go_enter Try.func13, Try.ntmps13
  go_wp2
  go_ret
  exact ⟨rfl, rfl⟩

theorem row4 (w : World) (t : TypeId) (x0 x1 x2 x3 : Int) (k : Nat) (hk : k < 4) : (w.alloc (.cells #[.int .i64 x0, .int .i64 x1, .int .i64 x2, .int .i64 x3] t)).cell? ⟨w.heap.size, k, none⟩ = some (.int .i64 ([x0, x1, x2, x3][k]'hk)) := by
  have hb := (Box.new w t #[.int .i64 x0, .int .i64 x1, .int .i64 x2, .int .i64 x3]).cell k
  rw [hb]
  match k, hk with
  | 0, _ => rfl
  | 1, _ => rfl
  | 2, _ => rfl
  | 3, _ => rfl
theorem fault4 (k : Nat) (hk : k < 4) : [(5 : Int), 6, 7, 6][k]'hk = needFault k := by
  match k, hk with
  | 0, _ => rfl
  | 1, _ => rfl
  | 2, _ => rfl
  | 3, _ => rfl
theorem bit4k (k : Nat) (hk : k < 4) : [(8 : Int), 2, 4, 2][k]'hk = needBit k := by
  match k, hk with
  | 0, _ => rfl
  | 1, _ => rfl
  | 2, _ => rfl
  | 3, _ => rfl

set_option maxRecDepth 100000 in
set_option maxHeartbeats 4000000 in
theorem rwalk_any {a b n : Nat} {f : Nat → Int} {w : World} (M : Mem 76 w a b n f) (ptbr va : Int) (k : Nat) (hk : k < 4) :
    Calls Try.prog 14 #[.pointer (some ⟨a, 0, none⟩), .int .i64 ptbr, .int .i64 va, .int .i64 (k : Int), .bool true] w fun e w' => e = .returned (.tuple #[.int .i64 (walkU n f ptbr va k).1, .int .i64 (walkU n f ptbr va k).2]) ∧ Chg w w' (fun _ => False) := by
  have HV : Hid (walkU n f ptbr va k = if onB ptbr = false then (va % 4294967296, 0) else
      match entOf n f ptbr (va % 4294967296 / 4096) with
      | .ent e => if accU e k = true then (e / 4096 * 4096 + va % 4096, 0) else (0, needFault k)
      | .dir => (0, needFault k)
      | _ => (0, 4)) := rfl
  have HOF := fun wx => rw_any va wx
  have HW : Hid (va % 4294967296 % 4096 = va % 4096) := by show _ = _; omega
  obtain ⟨vw, hvw⟩ : ∃ vw, va % 4294967296 = vw := ⟨_, rfl⟩
  have hv0 : 0 ≤ vw := by omega
  have hv1 : vw < 4294967296 := by omega
  rw [hvw] at HV HOF HW
  clear hvw
  have W2 : Chg w ((w.alloc (.cells #[.int .i64 5, .int .i64 6, .int .i64 7, .int .i64 6] 3)).alloc (.cells #[.int .i64 8, .int .i64 2, .int .i64 4, .int .i64 2] 3)) (fun _ => False) := ((Chg.refl w _).alloc _).alloc _
  have M2 := M.chg W2 (fun h => h) (fun h => h)
  have hkI : (k : Int) < 4 := by omega
  have hk0 : (0 : Int) ≤ (k : Int) := by omega
  have e0 : bits .and .i64 (k : Int) 3 = (k : Int) := by rw [and3]; omega
  have c1 := row4 w 3 5 6 7 6 k hk
  have c2 := row4 (w.alloc (.cells #[.int .i64 5, .int .i64 6, .int .i64 7, .int .i64 6] 3)) 3 8 2 4 2 k hk
  rw [fault4] at c1
  rw [bit4k, World.size_alloc] at c2
  have HHB := Lib.hid (fun e => hasB_and e k)
  have HAB : Hid (∀ e, accU e k = (decide (e % 2 = 1) && (hasB e k && decide (e / 16 % 2 = 1)))) := fun _ => rfl
  obtain ⟨nb, hnb⟩ : ∃ nb, needBit (k : Int) = nb := ⟨_, rfl⟩
  obtain ⟨nf, hnf⟩ : ∃ nf, needFault (k : Int) = nf := ⟨_, rfl⟩
  rw [hnb] at c2 HHB
  rw [hnf] at c1 HV
  clear hnb hnf
  by_cases hon : ptbr / 2147483648 % 2 = 1
  · have e2 : (bits .and .i64 ptbr 2147483648 == 0) = false := by rw [bit31]; exact beq_eq_false_iff_ne.2 (by omega)
    have e3 : bits .and .i64 ptbr 1048575 = ptbr % 1048576 := and20 ptbr
    have HE := rload_any M2 (ptbr % 1048576 * 4096 + 4 * (vw / 4194304)) 4
    have HV2 : Hid (walkU n f ptbr va k = match entOf n f ptbr (vw / 4096) with
      | .ent e => if accU e k = true then (e / 4096 * 4096 + va % 4096, 0) else (0, nf)
      | .dir => (0, nf)
      | _ => (0, 4)) := by show _ = _; rw [HV.out, show onB ptbr = true from decide_eq_true hon]; rfl
    have HA : Hid (entOf n f ptbr (vw / 4096) = if okB n (ptbr % 1048576 * 4096 + 4 * (vw / 4194304)) 4 = false then .bus
      else if dirB (ldV n f (ptbr % 1048576 * 4096 + 4 * (vw / 4194304)) 4) = false then .dir
      else if okB n (adr2 (ldV n f (ptbr % 1048576 * 4096 + 4 * (vw / 4194304)) 4) (vw / 4096)) 4 = false then .bus2 (ldV n f (ptbr % 1048576 * 4096 + 4 * (vw / 4194304)) 4)
      else .ent (ldV n f (adr2 (ldV n f (ptbr % 1048576 * 4096 + 4 * (vw / 4194304)) 4) (vw / 4096)) 4)) := by
      show _ = _
      have : vw / 4096 / 1024 = vw / 4194304 := by omega
      rw [← this]
      rfl
    have hp := ldV_rng M.rng (ptbr % 1048576 * 4096 + 4 * (vw / 4194304)) 4
    obtain ⟨p, hpv⟩ : ∃ p, ldV n f (ptbr % 1048576 * 4096 + 4 * (vw / 4194304)) 4 = p := ⟨_, rfl⟩
    obtain ⟨o1, ho1⟩ : ∃ o1, okB n (ptbr % 1048576 * 4096 + 4 * (vw / 4194304)) 4 = o1 := ⟨_, rfl⟩
    rw [hpv, ho1] at HE HA
    rw [hpv] at hp
    obtain ⟨hp0, hp1⟩ := hp
    clear hon HV hpv ho1
    cases o1
    · have HR : Hid (walkU n f ptbr va k = (0, 4)) := by show _ = _; rw [HV2.out, HA.out]; rfl
      go_enter Try.func14, Try.ntmps14
      go_wp2_with (go_at_call 13; refine (HOF _).mono ?_; rintro e w' ⟨rfl, rfl⟩)
      refine HE.mono ?_
      rintro e w' ⟨rfl, rfl⟩
      clear HE HOF
      go_wp2_with fail
      go_ret2
      exact ⟨ret2_iiw (by rw [HR.out]) (by rw [HR.out]), W2⟩
    by_cases p1 : p % 2 = 1
    case neg =>
      have b1 : (bits .and .i64 p 1 == 0) = true := by rw [bit0]; exact beq_iff_eq.2 (by omega)
      have HR : Hid (walkU n f ptbr va k = (0, nf)) := by show _ = _; rw [HV2.out, HA.out, show dirB p = false from by simp [dirB, p1]]; rfl
      clear p1
      go_enter Try.func14, Try.ntmps14
      go_wp2_with (go_at_call 13; refine (HOF _).mono ?_; rintro e w' ⟨rfl, rfl⟩)
      refine HE.mono ?_
      rintro e w' ⟨rfl, rfl⟩
      clear HE HOF
      go_wp2_with fail
      go_ret2
      exact ⟨ret2_iiw (by rw [HR.out]) (by rw [HR.out]), W2⟩
    have b1 : (bits .and .i64 p 1 == 0) = false := by rw [bit0]; exact beq_eq_false_iff_ne.2 (by omega)
    by_cases p2 : p / 2 % 16 = 0
    case neg =>
      have b2 : (bits .and .i64 p 30 != 0) = true := by rw [bit14, bne_iff_ne]; omega
      have HR : Hid (walkU n f ptbr va k = (0, nf)) := by show _ = _; rw [HV2.out, HA.out, show dirB p = false from by simp [dirB, p2]]; rfl
      clear p1 p2
      go_enter Try.func14, Try.ntmps14
      go_wp2_with (go_at_call 13; refine (HOF _).mono ?_; rintro e w' ⟨rfl, rfl⟩)
      refine HE.mono ?_
      rintro e w' ⟨rfl, rfl⟩
      clear HE HOF
      go_wp2_with fail
      go_ret2
      exact ⟨ret2_iiw (by rw [HR.out]) (by rw [HR.out]), W2⟩
    have b2 : (bits .and .i64 p 30 != 0) = false := by rw [bit14, bne_eq_false_iff_eq]; omega
    have b3 : bits .and .i64 (vw / 4096) 1023 = vw / 4096 % 1024 := and1023 _
    have HE2 := rload_any M2 (p / 4096 * 4096 + 4 * (vw / 4096 % 1024)) 4
    have HA2 : Hid (entOf n f ptbr (vw / 4096) = if okB n (p / 4096 * 4096 + 4 * (vw / 4096 % 1024)) 4 = false then .bus2 p else .ent (ldV n f (p / 4096 * 4096 + 4 * (vw / 4096 % 1024)) 4)) := by
      show _ = _
      rw [HA.out, show dirB p = true from by simp [dirB, p1, p2]]
      rfl
    have hq := ldV_rng M.rng (p / 4096 * 4096 + 4 * (vw / 4096 % 1024)) 4
    obtain ⟨q, hqv⟩ : ∃ q, ldV n f (p / 4096 * 4096 + 4 * (vw / 4096 % 1024)) 4 = q := ⟨_, rfl⟩
    obtain ⟨o2, ho2⟩ : ∃ o2, okB n (p / 4096 * 4096 + 4 * (vw / 4096 % 1024)) 4 = o2 := ⟨_, rfl⟩
    rw [hqv, ho2] at HE2 HA2
    rw [hqv] at hq
    obtain ⟨hq0, hq1⟩ := hq
    clear hqv ho2 p1 p2 HA
    cases o2
    case false =>
      have HR : Hid (walkU n f ptbr va k = (0, 4)) := by show _ = _; rw [HV2.out, HA2.out]; rfl
      go_enter Try.func14, Try.ntmps14
      go_wp2_with (go_at_call 13; refine (HOF _).mono ?_; rintro e w' ⟨rfl, rfl⟩)
      refine HE.mono ?_
      rintro e w' ⟨rfl, rfl⟩
      clear HE HOF
      go_wp2_with fail
      refine HE2.mono ?_
      rintro e w' ⟨rfl, rfl⟩
      clear HE2
      go_wp2_with fail
      go_ret2
      exact ⟨ret2_iiw (by rw [HR.out]) (by rw [HR.out]), W2⟩
    have HV3 : Hid (walkU n f ptbr va k = if accU q k = true then (q / 4096 * 4096 + va % 4096, 0) else (0, nf)) := by show _ = _; rw [HV2.out, HA2.out]; rfl
    have HQ := Lib.hid (HAB.out q)
    have hb := HHB.out q
    obtain ⟨x2, hx2⟩ : ∃ x2, hasB q k = x2 := ⟨_, rfl⟩
    have hu0 : (bits .and .i64 q 16 == 0) = !decide (q / 16 % 2 = 1) := by rw [bit4, Bool.eq_iff_iff]; simp; omega
    have hu1 : (bits .and .i64 q 16 != 0) = decide (q / 16 % 2 = 1) := by rw [bit4, Bool.eq_iff_iff]; simp; omega
    have hv : (bits .and .i64 q 1 == 0) = !decide (q % 2 = 1) := by rw [bit0, Bool.eq_iff_iff]; simp; omega
    obtain ⟨x1, hx1⟩ : ∃ x1, decide (q % 2 = 1) = x1 := ⟨_, rfl⟩
    obtain ⟨x3, hx3⟩ : ∃ x3, decide (q / 16 % 2 = 1) = x3 := ⟨_, rfl⟩
    obtain ⟨k0, hk00⟩ : ∃ k0, ((k : Int) == 0) = k0 := ⟨_, rfl⟩
    rw [hx1] at HQ hv
    rw [hx2] at HQ hb
    rw [hx3] at HQ hu0 hu1
    clear hx1 hx2 hx3 HHB HAB HA2 HV2
    cases x1
    case false =>
      simp only [Bool.not_false] at hv
      have HR : Hid (walkU n f ptbr va k = (0, nf)) := by show _ = _; rw [HV3.out, HQ.out]; (try cases x2) <;> (try cases x3) <;> rfl
      go_enter Try.func14, Try.ntmps14
      go_wp2_with (go_at_call 13; refine (HOF _).mono ?_; rintro e w' ⟨rfl, rfl⟩)
      refine HE.mono ?_
      rintro e w' ⟨rfl, rfl⟩
      clear HE HOF
      go_wp2_with fail
      refine HE2.mono ?_
      rintro e w' ⟨rfl, rfl⟩
      clear HE2
      go_wp2_with fail
      go_ret2
      exact ⟨ret2_iiw (by rw [HR.out]) (by rw [HR.out]), W2⟩
    simp only [Bool.not_true] at hv
    cases x2
    case false =>
      simp only [Bool.not_false] at hb
      have HR : Hid (walkU n f ptbr va k = (0, nf)) := by show _ = _; rw [HV3.out, HQ.out]; (try cases x2) <;> (try cases x3) <;> rfl
      go_enter Try.func14, Try.ntmps14
      go_wp2_with (go_at_call 13; refine (HOF _).mono ?_; rintro e w' ⟨rfl, rfl⟩)
      refine HE.mono ?_
      rintro e w' ⟨rfl, rfl⟩
      clear HE HOF
      go_wp2_with fail
      refine HE2.mono ?_
      rintro e w' ⟨rfl, rfl⟩
      clear HE2
      go_wp2_with fail
      go_ret2
      exact ⟨ret2_iiw (by rw [HR.out]) (by rw [HR.out]), W2⟩
    simp only [Bool.not_true] at hb
    cases x3
    case false =>
      simp only [Bool.not_false] at hu0
      have HR : Hid (walkU n f ptbr va k = (0, nf)) := by show _ = _; rw [HV3.out, HQ.out]; (try cases x2) <;> (try cases x3) <;> rfl
      go_enter Try.func14, Try.ntmps14
      go_wp2_with (go_at_call 13; refine (HOF _).mono ?_; rintro e w' ⟨rfl, rfl⟩)
      refine HE.mono ?_
      rintro e w' ⟨rfl, rfl⟩
      clear HE HOF
      go_wp2_with fail
      refine HE2.mono ?_
      rintro e w' ⟨rfl, rfl⟩
      clear HE2
      go_wp2_with fail
      go_ret2
      exact ⟨ret2_iiw (by rw [HR.out]) (by rw [HR.out]), W2⟩
    simp only [Bool.not_true] at hu0
    cases k0
    case false =>
      have b5 : bits .and .i64 vw 4095 = vw % 4096 := and4095 vw
      have b7 : bits .or .i64 (q / 4096 * 4096) (vw % 4096) = q / 4096 * 4096 + vw % 4096 := or12 (q / 4096) (vw % 4096) (by omega) (by omega) (by omega) (by omega)
      have HR : Hid (walkU n f ptbr va k = (q / 4096 * 4096 + vw % 4096, 0)) := by show _ = _; rw [HV3.out, HQ.out, HW.out]; rfl
      go_enter Try.func14, Try.ntmps14
      go_wp2_with (go_at_call 13; refine (HOF _).mono ?_; rintro e w' ⟨rfl, rfl⟩)
      refine HE.mono ?_
      rintro e w' ⟨rfl, rfl⟩
      clear HE HOF
      go_wp2_with fail
      refine HE2.mono ?_
      rintro e w' ⟨rfl, rfl⟩
      clear HE2
      go_wp2_with fail
      go_ret2
      exact ⟨ret2_iiw (by rw [HR.out]) (by rw [HR.out]), W2⟩
    case true =>
      have b5 : bits .and .i64 vw 4095 = vw % 4096 := and4095 vw
      have b7 : bits .or .i64 (q / 4096 * 4096) (vw % 4096) = q / 4096 * 4096 + vw % 4096 := or12 (q / 4096) (vw % 4096) (by omega) (by omega) (by omega) (by omega)
      have HR : Hid (walkU n f ptbr va k = (q / 4096 * 4096 + vw % 4096, 0)) := by show _ = _; rw [HV3.out, HQ.out, HW.out]; rfl
      go_enter Try.func14, Try.ntmps14
      go_wp2_with (go_at_call 13; refine (HOF _).mono ?_; rintro e w' ⟨rfl, rfl⟩)
      refine HE.mono ?_
      rintro e w' ⟨rfl, rfl⟩
      clear HE HOF
      go_wp2_with fail
      refine HE2.mono ?_
      rintro e w' ⟨rfl, rfl⟩
      clear HE2
      go_wp2_with fail
      go_ret2
      exact ⟨ret2_iiw (by rw [HR.out]) (by rw [HR.out]), W2⟩
  · have e2 : (bits .and .i64 ptbr 2147483648 == 0) = true := by rw [bit31]; exact beq_iff_eq.2 (by omega)
    have HR : Hid (walkU n f ptbr va k = (vw, 0)) := by show _ = _; rw [HV.out, if_pos (show onB ptbr = false from decide_eq_false hon)]
    clear hon
    go_enter Try.func14, Try.ntmps14
    go_wp2_with (go_at_call 13; refine (HOF _).mono ?_; rintro e w' ⟨rfl, rfl⟩)
    go_ret2
    exact ⟨ret2_iiw (by rw [HR.out]) (by rw [HR.out]), Chg.refl _ _⟩
  end Go.Proofs.Ytadcmelbcahecaa

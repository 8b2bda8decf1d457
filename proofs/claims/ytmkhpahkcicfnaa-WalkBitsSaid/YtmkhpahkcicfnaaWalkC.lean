/- walk: Of, need, entry. -/
import Derived.Test.YtmkhpahkcicfnaaPhysUtil
import Derived.Test.YtmkhpahkcicfnaaBits2
import Derived.Deep.RegionWith
namespace Go.Proofs.Ytmkhpahkcicfnaa
open Go.RowKit

set_option maxHeartbeats 400000 in
theorem of_any (x : Int) (w : World) : Calls Try.prog 36 #[.int .i64 x] w fun e w' => e = .returned (.int .i64 (x % 4294967296)) ∧ w = w' := by
  go_enter Try.func36, Try.ntmps36
  go_wp2
  go_ret
  exact ⟨rfl, rfl⟩

def needBit (x : Int) : Int := if x % 4 = 0 then 8 else if x % 4 = 2 then 4 else 2
def needFault (x : Int) : Int := if x % 4 = 0 then 5 else if x % 4 = 2 then 7 else 6

set_option maxHeartbeats 400000 in
theorem need_any (x : Int) (w : World) : Calls Try.prog 37 #[.int .i64 x] w fun e w' => e = .returned (.tuple #[.int .i64 (needBit x), .int .i64 (needFault x)]) ∧ w = w' := by
  have e1 : bits .and .i64 x 3 = x % 4 := and3 x
  by_cases h0 : x % 4 = 0
  · have HB : Hid (needBit x = 8 ∧ needFault x = 5) := by show _ ∧ _; simp [needBit, needFault, h0]
    have h1 : (x % 4 == 0) = true := beq_iff_eq.2 h0
    clear h0
    go_enter Try.func37, Try.ntmps37
    go_wp2
    go_ret2
    exact ⟨by rw [HB.out.1, HB.out.2]; rfl, rfl⟩
  · have h1 : (x % 4 == 0) = false := beq_eq_false_iff_ne.2 h0
    by_cases h2 : x % 4 = 2
    · have HB : Hid (needBit x = 4 ∧ needFault x = 7) := by show _ ∧ _; simp [needBit, needFault, h2]
      have h3 : (x % 4 == 2) = true := beq_iff_eq.2 h2
      clear h0 h2
      go_enter Try.func37, Try.ntmps37
      go_wp2
      go_ret2
      exact ⟨by rw [HB.out.1, HB.out.2]; rfl, rfl⟩
    · have HB : Hid (needBit x = 2 ∧ needFault x = 6) := by show _ ∧ _; simp [needBit, needFault, h0, h2]
      have h3 : (x % 4 == 2) = false := beq_eq_false_iff_ne.2 h2
      clear h0 h2
      go_enter Try.func37, Try.ntmps37
      go_wp2
      go_ret2
      exact ⟨by rw [HB.out.1, HB.out.2]; rfl, rfl⟩

theorem ret2_ib {a c : Int} {b d : Bool} (h : a = c) (k : b = d) : Ending.returned (.tuple #[.int .i64 a, .bool b]) = .returned (.tuple #[.int .i64 c, .bool d]) := by rw [h, k]

theorem meth_load (a : Nat) (k : Nat) (w : World) : (method (k + 1) 23 (.pointer (some ⟨a, 0, none⟩)) "Load").run Try.prog w = .ok (18, .pointer (some ⟨a, 0, none⟩)) w := by kernel_rfl

set_option maxHeartbeats 400000 in
theorem entry_any {a b n : Nat} {f : Nat → Int} {w : World} (M : Mem 61 w a b n f) (fr i : Int) (h0 : 0 ≤ fr) (h1 : fr < 1048576) (h2 : 0 ≤ i) (h3 : i < 1024) :
    Calls Try.prog 38 #[.iface 23 (.pointer (some ⟨a, 0, none⟩)), .int .i64 fr, .int .i64 i] w fun e w' => e = .returned (.tuple #[.int .i64 (ldV n f (fr * 4096 + 4 * i) 4), .bool (okB n (fr * 4096 + 4 * i) 4)]) ∧ w = w' := by
  have hm := meth_load a
  have HL := load_any M (fr * 4096 + 4 * i) 4
  have HV : Hid (ldV n f (fr * 4096 + 4 * i) 4 % 4294967296 = ldV n f (fr * 4096 + 4 * i) 4) := by
    show _ = _
    unfold ldV
    split
    · rename_i hb
      obtain ⟨_, h5, _, h7⟩ := okB_true hb
      have := leN_lt f n M.rng (fr * 4096 + 4 * i).toNat 4 (by omega) (by omega)
      rw [show (4 : Int).toNat = 4 from rfl]
      omega
    · rfl
  go_enter Try.func38, Try.ntmps38
  go_wp2_with fail
  refine HL.mono ?_
  rintro e w' ⟨rfl, rfl⟩
  clear hm HL
  go_wp2_with (go_at_call 36; refine (of_any _ _).mono ?_; rintro e w' ⟨rfl, rfl⟩)
  go_ret2
  exact ⟨ret2_ib HV.out rfl, rfl⟩
end Go.Proofs.Ytmkhpahkcicfnaa

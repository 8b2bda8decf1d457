/- walk: Of, need, entry. -/
import Derived.Test.YtadcmelbcahecaaPhysUtil
import Derived.Test.YtadcmelbcahecaaBits2
import Derived.Deep.RegionWith
namespace Go.Proofs.Ytadcmelbcahecaa
open Go.RowKit

set_option maxHeartbeats 400000 in
theorem of_any (x : Int) (w : World) : Calls Try.prog 31 #[.int .i64 x] w fun e w' => e = .returned (.int .i64 (x % 4294967296)) ∧ w = w' := by
  go_enter Try.func31, Try.ntmps31
  go_wp2
  go_ret
  exact ⟨rfl, rfl⟩

def needBit (x : Int) : Int := if x % 4 = 0 then 8 else if x % 4 = 2 then 4 else 2
def needFault (x : Int) : Int := if x % 4 = 0 then 5 else if x % 4 = 2 then 7 else 6


theorem ret2_ib {a c : Int} {b d : Bool} (h : a = c) (k : b = d) : Ending.returned (.tuple #[.int .i64 a, .bool b]) = .returned (.tuple #[.int .i64 c, .bool d]) := by rw [h, k]

theorem meth_load (a : Nat) (k : Nat) (w : World) : (method (k + 1) 24 (.pointer (some ⟨a, 0, none⟩)) "Load").run Try.prog w = .ok (79, .pointer (some ⟨a, 0, none⟩)) w := by kernel_rfl

set_option maxHeartbeats 400000 in
theorem entry_any {a b n : Nat} {f : Nat → Int} {w : World} (M : Mem 74 w a b n f) (fr i : Int) (h0 : 0 ≤ fr) (h1 : fr < 1048576) (h2 : 0 ≤ i) (h3 : i < 1024) :
    Calls Try.prog 46 #[.iface 24 (.pointer (some ⟨a, 0, none⟩)), .int .i64 fr, .int .i64 i] w fun e w' => e = .returned (.tuple #[.int .i64 (ldV n f (fr * 4096 + 4 * i) 4), .bool (okB n (fr * 4096 + 4 * i) 4)]) ∧ w = w' := by
  have hm := meth_load a
  have HL := load_any M (fr * 4096 + 4 * i) 4
  have HV : Hid (ldV n f (fr * 4096 + 4 * i) 4 % 4294967296 = ldV n f (fr * 4096 + 4 * i) 4) := by
    show _ = _
    unfold ldV
    split
    · rename_i hb
      obtain ⟨_, h5, _, h7⟩ := okB_true hb
      have := leN_lt f n M.rng (fr * 4096 + 4 * i).toNat 4 (by omega) (by omega)
      rw [show (4 : Int).toNat = 4 from rfl]
      omega
    · rfl
  go_enter Try.func46, Try.ntmps46
  go_wp2_with fail
  refine HL.mono ?_
  rintro e w' ⟨rfl, rfl⟩
  clear hm HL
  go_wp2_with (go_at_call 31; refine (of_any _ _).mono ?_; rintro e w' ⟨rfl, rfl⟩)
  go_ret2
  exact ⟨ret2_ib HV.out rfl, rfl⟩
end Go.Proofs.Ytadcmelbcahecaa

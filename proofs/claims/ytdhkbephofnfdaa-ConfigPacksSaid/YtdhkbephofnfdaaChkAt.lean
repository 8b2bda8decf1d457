/- Check, where what it is called with and what it says is known. -/
import Derived.Test.YtdhkbephofnfdaaRChk
namespace Go.Proofs.Ytdhkbephofnfdaa
open Go.RowKit

/-- Check, where what it is called with and what it says is known. -/
theorem check_at {C : Cfg} {ap ac aw : Option Addr} {cp cc cw : Nat} {w : World} (h : CfgAt w C ap ac aw cp cc cw) {v pg mj sw : Int} {a b c : Nat} (hv : chk C = v) (h1 : C.pages = pg) (h2 : C.major = mj) (h3 : C.switch = sw) (ha : C.parts.length = a) (hb : C.chans.length = b) (hc : C.wins.length = c) :
    Calls Try.prog 17 #[.agg #[.int .i64 pg, .int .i64 mj, .int .i64 sw, .slice ap a cp, .slice ac b cc, .slice aw c cw]] w fun e w' => e = .returned (.int .i64 v) ∧ Chg w w' (fun _ => False) := by
  subst hv h1 h2 h3 ha hb hc
  exact check_any w h
theorem rcheck_at {C : Cfg} {ap ac aw : Option Addr} {cp cc cw : Nat} {w : World} (h : CfgAt w C ap ac aw cp cc cw) {v pg mj sw : Int} {a b c : Nat} (hv : chk C = v) (h1 : C.pages = pg) (h2 : C.major = mj) (h3 : C.switch = sw) (ha : C.parts.length = a) (hb : C.chans.length = b) (hc : C.wins.length = c) :
    Calls Try.prog 18 #[.agg #[.int .i64 pg, .int .i64 mj, .int .i64 sw, .slice ap a cp, .slice ac b cc, .slice aw c cw]] w fun e w' => e = .returned (.int .i64 v) ∧ Chg w w' (fun _ => False) := by
  subst hv h1 h2 h3 ha hb hc
  exact rcheck_any w h
end Go.Proofs.Ytdhkbephofnfdaa

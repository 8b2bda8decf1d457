/- Rows that the call owns, beside blocks that are known whole. -/
import Derived.Test.YtdhkbephofnfdaaWrong0
import Derived.Deep.AppendLies
import Derived.Test.YtdhkbephofnfdaaOwn2
namespace Go.Proofs.Ytdhkbephofnfdaa
open Go.RowKit

theorem info_chan : (Try.prog.info? 32).map (fun i => (i.zero, i.size, i.bytes)) = some (some (.agg #[.int .i64 0, .int .i64 0, .int .i64 0, .int .i64 0, .int .i64 0]), 5, 40) := by kernel_rfl
theorem info_win : (Try.prog.info? 34).map (fun i => (i.zero, i.size, i.bytes)) = some (some (.agg #[.int .i64 0, .int .i64 0, .int .i64 0]), 3, 24) := by kernel_rfl



theorem parts_one (l : List PartD) : ∀ u ∈ l.flatMap partCells, u.oneCell' = true := by
  intro u hu
  obtain ⟨p, _, h⟩ := List.mem_flatMap.1 hu
  simp only [partCells, List.mem_cons, List.not_mem_nil, or_false] at h
  rcases h with rfl | rfl | rfl <;> rfl
theorem chans_one (l : List ChanD) : ∀ u ∈ l.flatMap chanCells, u.oneCell' = true := by
  intro u hu
  obtain ⟨p, _, h⟩ := List.mem_flatMap.1 hu
  simp only [chanCells, List.mem_cons, List.not_mem_nil, or_false] at h
  rcases h with rfl | rfl | rfl | rfl | rfl <;> rfl
theorem wins_one (l : List WinD) : ∀ u ∈ l.flatMap winCells, u.oneCell' = true := by
  intro u hu
  obtain ⟨p, _, h⟩ := List.mem_flatMap.1 hu
  simp only [winCells, List.mem_cons, List.not_mem_nil, or_false] at h
  rcases h with rfl | rfl | rfl <;> rfl
theorem CfgAt.chg {w w' : World} {C : Cfg} {ap ac aw : Option Addr} {cp cc cw : Nat} {P : Nat → Prop} (h : CfgAt w C ap ac aw cp cc cw) (c : Chg w w' P) (h1 : ∀ ad, ap = some ad → ¬ P ad.block) (h2 : ∀ ad, ac = some ad → ¬ P ad.block) (h3 : ∀ ad, aw = some ad → ¬ P ad.block) : CfgAt w' C ap ac aw cp cc cw :=
  ⟨h.ps.chg c h1, h.cs.chg c h2, h.ws.chg c h3, h.names⟩
end Go.Proofs.Ytdhkbephofnfdaa

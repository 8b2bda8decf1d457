/- slices.Clone of bytes. -/
import Derived.Test.YtiedfglkjkaefaaBytes
import Derived.Test.YtiedfglkjkaefaaPhysNew
namespace Go.Proofs.Ytiedfglkjkaefaa
open Go.RowKit

/-- What a call leaves that hands back n values of its own. -/
structure Made (w : World) (t : TypeId) (size : Nat) (n : Nat) (cells : List Value) (e : Ending) (w' : World) (ao : Option Addr) (cap : Nat) : Prop where
  ret : e = .returned (.slice ao n cap)
  own : w'.ownsRow w.heap.size t size (.slice ao n cap) n cells
  chg : Chg w w' (fun _ => False)

set_option maxHeartbeats 400000 in
theorem clone_any {w : World} {ad : Addr} {m c : Nat} {xs : List Int} (h : Src w (some ad) m c (u8s xs) 1) (hm : m ≤ 1099511627776) :
    Calls Try.prog 35 #[.slice (some ad) m c] w fun e w' => ∃ ao cap, Made w 5 1 m (u8s xs) e w' ao cap := by
  obtain ⟨i0, hi, hz0, hz1, hz2⟩ := info_parts info_u8
  have hnil := fun wx : World => Lib.run_eql_slice_nil (P := Try.prog) wx 22 5 (some ad) m c 0 0 Try.underlying22
  have hl : xs.length = m := by have := h.len; simpa [u8s] using this
  have hown0 := World.ownsRow_made (base := w.heap.size) (e := 5) (size := 1) w #[] 0 (Nat.le_refl _) (by unfold maxLen; omega) rfl
  have hs0 := h.chg ((Chg.refl w (fun _ => False)).alloc (.cells #[] 5)) (fun _ _ h => h)
  have hc0 := (Chg.refl w (fun _ => False)).alloc (.cells #[] 5)
  clear h
  have HL := Lib.hid hl
  clear hl
  go_enter Try.func35, Try.ntmps35
  go_wp2_with (at_builtin; refine wpList_append_src _ rfl (.tmp 5) (.tmp 6) _ rfl w.heap.size 5 i0 _ 1 1 Try.underlying22 hi hz0 hz1 hz2 rfl (by omega) _ 0 [] rfl hown0 (some ad) m c (u8s xs) rfl hs0 (u8s_one xs) (by unfold maxLen; omega) (by omega) (by simp) ?_; intro v1 w1 hown1 hgr1)
  go_ret
  simp only [Nat.zero_add, List.nil_append] at hown1
  obtain ⟨ao, cap, rfl, _⟩ := own_form hown1
  exact ⟨ao, cap, rfl, hown1, hc0.grown hgr1 (fun k hk hlt => by have hk' : some w.heap.size = some k := hk; injection hk' with hk'; omega)⟩
end Go.Proofs.Ytiedfglkjkaefaa

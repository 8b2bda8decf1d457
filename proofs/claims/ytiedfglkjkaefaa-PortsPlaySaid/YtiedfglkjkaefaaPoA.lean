/- ports: slices.Clone of partitions and of channels. -/
import Derived.Test.YtiedfglkjkaefaaCfgAt
import Derived.Test.YtiedfglkjkaefaaOwn2
import Derived.Test.YtiedfglkjkaefaaClone
import Derived.Handy
namespace Go.Proofs.Ytiedfglkjkaefaa
open Go.RowKit

theorem info_partC : (Try.prog.info? 70).map (fun i => (i.zero, i.size, i.bytes)) = some (some (.agg #[.string ⟨#[]⟩, .int .i64 0, .int .i64 0]), 3, 32) := by kernel_rfl
theorem info_chanC : (Try.prog.info? 73).map (fun i => (i.zero, i.size, i.bytes)) = some (some (.agg #[.int .i64 0, .int .i64 0, .int .i64 0, .int .i64 0, .int .i64 0]), 5, 40) := by kernel_rfl
theorem partsC_one (l : List PartD) : ∀ u ∈ l.flatMap partCells, u.oneCell' = true := by
  intro u hu
  obtain ⟨p, _, h⟩ := List.mem_flatMap.1 hu
  simp only [partCells, List.mem_cons, List.not_mem_nil, or_false] at h
  rcases h with rfl | rfl | rfl <;> rfl
theorem chansC_one (l : List ChanD) : ∀ u ∈ l.flatMap chanCells, u.oneCell' = true := by
  intro u hu
  obtain ⟨p, _, h⟩ := List.mem_flatMap.1 hu
  simp only [chanCells, List.mem_cons, List.not_mem_nil, or_false] at h
  rcases h with rfl | rfl | rfl | rfl | rfl <;> rfl

def ClonedAs (w w' : World) (t : TypeId) (size n : Nat) (cells : List Value) (e : Ending) : Prop := ∃ ao cap, Made w t size n cells e w' ao cap

set_option maxRecDepth 100000 in
set_option maxHeartbeats 400000 in
theorem cloneP_any {w : World} {ao : Option Addr} {m c : Nat} {xs : List Value} (h : Src w ao m c xs 3) (h1 : ∀ u ∈ xs, u.oneCell' = true) (hm : m ≤ 1000) :
    Calls Try.prog 31 #[.slice ao m c] w fun e w' => ClonedAs w w' 70 3 m xs e := by
  cases ao with
  | none =>
    obtain ⟨h2, h3⟩ := h.nil rfl
    subst h2 h3
    have hx : xs = [] := List.eq_nil_of_length_eq_zero (by have := h.len; omega)
    subst hx
    clear h h1 hm
    have hnil : ∀ wx : World, (binOp .eql 28 (.slice none 0 0) (.slice none 0 0)).run Try.prog wx = .ok (.bool true) wx := fun wx => by kernel_rfl
    go_enter Try.func31, Try.ntmps31
    go_wp2_with fail
    go_ret
    exact ⟨none, 0, rfl, World.ownsRow_nil _ _ _ _, Chg.refl _ _⟩
  | some ad =>
    obtain ⟨i0, hi, hz0, hz1, hz2⟩ := info_parts info_partC
    have hnil := fun wx : World => Lib.run_eql_slice_nil (P := Try.prog) wx 28 70 (some ad) m c 0 0 Try.underlying28
    have hown0 := World.ownsRow_made (base := w.heap.size) (e := 70) (size := 3) w #[] 0 (Nat.le_refl _) (by unfold maxLen; omega) rfl
    have hs0 := h.chg ((Chg.refl w (fun _ => False)).alloc (.cells #[] 70)) (fun _ _ h => h)
    have hc0 := (Chg.refl w (fun _ => False)).alloc (.cells #[] 70)
    have H1 := Lib.hid h1
    clear h h1
    go_enter Try.func31, Try.ntmps31
    go_wp2_with (at_builtin; refine wpList_append_src _ rfl (.tmp 5) (.tmp 6) _ rfl w.heap.size 70 i0 _ 3 32 Try.underlying28 hi hz0 hz1 hz2 rfl (by omega) _ 0 [] rfl hown0 (some ad) m c xs rfl hs0 H1.out (by unfold maxLen; omega) (by omega) (by simp) ?_; intro v1 w1 hown1 hgr1)
    go_ret
    simp only [Nat.zero_add, List.nil_append] at hown1
    obtain ⟨ao, cap, rfl, _⟩ := own_form hown1
    exact ⟨ao, cap, rfl, hown1, hc0.grown hgr1 (fun k hk hlt => by have hk' : some w.heap.size = some k := hk; injection hk' with hk'; omega)⟩

set_option maxRecDepth 100000 in
set_option maxHeartbeats 400000 in
theorem cloneC_any {w : World} {ao : Option Addr} {m c : Nat} {xs : List Value} (h : Src w ao m c xs 5) (h1 : ∀ u ∈ xs, u.oneCell' = true) (hm : m ≤ 1000) :
    Calls Try.prog 32 #[.slice ao m c] w fun e w' => ClonedAs w w' 73 5 m xs e := by
  cases ao with
  | none =>
    obtain ⟨h2, h3⟩ := h.nil rfl
    subst h2 h3
    have hx : xs = [] := List.eq_nil_of_length_eq_zero (by have := h.len; omega)
    subst hx
    clear h h1 hm
    have hnil : ∀ wx : World, (binOp .eql 29 (.slice none 0 0) (.slice none 0 0)).run Try.prog wx = .ok (.bool true) wx := fun wx => by kernel_rfl
    go_enter Try.func32, Try.ntmps32
    go_wp2_with fail
    go_ret
    exact ⟨none, 0, rfl, World.ownsRow_nil _ _ _ _, Chg.refl _ _⟩
  | some ad =>
    obtain ⟨i0, hi, hz0, hz1, hz2⟩ := info_parts info_chanC
    have hnil := fun wx : World => Lib.run_eql_slice_nil (P := Try.prog) wx 29 73 (some ad) m c 0 0 Try.underlying29
    have hown0 := World.ownsRow_made (base := w.heap.size) (e := 73) (size := 5) w #[] 0 (Nat.le_refl _) (by unfold maxLen; omega) rfl
    have hs0 := h.chg ((Chg.refl w (fun _ => False)).alloc (.cells #[] 73)) (fun _ _ h => h)
    have hc0 := (Chg.refl w (fun _ => False)).alloc (.cells #[] 73)
    have H1 := Lib.hid h1
    clear h h1
    go_enter Try.func32, Try.ntmps32
    go_wp2_with (at_builtin; refine wpList_append_src _ rfl (.tmp 5) (.tmp 6) _ rfl w.heap.size 73 i0 _ 5 40 Try.underlying29 hi hz0 hz1 hz2 rfl (by omega) _ 0 [] rfl hown0 (some ad) m c xs rfl hs0 H1.out (by unfold maxLen; omega) (by omega) (by simp) ?_; intro v1 w1 hown1 hgr1)
    go_ret
    simp only [Nat.zero_add, List.nil_append] at hown1
    obtain ⟨ao, cap, rfl, _⟩ := own_form hown1
    exact ⟨ao, cap, rfl, hown1, hc0.grown hgr1 (fun k hk hlt => by have hk' : some w.heap.size = some k := hk; injection hk' with hk'; omega)⟩
end Go.Proofs.Ytiedfglkjkaefaa

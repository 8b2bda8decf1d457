/- The reference's PackImage. -/
import Derived.Test.YtgblnmahniphdaaImg4
import Derived.Test.YtgblnmahniphdaaOwn2
import Derived.Deep.RegionHeld3
import Derived.BigRegion
import Derived.Lib.SlBytesConst
import Derived.ArgAppend
namespace Go.Proofs.Ytgblnmahniphdaa
open Go.RowKit

section
variable {P : Program} {w : World}
/-- An append of bytes that lie somewhere to an own row, as one operation. -/
theorem op_append_src {o : Oper} {a : Act} {K : Act → World → Prop} {Q : Exit → Act → World → Prop} (s x : Operand) (t : TypeId)
    (ho : o.op = .call { callee := .builtin .append, args := #[s, x], argTypes := #[t, t] })
    (base : Nat) (e : TypeId) (i : TypeInfo) (z : Value) (size bytes : Nat) (ht : P.underlying t = some (.slice e)) (hi : P.info? e = some i) (hz : i.zero = some z)
    (hsize : i.size = size) (hby : i.bytes = bytes) (hzs : z.cells.size = size) (hsz : 0 < size)
    (v : Value) (n : Nat) (xs : List Value) (hv : a.eval s = v) (hown : w.ownsRow base e size v n xs)
    (ao : Option Addr) (m c : Nat) (news : List Value) (hx : a.eval x = .slice ao m c) (hs : Src w ao m c news size) (h1 : ∀ u ∈ news, u.oneCell' = true)
    (h63 : n + m ≤ maxLen) (hbytes : (n + m) * bytes ≤ 140737488355328) (hbase : base ≤ w.heap.size)
    (h : ∀ v' w', w'.ownsRow base e size v' (n + m) (xs ++ news) → w.grownBy w' v.ownBlock → K (a.put o.dst v') w') : o.wp P a w K Q := by
  obtain ⟨v', w', hr, h2, h3⟩ := run_append_src (P := P) w base t o.type e i z size bytes ht hi hz hsize hby hzs hsz v n xs hown ao m c news hs h1 h63 hbytes hbase
  unfold Oper.wp execOp
  simp only [ho, resolve, invoke, builtin, Sem.run_bind, Sem.run_pure, Result.andThen_ok, List.map_toArray, List.map_cons, List.map_nil, hv, hx, hr]
  exact h v' w' h2 h3
end

/-- An image's bytes, unsummed and packed. -/
def headB (e : Int) (xs : List Int) : List Int := [84, 82, 85, 49] ++ fourB e ++ fourB xs.length ++ xs
def packB (e : Int) (xs : List Int) : List Int := summed (headB e xs)

theorem headB_len (e : Int) (xs : List Int) : (headB e xs).length = xs.length + 12 := by simp [headB, fourB]
theorem packB_len (e : Int) (xs : List Int) : (packB e xs).length = xs.length + 16 := by simp [packB, summed, headB_len, fourB]
theorem headB_rng (e : Int) (xs : List Int) (hx : ∀ x ∈ xs, 0 ≤ x ∧ x < 256) : ∀ x ∈ headB e xs, 0 ≤ x ∧ x < 256 := by
  intro x h
  simp only [headB, List.mem_append] at h
  rcases h with ((h | h) | h) | h
  · simp at h; omega
  · exact fourB_rng _ x h
  · exact fourB_rng _ x h
  · exact hx x h
theorem packB_rng (e : Int) (xs : List Int) (hx : ∀ x ∈ xs, 0 ≤ x ∧ x < 256) : ∀ x ∈ packB e xs, 0 ≤ x ∧ x < 256 := by
  intro x h
  simp only [packB, summed, List.mem_append] at h
  rcases h with h | h
  · exact headB_rng e xs hx x h
  · exact fourB_rng _ x h

set_option maxHeartbeats 1600000 in
theorem rpack_bad (e : Int) (m c : Nat) (ao : Option Addr) (w : World) (hc : ¬ chkI e m = 0) :
    Calls Try.prog 20 #[.agg #[.int .i64 e, .slice ao m c]] w fun r w' => r = .returned (.tuple #[.slice none 0 0, .int .i64 (chkI e m)]) ∧ Chg w w' (fun _ => False) := by
  obtain ⟨k, hk⟩ : ∃ k, chkI e m = k := ⟨_, rfl⟩
  have HK := Lib.hid hk
  rw [hk] at hc ⊢
  have d0 : (k != 0) = true := bne_iff_ne.2 hc
  clear hk hc
  go_enter Try.func20, Try.ntmps20
  go_wp2_with fail
  refine (rcheckI_any e m c ao _).mono ?_
  rintro r w1 ⟨rfl, C1⟩
  rw [HK.out]
  go_wp2_with fail
  go_ret2
  exact ⟨rfl, ((Chg.refl w _).alloc _).trans C1⟩

set_option maxHeartbeats 1600000 in
theorem rpack_ok (e : Int) (m c : Nat) (ao : Option Addr) (xs : List Int) (w : World) (hs : Src w ao m c (u8s xs) 1) (hx : ∀ x ∈ xs, 0 ≤ x ∧ x < 256) (hm : m ≤ 1048576) (hc : chkI e m = 0) :
    Calls Try.prog 20 #[.agg #[.int .i64 e, .slice ao m c]] w fun r w' => ∃ a2 c2, r = .returned (.tuple #[.slice a2 (m + 16) c2, .int .i64 0]) ∧ w'.ownsRow w.heap.size 5 1 (.slice a2 (m + 16) c2) (m + 16) (u8s (packB e xs)) ∧ Chg w w' (fun _ => False) := by
  obtain ⟨i0, hi0, hz0, hz1, hz2⟩ := info_parts info_u8i
  have HK := Lib.hid hc
  have hs0 := Lib.hid hs
  have HS := Lib.hid (hs.chg ((Chg.refl w (fun _ => False)).alloc (.cells #[.int .i64 e, .slice ao m c] 39)) (fun _ _ h => h))
  have BX := Box.new w 39 #[.int .i64 e, .slice ao m c]
  obtain ⟨g, hg⟩ : ∃ g, w.heap.size = g := ⟨_, rfl⟩
  clear hc hs
  go_enter Try.func20, Try.ntmps20
  go_wp2_with fail
  refine (rcheckI_any e m c ao _).mono ?_
  rintro r w1 ⟨rfl, C1⟩
  rw [HK.out]
  have B1 := BX.chg C1 (fun h => h)
  have y0 : w1.cell? ⟨g, 0, none⟩ = some (.int .i64 e) := by rw [← hg]; exact B1.cell 0
  have hlt : g < w1.heap.size := by rw [← hg]; exact B1.lt
  have cv := Go.Lib.run_convert_bytes_const (P := Try.prog) w1 37 5 #[.int .u8 84, .int .u8 82, .int .u8 85, .int .u8 49] 4 4 Try.underlying37 Try.underlying5
  go_wp2_with fail
  refine (rfour_any e _).mono ?_
  rintro r w2 ⟨a6, c6, rfl, O6, C6⟩
  have S6 := own_src O6
  obtain ⟨ad6, rfl⟩ : ∃ ad, a6 = some ad := by
    cases a6 with
    | none => have := S6.nil rfl; omega
    | some ad => exact ⟨ad, rfl⟩
  have holds : ∀ b : Addr, some (⟨w1.heap.size, 0, none⟩ : Addr) = some b → ∀ j u, (u8s [84, 82, 85, 49])[j]? = some u → w2.cell? (b.add j) = some u := by
    intro b hb j u hu
    injection hb with hb
    subst hb
    have hn : (w1.alloc (.cells #[.int .u8 84, .int .u8 82, .int .u8 85, .int .u8 49] 5 (4, 5))).cell? (Addr.add ⟨w1.heap.size, 0, none⟩ j) = some u := Go.World.news_of_block (B := w1.heap.size) (heap_alloc_new w1 _) j u hu
    exact C6.cell hn (fun h => h)
  have HH := Lib.hid holds
  clear holds
  go_wp2_with (at_builtin; go_loud (refine Go.wpList_append_grows _ rfl (.tmp 12) (.tmp 15) _ rfl 5 i0 _ 1 1 Try.underlying37 hi0 hz0 hz1 hz2 rfl (by omega) (some ⟨w1.heap.size, 0, none⟩) 4 4 (u8s [84, 82, 85, 49]) rfl (fun h => by cases h) rfl HH.out ad6 4 c6 (u8s (fourB e)) rfl rfl (S6.get ad6 rfl) (u8s_one _) (by omega) (by unfold maxLen; omega) (by omega) ?_); go_loud (intro v3 w3 O3 hgr3))
  have K1 : Chg (w1.alloc (.cells #[.int .u8 84, .int .u8 82, .int .u8 85, .int .u8 49] 5 (4, 5))) w3 (fun _ => False) := C6.grown hgr3 (fun _ h => by cases h)
  have K3 : Chg w1 w3 (fun _ => False) := ((Chg.refl w1 _).alloc _).trans K1
  have zz1 : w1.cell? ⟨g, 1, none⟩ = some (.slice ao m c) := B1.cell 1 |> (by rw [← hg]; exact ·)
  have z1 : w3.cell? ⟨g, 1, none⟩ = some (.slice ao m c) := (B1.chg K3 (fun h => h)).cell 1 |> (by rw [← hg]; exact ·)
  have S3 := (HS.out.chg C1 (fun _ _ h => h)).chg K3 (fun _ _ h => h)
  obtain ⟨a3, c3, rfl, hb1, hb2, hb3, hb4⟩ := own_form O3
  have HSV := Lib.hid (show w3.drew.cell? ⟨g, 1, none⟩ = some (.slice ao m c) from z1)
  have sz3 := K3.size
  clear HH y0
  go_wp2_with fail
  refine wp_region_noPanic ?_
  refine wp_region_held_drew (S := fun w' => w'.cell? ⟨g, 1, none⟩ = some (.slice ao m c)) (by kernel_rfl) (HSV.out) (fun hHeld => ?_)
  refine wpAnyH_take (i := 0) (oi := ?oi0) (v := ?v0) ?hi0 (by kernel_rfl) (by kernel_rfl) (by kernel_rfl) (fun _ _ _ h => h) (Or.inl ⟨?hw0, ?hy0⟩) (by assumption) ?hr0
  case hi0 => simp only [List.getElem?_toArray, List.getElem?_cons_succ, List.getElem?_cons_zero]; rfl
  case hw0 => rfl
  case hy0 => intro wq hSq; (try dsimp only at hSq); go_simp; (try with_reducible rfl)
  try simp only [Act.put, List.setIfInBounds_toArray, List.set_cons_zero, List.set_cons_succ]
  refine wpAnyH_take (i := 1) (oi := ?oi1) (v := ?v1) ?hi1 (by kernel_rfl) (by kernel_rfl) (by kernel_rfl) (fun _ _ _ h => h) (Or.inl ⟨?hw1, ?hy1⟩) (by assumption) ?hr1
  case hi1 => simp only [List.getElem?_toArray, List.getElem?_cons_succ, List.getElem?_cons_zero]; rfl
  case hw1 => rfl
  case hy1 => intro wq hSq; (try dsimp only at hSq); go_simp; (try with_reducible rfl)
  try simp only [Act.put, List.setIfInBounds_toArray, List.set_cons_zero, List.set_cons_succ]
  refine wpAnyH_take (i := 2) (oi := ?oi2) (v := ?v2) ?hi2 (by kernel_rfl) (by kernel_rfl) (by kernel_rfl) (fun _ _ _ h => h) (Or.inl ⟨?hw2, ?hy2⟩) (by assumption) ?hr2
  case hi2 => simp only [List.getElem?_toArray, List.getElem?_cons_succ, List.getElem?_cons_zero]; rfl
  case hw2 => rfl
  case hy2 => intro wq hSq; (try dsimp only at hSq); go_simp; (try with_reducible rfl)
  try simp only [Act.put, List.setIfInBounds_toArray, List.set_cons_zero, List.set_cons_succ]
  refine wpAnyH_take (i := 3) (oi := ?oi3) (v := ?v3) ?hi3 (by kernel_rfl) (by kernel_rfl) (by kernel_rfl) (fun _ _ _ h => h) (Or.inl ⟨?hw3, ?hy3⟩) (by assumption) ?hr3
  case hi3 => simp only [List.getElem?_toArray, List.getElem?_cons_succ, List.getElem?_cons_zero]; rfl
  case hw3 => rfl
  case hy3 => intro wq hSq; (try dsimp only at hSq); go_simp; (try with_reducible rfl)
  try simp only [Act.put, List.setIfInBounds_toArray, List.set_cons_zero, List.set_cons_succ]
  refine wpAnyH_take (i := 6) (oi := ?oi6) (v := ?v6) ?hi6 (by kernel_rfl) (by kernel_rfl) (by kernel_rfl) (fun _ _ _ h => h) (Or.inl ⟨?hw6, ?hy6⟩) (by assumption) ?hr6
  case hi6 => simp only [List.getElem?_toArray, List.getElem?_cons_succ, List.getElem?_cons_zero]; rfl
  case hw6 => rfl
  case hy6 => intro wq hSq; (try dsimp only at hSq); go_simp; (try with_reducible rfl)
  try simp only [Act.put, List.setIfInBounds_toArray, List.set_cons_zero, List.set_cons_succ]
  refine wpAnyH_take (i := 7) (oi := ?oi7) (v := ?v7) ?hi7 (by kernel_rfl) (by kernel_rfl) (by kernel_rfl) (fun _ _ _ h => h) (Or.inl ⟨?hw7, ?hy7⟩) (by assumption) ?hr7
  case hi7 => simp only [List.getElem?_toArray, List.getElem?_cons_succ, List.getElem?_cons_zero]; rfl
  case hw7 => rfl
  case hy7 => intro wq hSq; (try dsimp only at hSq); go_simp; (try with_reducible rfl)
  try simp only [Act.put, List.setIfInBounds_toArray, List.set_cons_zero, List.set_cons_succ]
  refine wpAnyH_ready (rs := [4]) (by kernel_rfl) (by simp) ?_
  refine AllReadyH.cons rfl (fun K hK => ?_) AllReadyH.nil
  go_simp
  refine (rfour_any (m : Int) _).mono ?_
  rintro r w4 ⟨a7, c7, rfl, O7, C7⟩
  have hHeld2 : (fun w' : World => (w'.cell? ⟨g, 1, none⟩ = some (.slice ao m c)) ∧ True) _ := ⟨C7.cell HSV.out (fun h => h), trivial⟩
  refine hK.out _ _ hHeld2.1 (fun _ => wpAnyH_mono (S2 := fun w' : World => (w'.cell? ⟨g, 1, none⟩ = some (.slice ao m c)) ∧ True) (fun _ h => h.1) _ _ _ _ ?_)
  clear hK K hHeld
  try simp only [Act.put, List.setIfInBounds_toArray, List.set_cons_zero, List.set_cons_succ]
  refine wpAnyH_ready (rs := [5]) (by kernel_rfl) (by simp) ?_
  refine AllReadyH.cons rfl (fun K hK => ?_) AllReadyH.nil
  have O3b := own_chg O3 (((Chg.refl w3 (fun _ => False)).drew).trans C7) (fun _ _ h => h)
  have K4 : Chg w1 w4 (fun _ => False) := (K3.drew).trans C7
  have szA : w1.heap.size ≤ w2.heap.size := (((Chg.refl w1 (fun _ => False)).alloc _).trans C6).size
  have szB : w3.heap.size ≤ w4.heap.size := C7.size
  have szC := hgr3.size
  refine op_append_src (.tmp 17) (.tmp 21) _ rfl w2.heap.size 5 i0 _ 1 1 Try.underlying37 hi0 hz0 hz1 hz2 rfl (by omega) _ 8 _ rfl O3b _ 4 c7 _ rfl (own_src O7) (u8s_one _) (by unfold maxLen; omega) (by omega) ?_ ?_
  case refine_1 => omega
  intro v5 w5 O5 hgr5
  have szD := hgr5.size
  change K (Act.put _ (some 22) _) _
  have K5 : Chg w1 w5 (fun _ => False) := K4.grown hgr5 (fun k hk hlt => by have := (O3b.lt k hk).1; omega)
  obtain ⟨a5, c5, rfl, _⟩ := own_form O5
  have z5 : w5.cell? ⟨g, 1, none⟩ = some (.slice ao m c) := K5.cell zz1 (fun h => h)
  refine hK.out _ _ ⟨z5, trivial⟩ (fun _ => ?_)
  clear hK K
  try simp only [Act.put, List.setIfInBounds_toArray, List.set_cons_zero, List.set_cons_succ]
  refine wpAnyH_ready (rs := [8]) (by kernel_rfl) (by simp) ?_
  refine AllReadyH.cons rfl (fun K hK => ?_) AllReadyH.nil
  have S5 := (HS.out.chg C1 (fun _ _ h => h)).chg K5 (fun _ _ h => h)
  refine op_append_src (.tmp 22) (.tmp 24) _ rfl w2.heap.size 5 i0 _ 1 1 Try.underlying37 hi0 hz0 hz1 hz2 rfl (by omega) _ 12 _ rfl O5 _ m c _ rfl S5 (u8s_one _) (by unfold maxLen; omega) (by omega) ?_ ?_
  case refine_1 => omega
  intro v6 w6 O6b hgr6
  change K (Act.put _ (some 25) _) _
  have K6 : Chg w1 w6 (fun _ => False) := K5.grown hgr6 (fun k hk hlt => by have := (O5.lt k hk).1; omega)
  obtain ⟨a8, c8, rfl, _⟩ := own_form O6b
  have z6 : w6.cell? ⟨g, 1, none⟩ = some (.slice ao m c) := K6.cell zz1 (fun h => h)
  refine hK.out _ _ ⟨z6, trivial⟩ (fun hHeld => ?_)
  clear hK K
  try simp only [Act.put, List.setIfInBounds_toArray, List.set_cons_zero, List.set_cons_succ]
  refine wpAnyH_take (i := 9) (oi := ?oi9) (v := ?v9) ?hi9 (by kernel_rfl) (by kernel_rfl) (by kernel_rfl) (fun _ _ _ h => h) (Or.inl ⟨?hw9, ?hy9⟩) (by assumption) ?hr9
  case hi9 => simp only [List.getElem?_toArray, List.getElem?_cons_succ, List.getElem?_cons_zero]; rfl
  case hw9 => rfl
  case hy9 => intro wq hSq; (try dsimp only at hSq); go_simp; (try with_reducible rfl)
  try simp only [Act.put, List.setIfInBounds_toArray, List.set_cons_zero, List.set_cons_succ]
  refine wpAnyH_done (by kernel_rfl) ?_ _
  refine NoPanic.normal ?_
  have hl : xs.length = m := by have := hs0.out.len; simpa [u8s] using this
  have HH : u8s [84, 82, 85, 49] ++ u8s (fourB e) ++ u8s (fourB (m : Int)) ++ u8s xs = u8s (headB e xs) := by unfold headB; rw [u8s_append, u8s_append, u8s_append, hl]
  have O7h : w6.ownsRow w2.heap.size 5 1 (.slice a8 (12 + m) c8) (12 + m) (u8s (headB e xs)) := by rw [← HH]; exact O6b
  have HR := Lib.hid (headB_rng e xs hx)
  have HSum := Lib.hid (own_lst O7h)
  clear hl HH hx
  go_wp2_with fail
  refine (rsum_any _ HSum.out HR.out (by omega)).mono ?_
  rintro r w7 ⟨rfl, rfl⟩
  go_wp2_with fail
  refine (rfour_any _ _).mono ?_
  rintro r w7 ⟨a9, c9, rfl, O9, C9⟩
  have O10 := own_chg O7h C9 (fun _ _ h => h)
  have S9 := own_src O9
  have szE := hgr6.size
  have szF := C9.size
  go_wp2_with (at_builtin; go_loud (refine wpList_append_src _ rfl (.tmp 26) (.tmp 29) _ rfl w2.heap.size 5 i0 _ 1 1 Try.underlying37 hi0 hz0 hz1 hz2 rfl (by omega) _ (12 + m) _ rfl O10 _ 4 c9 _ rfl S9 (u8s_one _) (by unfold maxLen; omega) (by omega) (by omega) ?_; intro v11 w11 O11 hgr11; obtain ⟨a11, c11, rfl, _⟩ := own_form O11))
  go_ret2
  have hm16 : 12 + m + 4 = m + 16 := by omega
  rw [hm16] at O11 ⊢
  have K7 : Chg w1 w11 (fun _ => False) := (K6.trans C9).grown hgr11 (fun k hk hlt => by have := (O10.lt k hk).1; omega)
  have KA : Chg w w1 (fun _ => False) := ((Chg.refl w _).alloc _).trans C1
  refine ⟨_, _, rfl, ?_, KA.trans K7⟩
  have := KA.size
  refine own_base ?_ (show w.heap.size ≤ w2.heap.size by omega)
  unfold packB summed
  rw [u8s_append]
  exact O11
end Go.Proofs.Ytgblnmahniphdaa

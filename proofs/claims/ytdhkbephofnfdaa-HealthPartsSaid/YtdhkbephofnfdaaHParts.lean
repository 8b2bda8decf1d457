/- HealthParts: the walk. -/
import Derived.Test.YtdhkbephofnfdaaHMany
import Derived.Test.YtdhkbephofnfdaaBits
namespace Go.Proofs.Ytdhkbephofnfdaa
open Go.RowKit

def sB1 : ByteArray := { data := #[98] }
def sC1 : ByteArray := { data := #[99] }
def c3H (a : Int) : Cfg := ⟨20, 10, 0, [⟨sA, 1, 0⟩, ⟨sB1, 1, a⟩, ⟨sC1, 1, 1⟩], [], [⟨0, 10, 0⟩]⟩
theorem c3H_new (a : Int) (h : a = 0 ∨ a = 1) : newS (c3H a) = ⟨[⟨0, false, 0⟩, ⟨a, false, 0⟩, ⟨1, false, 0⟩], []⟩ := by
  have h2 : chk (c3H a) = 0 := by
    rcases h with rfl | rfl
    · have h1 : partsOk (c3H 0) = true := by decide +kernel
      unfold chk
      rw [h1]
      decide +kernel
    · have h1 : partsOk (c3H 1) = true := by decide +kernel
      unfold chk
      rw [h1]
      decide +kernel
  unfold newS
  rw [if_pos h2]
  rfl

/-- Where the three partitions stand. -/
structure PSt (a : Int) (j hl st ag : Nat) (S : HS) : Prop where
  ex : ∃ h s E, S = ⟨[⟨0, h, hl⟩, ⟨a, s, st⟩, ⟨1, false, ag⟩], E⟩ ∧ E.length = hl + st + ag ∧ (h = true ↔ hl = 1) ∧ (a = 0 → (s = true ↔ st ≠ 0))
  h1 : hl ≤ 1
  le : hl + st + ag ≤ j
theorem PSt.ok {a : Int} {j hl st ag : Nat} {S : HS} (h : PSt a j hl st ag S) (ha : a = 0 ∨ a = 1) (hj : j ≤ 300) : HOk S j := by
  obtain ⟨b, s, E, rfl, h1, _, _⟩ := h.ex
  have := h.le
  refine ⟨by simp, fun p hp => ?_, fun p hp => ?_, by show E.length ≤ 1000; omega⟩
  · simp at hp; rcases hp with rfl | rfl | rfl <;> (try simp) <;> omega
  · simp at hp; rcases hp with rfl | rfl | rfl <;> (try simp) <;> omega
theorem PSt.len {a : Int} {j hl st ag : Nat} {S : HS} (h : PSt a j hl st ag S) : S.evs.length = hl + st + ag := by
  obtain ⟨b, s, E, rfl, h1, _, _⟩ := h.ex
  exact h1
theorem pushE_small (E : List EvH) (e : EvH) (h : E.length < 1000) : (pushE E e).length = E.length + 1 := by rw [pushE_len _ _ (by omega)]; omega
theorem seeS_at (ps : List PartH) (E : List EvH) (t : Int) (k : Nat) (p : PartH) (halt stuck : Bool) (hk : ps[k]? = some p) (hs : ¬ (halt = false ∧ stuck = false)) :
    seeS ⟨ps, E⟩ t (k : Int) halt stuck = (if halt = false ∧ p.act = 1 then (⟨ps.set k ⟨p.act, false, p.cnt + 1⟩, pushE E ⟨t, k, 2⟩⟩, 2)
      else if p.stays = false then (⟨ps.set k ⟨p.act, true, p.cnt + 1⟩, pushE E ⟨t, k, 1⟩⟩, 1) else (⟨ps, E⟩, 1)) := by
  have hlt := (List.getElem?_eq_some_iff.1 hk).1
  have hg : ps.getD k default = p := by rw [List.getD_eq_getElem?_getD, hk]; rfl
  unfold seeS
  rw [if_neg (by rintro (h | h | h); omega; (have : (ps.length : Int) ≤ (k : Int) := h); omega; exact hs h), Int.toNat_natCast]
  show (if halt = false ∧ (ps.getD k default).act = 1 then _ else _) = _
  rw [hg]
theorem PSt.s0 {a : Int} {j hl st ag : Nat} {S : HS} (h : PSt a j hl st ag S) (t : Int) (hj : j < 300) : PSt a (j + 1) 1 st ag (seeS S t 0 true false).1 := by
  obtain ⟨b, s, E, rfl, h1, h2, h3⟩ := h.ex
  have hle := h.le
  have hh := h.h1
  have e := seeS_at [⟨0, b, (hl : Int)⟩, ⟨a, s, (st : Int)⟩, ⟨1, false, (ag : Int)⟩] E t 0 ⟨0, b, (hl : Int)⟩ true false rfl (by simp)
  have e2 : seeS ⟨[⟨0, b, (hl : Int)⟩, ⟨a, s, (st : Int)⟩, ⟨1, false, (ag : Int)⟩], E⟩ t 0 true false = _ := e
  rw [e2, if_neg (by simp)]
  cases b with
  | false =>
    have : hl = 0 := by
      have : ¬ hl = 1 := fun e => by have := h2.2 e; cases this
      omega
    subst this
    rw [if_pos rfl]
    exact ⟨⟨true, s, _, rfl, by rw [pushE_small _ _ (by omega)]; omega, by simp, h3⟩, by omega, by omega⟩
  | true =>
    have : hl = 1 := h2.1 rfl
    subst this
    rw [if_neg (by simp)]
    exact ⟨⟨true, s, E, rfl, h1, by simp, h3⟩, by omega, by omega⟩
theorem PSt.s1 {a : Int} {j hl st ag : Nat} {S : HS} (h : PSt a j hl st ag S) (ha : a = 0 ∨ a = 1) (t : Int) (hj : j < 300) : PSt a (j + 1) hl (if a = 1 ∨ st = 0 then st + 1 else st) ag (seeS S t 1 false true).1 := by
  obtain ⟨b, s, E, rfl, h1, h2, h3⟩ := h.ex
  have hle := h.le
  have hh := h.h1
  have e := seeS_at [⟨0, b, (hl : Int)⟩, ⟨a, s, (st : Int)⟩, ⟨1, false, (ag : Int)⟩] E t 1 ⟨a, s, (st : Int)⟩ false true rfl (by simp)
  have e2 : seeS ⟨[⟨0, b, (hl : Int)⟩, ⟨a, s, (st : Int)⟩, ⟨1, false, (ag : Int)⟩], E⟩ t 1 false true = _ := e
  rw [e2]
  generalize hg : (if a = 1 ∨ st = 0 then st + 1 else st) = st'
  rcases ha with rfl | rfl
  · rw [if_neg (by simp)]
    have h3 := h3 rfl
    cases s with
    | false =>
      have : st = 0 := by
        cases st with
        | zero => rfl
        | succ n => have := h3.2 (by omega); cases this
      subst this
      have e3 : st' = 0 + 1 := by rw [← hg]; simp
      subst e3
      rw [if_pos rfl]
      exact ⟨⟨b, true, _, rfl, by rw [pushE_small _ _ (by omega)]; omega, h2, fun _ => by simp⟩, hh, by omega⟩
    | true =>
      have h4 : st ≠ 0 := h3.1 rfl
      have e3 : st' = st := by rw [← hg, if_neg (by simp [h4])]
      subst e3
      rw [if_neg (by simp)]
      exact ⟨⟨b, true, E, rfl, h1, h2, fun _ => h3⟩, hh, by omega⟩
  · have e3 : st' = st + 1 := by rw [← hg]; simp
    subst e3
    rw [if_pos ⟨rfl, rfl⟩]
    exact ⟨⟨b, false, _, rfl, by rw [pushE_small _ _ (by omega)]; omega, h2, fun h => by simp at h⟩, hh, by omega⟩
theorem PSt.s2 {a : Int} {j hl st ag : Nat} {S : HS} (h : PSt a j hl st ag S) (t : Int) (hj : j < 300) : PSt a (j + 1) hl st (ag + 1) (seeS S t 2 false true).1 := by
  obtain ⟨b, s, E, rfl, h1, h2, h3⟩ := h.ex
  have hle := h.le
  have hh := h.h1
  have e := seeS_at [⟨0, b, (hl : Int)⟩, ⟨a, s, (st : Int)⟩, ⟨1, false, (ag : Int)⟩] E t 2 ⟨1, false, (ag : Int)⟩ false true rfl (by simp)
  have e2 : seeS ⟨[⟨0, b, (hl : Int)⟩, ⟨a, s, (st : Int)⟩, ⟨1, false, (ag : Int)⟩], E⟩ t 2 false true = _ := e
  rw [e2, if_pos ⟨rfl, rfl⟩]
  exact ⟨⟨b, s, _, rfl, by rw [pushE_small _ _ (by omega)]; omega, h2, h3⟩, hh, by omega⟩
theorem PSt.s3 {a : Int} {j hl st ag : Nat} {S : HS} (h : PSt a j hl st ag S) (t n : Int) : seeS S t n false false = (S, 0) ∧ PSt a (j + 1) hl st ag S := by
  have hle := h.le
  refine ⟨by unfold seeS; rw [if_pos (.inr (.inr ⟨rfl, rfl⟩))], h.ex, h.h1, by omega⟩
theorem PSt.cnt {a : Int} {j hl st ag : Nat} {S : HS} (h : PSt a j hl st ag S) : cntS S 0 = hl ∧ cntS S 1 = st ∧ cntS S 2 = ag := by
  obtain ⟨b, s, E, rfl, h1, h2, h3⟩ := h.ex
  exact ⟨rfl, rfl, rfl⟩

set_option maxRecDepth 100000 in
set_option maxHeartbeats 1600000 in
theorem parts_out (a : Int) (ao : Option Addr) (m c : Nat) (w : World) (h : 300 < m ∨ a < 0 ∨ 1 < a) : Calls Try.prog 11 #[.slice ao m c, .int .i64 a] w fun r w' => r = .returned (.bool true) ∧ Below w.heap.size w w' := by
  by_cases h1 : 300 < m
  · have d1 : decide ((300 : Int) < (m : Int)) = true := decide_eq_true (by omega)
    clear h h1
    go_enter Try.func11, Try.ntmps11
    go_wp2_with fail
    refine (alive21 _).mono ?_
    rintro r w1 ⟨rfl, C1⟩
    go_wp2_with fail
    go_ret
    exact ⟨rfl, C1.below (Nat.le_refl _) (fun _ _ h => h)⟩
  have d1 : decide ((300 : Int) < (m : Int)) = false := decide_eq_false (by omega)
  by_cases h2 : a < 0
  · have d2 : decide (a < 0) = true := decide_eq_true h2
    clear h h1 h2
    go_enter Try.func11, Try.ntmps11
    go_wp2_with fail
    refine (alive21 _).mono ?_
    rintro r w1 ⟨rfl, C1⟩
    go_wp2_with fail
    go_ret
    exact ⟨rfl, C1.below (Nat.le_refl _) (fun _ _ h => h)⟩
  have d2 : decide (a < 0) = false := decide_eq_false h2
  have d3 : decide (1 < a) = true := decide_eq_true (by omega)
  clear h h1 h2
  go_enter Try.func11, Try.ntmps11
  go_wp2_with fail
  refine (alive21 _).mono ?_
  rintro r w1 ⟨rfl, C1⟩
  go_wp2_with fail
  go_ret
  exact ⟨rfl, C1.below (Nat.le_refl _) (fun _ _ h => h)⟩

set_option maxRecDepth 100000 in
set_option maxHeartbeats 6400000 in
theorem parts_in (a : Int) (ao : Option Addr) (m c : Nat) (ns : List Int) (w : World) (hL : Lst w ao m c (ns.map (Value.int .i64)) 1) (h1 : m ≤ 300) (ha : a = 0 ∨ a = 1) : Calls Try.prog 11 #[.slice ao m c, .int .i64 a] w fun r w' => r = .returned (.bool true) ∧ Below w.heap.size w w' := by
  have HN := Lib.hid (c3H_new a ha)
  have HA := Lib.hid ha
  have hl : ns.length = m := by have := hL.src.len; simpa using this
  have d1 : decide ((300 : Int) < (m : Int)) = false := decide_eq_false (by omega)
  have d2 : decide (a < 0) = false := decide_eq_false (by omega)
  have d3 : decide (1 < a) = false := decide_eq_false (by omega)
  have HL := Lib.hid hL
  have HLN := Lib.hid hl
  obtain ⟨i0, hi0, hz0, hz1, hz2⟩ := info_parts info_part
  clear hL hl ha
  go_enter Try.func11, Try.ntmps11
  go_wp2_with fail
  refine (alive21 _).mono ?_
  rintro r w0 ⟨rfl, C0⟩
  go_wp2_with fail
  refine (one_any _).mono ?_
  rintro e w1 ⟨p, q, rfl, H1⟩
  have hp := H1.hp
  have hs0 := C0.size
  have hs1 := H1.chg.size
  have hpl := H1.pb.lt
  have hql := H1.qb.lt
  have hpq := H1.pq
  have W2 : Chg w1 ((w1.alloc (.cells #[.int .i64 20, .int .i64 10, .int .i64 0, .slice (some ⟨p, 0, none⟩) 1 1, .slice none 0 0, .slice (some ⟨q, 0, none⟩) 1 1] 27)).alloc (.cells #[.string sB1, .int .i64 1, .int .i64 a, .string sC1, .int .i64 1, .int .i64 1] 30)) (fun _ => False) := ((Chg.refl w1 _).alloc _).alloc _
  have SB : Src ((w1.alloc (.cells #[.int .i64 20, .int .i64 10, .int .i64 0, .slice (some ⟨p, 0, none⟩) 1 1, .slice none 0 0, .slice (some ⟨q, 0, none⟩) 1 1] 27)).alloc (.cells #[.string sB1, .int .i64 1, .int .i64 a, .string sC1, .int .i64 1, .int .i64 1] 30)) (some ⟨w1.heap.size + 1, 0, none⟩) 2 2 [.string sB1, .int .i64 1, .int .i64 a, .string sC1, .int .i64 1, .int .i64 1] 3 := by
    have := (Box.new (w1.alloc (.cells #[.int .i64 20, .int .i64 10, .int .i64 0, .slice (some ⟨p, 0, none⟩) 1 1, .slice none 0 0, .slice (some ⟨q, 0, none⟩) 1 1] 27)) 30 #[.string sB1, .int .i64 1, .int .i64 a, .string sC1, .int .i64 1, .int .i64 1]).src 2 2 3 _ rfl rfl
    rwa [show (w1.alloc (.cells #[.int .i64 20, .int .i64 10, .int .i64 0, .slice (some ⟨p, 0, none⟩) 1 1, .slice none 0 0, .slice (some ⟨q, 0, none⟩) 1 1] 27)).heap.size = w1.heap.size + 1 from by simp] at this
  have OA := (H1.pb.chg W2 (fun h => h)).own w0.heap.size 1 3 [.string sA, .int .i64 1, .int .i64 0] hp rfl rfl (by unfold maxLen; omega)
  have BG : Box ((w1.alloc (.cells #[.int .i64 20, .int .i64 10, .int .i64 0, .slice (some ⟨p, 0, none⟩) 1 1, .slice none 0 0, .slice (some ⟨q, 0, none⟩) 1 1] 27)).alloc (.cells #[.string sB1, .int .i64 1, .int .i64 a, .string sC1, .int .i64 1, .int .i64 1] 30)) w1.heap.size 27 #[.int .i64 20, .int .i64 10, .int .i64 0, .slice (some ⟨p, 0, none⟩) 1 1, .slice none 0 0, .slice (some ⟨q, 0, none⟩) 1 1] := (Box.new _ _ _).alloc _
  have CQ := (C0.trans H1.chg).trans W2
  have LQ := ((H1.qb.chg W2 (fun h => h)))
  have HLQ := Lib.hid LQ
  have HBG := Lib.hid BG
  clear H1 LQ BG
  go_wp2_with (at_builtin; go_loud (refine wpList_append_src _ rfl (.tmp 32) (.tmp 36) _ rfl w0.heap.size 30 i0 _ 3 32 Try.underlying23 hi0 hz0 hz1 hz2 rfl (by omega) _ 1 _ rfl OA _ 2 2 _ rfl SB (by intro u hu; simp at hu; rcases hu with rfl | rfl | rfl | rfl | rfl | rfl <;> rfl) (by unfold maxLen; omega) (by omega) (by simp; omega) ?_); go_loud (intro v3 w3 O3 hgr3); go_loud (obtain ⟨g3, c3, rfl, hg3, hg3l, hc3, _⟩ := own_block O3 (by omega)); go_loud (refine ?roundEnd))
  have C3 : Chg ((w1.alloc (.cells #[.int .i64 20, .int .i64 10, .int .i64 0, .slice (some ⟨p, 0, none⟩) 1 1, .slice none 0 0, .slice (some ⟨q, 0, none⟩) 1 1] 27)).alloc (.cells #[.string sB1, .int .i64 1, .int .i64 a, .string sC1, .int .i64 1, .int .i64 1] 30)) w3 (fun k => k = p) := (Chg.refl _ _).grown hgr3 (fun k hk _ => by cases hk; rfl)
  have BG3 := HBG.out.chg C3 (fun e => by omega)
  have hqp : q ≠ p := fun e => hpq e.symm
  have BQ3 := HLQ.out.chg C3 hqp
  have hgg : g3 ≠ w1.heap.size := own_ne O3 BG3 (by decide) g3 rfl
  have f3 := BG3.frozen 3
  have y0 := BG3.cell 0
  have y1 := BG3.cell 1
  have y2 := BG3.cell 2
  have y3 := BG3.cell 3
  have y4 := BG3.cell 4
  have y5 := BG3.cell 5
  have hl3 := BG3.lt
  have CW3 : Chg w w3 (fun _ => False) := CQ.trans' C3 (fun k hk e => by omega)
  have LG3 := own_lst O3
  have BF3 := BG3.set 3 (.slice (some ⟨g3, 0, none⟩) 3 c3)
  have CAT : CfgAt (w3.setCell ⟨w1.heap.size, 3, none⟩ (.slice (some ⟨g3, 0, none⟩) 3 c3)) (c3H a) (some ⟨g3, 0, none⟩) none (some ⟨q, 0, none⟩) c3 0 1 :=
    ⟨LG3.far (ne_some hgg) _, Lst.none _ _, (BQ3.far (fun e => by have e2 : q = w1.heap.size := e; omega) _).lst 1 1 3 _ rfl rfl (by decide) (by unfold maxLen; omega), fun p hp => by
      have : p = ⟨sA, 1, 0⟩ ∨ p = ⟨sB1, 1, a⟩ ∨ p = ⟨sC1, 1, 1⟩ := by simpa [c3H] using hp
      rcases this with rfl | rfl | rfl <;> (show (1 : Nat) ≤ maxLen; unfold maxLen; omega)⟩
  have CW4 : Chg w (w3.setCell ⟨w1.heap.size, 3, none⟩ (.slice (some ⟨g3, 0, none⟩) 3 c3)) (fun _ => False) := CW3.setCell (p := ⟨w1.heap.size, 3, none⟩) (fun h => by have h2 : w1.heap.size < w.heap.size := h; omega) _
  have HCAT := Lib.hid CAT
  have HCW4 := Lib.hid CW4
  have O0 := newS_ok (c3H a)
  rw [HN.out] at O0
  have P0 : PSt a 0 0 0 0 ⟨[⟨0, false, 0⟩, ⟨a, false, 0⟩, ⟨1, false, 0⟩], []⟩ := ⟨⟨false, false, [], rfl, rfl, by simp, fun _ => by simp⟩, by omega, by omega⟩
  have HP0 := Lib.hid P0
  clear CAT CW4 LG3 BF3 BQ3 O3 P0 CW3 CQ HLQ HBG SB OA W2
  refine ?rest
  go_wp2_with fail
  refine (hnew_at HCAT.out HN.out rfl rfl rfl rfl rfl rfl).mono ?_
  rintro r w4 ⟨g, rfl, M4, C4⟩
  have C14 := HCW4.out.trans C4
  have M4 := M4.mono (B' := fun k => w.heap.size ≤ k) (fun k hk => Nat.le_trans HCW4.out.size hk)
  clear y0 y1 y2 y3 y4 y5 f3 hl3 hgg hgr3 C3 BG3 hp hs0 hs1 hpl hql hqp hg3 hg3l hc3 O0 HCAT
  go_wp2_with fail
  go_loopw [8, 9, 10, 11] (fun h s ag i wx => ∃ (j hl st agn : Nat) (S : HS), j ≤ m ∧ i = .int .i64 j ∧ h = .int .i64 hl ∧ s = .int .i64 st ∧ ag = .int .i64 agn ∧ PSt a j hl st agn S ∧ MonAt wx (fun k => w.heap.size ≤ k) g S ∧ Chg w wx (fun _ => False)) (fun _ _ _ i _ => m - (intOf i).toNat)
  case atStart => exact ⟨0, 0, 0, 0, _, by omega, rfl, rfl, rfl, rfl, HP0.out, M4, C14⟩
  case round =>
    obtain ⟨j, hl, st, agn, S, hj, rfl, rfl, rfl, rfl, PJ, Mj, Cj⟩ := hrel
    have hsum := PJ.le
    by_cases hlt : j < m
    · obtain ⟨b, o, rfl⟩ := HL.out.pos (by omega)
      have hLj := HL.out.chg Cj (fun _ _ h => h)
      have hjl : j < ns.length := by rw [HLN.out]; exact hlt
      have hcell : wr.cell? ⟨b, o + j, none⟩ = some (.int .i64 ns[j]) := by
        have := hLj.src.get _ rfl j (.int .i64 ns[j]) (by simp [hjl])
        rwa [Addr.add_lit] at this
      obtain ⟨x, hx⟩ : ∃ x, ns[j] = x := ⟨_, rfl⟩
      rw [hx] at hcell
      have a3 := and3 x
      have j0 : (0 : Int) ≤ (j : Int) := by omega
      have j1 : (j : Int) < (m : Int) := by omega
      have OJ := PJ.ok HA.out (by omega)
      have HM := Lib.hid Mj
      have HPJ := Lib.hid PJ
      clear hLj hx Mj PJ
      obtain ⟨y, hy⟩ : ∃ y, x % 4 = y := ⟨_, rfl⟩
      rw [hy] at a3
      have hy4 : y = 0 ∨ y = 1 ∨ y = 2 ∨ y = 3 := by omega
      clear hy
      rcases hy4 with rfl | rfl | rfl | rfl
      · have T1 := see_any wr _ g S (j : Int) 0 true false j HM.out OJ (by omega)
        have P1 := HPJ.out.s0 (j : Int) (by omega)
        have HT1 := Lib.hid T1
        have HP1 := Lib.hid P1
        generalize seeS S (j : Int) 0 true false = r1 at HT1 HP1
        obtain ⟨S1, r1⟩ := r1
        clear T1 P1 OJ
        unfold stV at HT1
        go_wp2_with fail
        refine HT1.out.mono ?_
        rintro r w5 ⟨rfl, M5, C5⟩
        have M5 := M5.mono (B' := fun k => w.heap.size ≤ k) (fun k hk => by rcases hk with h | h; exact h; exact Nat.le_trans Cj.size h)
        have C6 : Chg w w5 (fun _ => False) := Cj.trans' C5 (fun k hk h => by have h' : w.heap.size ≤ k := h; omega)
        go_wp2_with fail
        go_roundw
        case rel => exact ⟨j + 1, 1, st, agn, S1, by omega, by go_num, rfl, rfl, rfl, HP1.out, M5, C6⟩
        case measure => simp [intOf]; omega
      · have T1 := see_any wr _ g S (j : Int) 1 false true j HM.out OJ (by omega)
        have P1 := HPJ.out.s1 HA.out (j : Int) (by omega)
        have HT1 := Lib.hid T1
        generalize seeS S (j : Int) 1 false true = r1 at HT1 P1
        obtain ⟨S1, r1⟩ := r1
        clear T1 OJ
        unfold stV at HT1
        by_cases hc : a = 1 ∨ st = 0
        · rw [if_pos hc] at P1
          have dd : (a == 1 || ((st : Int) == 0)) = true := by
            rcases hc with h | h
            · subst h; rfl
            · subst h; simp
          have HP1 := Lib.hid P1
          rcases HA.out with hA | hA
          · subst hA
            have hst : st = 0 := by rcases hc with h | h; omega; exact h
            subst hst
            clear P1 hc dd
            go_wp2_with fail
            refine HT1.out.mono ?_
            rintro r w5 ⟨rfl, M5, C5⟩
            have M5 := M5.mono (B' := fun k => w.heap.size ≤ k) (fun k hk => by rcases hk with h | h; exact h; exact Nat.le_trans Cj.size h)
            have C6 : Chg w w5 (fun _ => False) := Cj.trans' C5 (fun k hk h => by have h' : w.heap.size ≤ k := h; omega)
            go_wp2_with fail
            go_roundw
            case rel => exact ⟨j + 1, hl, 1, agn, S1, by omega, by go_num, rfl, by first | rfl | go_num, rfl, HP1.out, M5, C6⟩
            case measure => simp [intOf]; omega
          · subst hA
            clear P1 hc dd
            go_wp2_with fail
            refine HT1.out.mono ?_
            rintro r w5 ⟨rfl, M5, C5⟩
            have M5 := M5.mono (B' := fun k => w.heap.size ≤ k) (fun k hk => by rcases hk with h | h; exact h; exact Nat.le_trans Cj.size h)
            have C6 : Chg w w5 (fun _ => False) := Cj.trans' C5 (fun k hk h => by have h' : w.heap.size ≤ k := h; omega)
            go_wp2_with fail
            go_roundw
            case rel => exact ⟨j + 1, hl, st + 1, agn, S1, by omega, by go_num, rfl, by go_num, rfl, HP1.out, M5, C6⟩
            case measure => simp [intOf]; omega
        · rw [if_neg hc] at P1
          have HP1 := Lib.hid P1
          have hA : a = 0 := by rcases HA.out with h | h; exact h; exact absurd (.inl h) hc
          have hst : ((st : Int) == 0) = false := beq_eq_false_iff_ne.2 (fun e => hc (.inr (by omega)))
          subst hA
          clear P1 hc
          go_wp2_with fail
          refine HT1.out.mono ?_
          rintro r w5 ⟨rfl, M5, C5⟩
          have M5 := M5.mono (B' := fun k => w.heap.size ≤ k) (fun k hk => by rcases hk with h | h; exact h; exact Nat.le_trans Cj.size h)
          have C6 : Chg w w5 (fun _ => False) := Cj.trans' C5 (fun k hk h => by have h' : w.heap.size ≤ k := h; omega)
          go_wp2_with fail
          go_roundw
          case rel => exact ⟨j + 1, hl, st, agn, S1, by omega, by go_num, rfl, rfl, rfl, HP1.out, M5, C6⟩
          case measure => simp [intOf]; omega
      · have T1 := see_any wr _ g S (j : Int) 2 false true j HM.out OJ (by omega)
        have P1 := HPJ.out.s2 (j : Int) (by omega)
        have HT1 := Lib.hid T1
        have HP1 := Lib.hid P1
        generalize seeS S (j : Int) 2 false true = r1 at HT1 HP1
        obtain ⟨S1, r1⟩ := r1
        clear T1 P1 OJ
        unfold stV at HT1
        go_wp2_with fail
        refine HT1.out.mono ?_
        rintro r w5 ⟨rfl, M5, C5⟩
        have M5 := M5.mono (B' := fun k => w.heap.size ≤ k) (fun k hk => by rcases hk with h | h; exact h; exact Nat.le_trans Cj.size h)
        have C6 : Chg w w5 (fun _ => False) := Cj.trans' C5 (fun k hk h => by have h' : w.heap.size ≤ k := h; omega)
        go_wp2_with fail
        go_roundw
        case rel => exact ⟨j + 1, hl, st, agn + 1, S1, by omega, by go_num, rfl, rfl, by go_num, HP1.out, M5, C6⟩
        case measure => simp [intOf]; omega
      · have T1 := fun n => see_any wr _ g S (j : Int) n false false j HM.out OJ (by omega)
        have HT1 := Lib.hid T1
        clear T1 OJ
        unfold stV at HT1
        go_wp2_with fail
        refine (HT1.out _).mono ?_
        rintro r w5 ⟨rfl, M5, C5⟩
        have P3 := HPJ.out.s3 (j : Int)
        rw [(P3 _).1] at M5 ⊢
        have M5 := M5.mono (B' := fun k => w.heap.size ≤ k) (fun k hk => by rcases hk with h | h; exact h; exact Nat.le_trans Cj.size h)
        have C6 : Chg w w5 (fun _ => False) := Cj.trans' C5 (fun k hk h => by have h' : w.heap.size ≤ k := h; omega)
        have P4 := (P3 0).2
        clear P3
        go_wp2_with fail
        go_roundw
        case rel => exact ⟨j + 1, hl, st, agn, S, by omega, by go_num, rfl, rfl, rfl, P4, M5, C6⟩
        case measure => simp [intOf]; omega
    · have hjm : j = m := by omega
      subst hjm
      obtain ⟨hc0, hc1, hc2⟩ := PJ.cnt
      have hlen := PJ.len
      have K0 := count_any wr _ g S 0 Mj
      have K1 := count_any wr _ g S 1 Mj
      have K2 := count_any wr _ g S 2 Mj
      rw [hc0] at K0
      rw [hc1] at K1
      rw [hc2] at K2
      have HK0 := Lib.hid K0
      have HK1 := Lib.hid K1
      have HK2 := Lib.hid K2
      have HLI := Lib.hid (list_any _ g S wr (fun k hk => hk.2) Mj.lt)
      have HLE := Lib.hid hlen
      clear K0 K1 K2 hc0 hc1 hc2 hlen Mj PJ
      go_wp2_with fail
      refine HK0.out.mono ?_
      rintro r w6 ⟨rfl, rfl⟩
      go_wp2_with fail
      refine HK1.out.mono ?_
      rintro r w6 ⟨rfl, rfl⟩
      go_wp2_with fail
      refine HK2.out.mono ?_
      rintro r w6 ⟨rfl, rfl⟩
      go_wp2_with fail
      refine HLI.out.mono ?_
      rintro r w7 ⟨v, rfl, O7, C7⟩
      rw [HLE.out] at O7
      obtain ⟨a7, c7, rfl, _⟩ := own_form O7
      go_wp2_with fail
      go_ret
      exact ⟨by simp, (Cj.trans C7).below (Nat.le_refl _) (fun _ _ h => h)⟩
end Go.Proofs.Ytdhkbephofnfdaa

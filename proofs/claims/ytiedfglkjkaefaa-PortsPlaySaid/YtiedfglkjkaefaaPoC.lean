/- ports: Two, alive. -/
import Derived.Test.YtiedfglkjkaefaaPoB
import Derived.Test.YtiedfglkjkaefaaLaw14
namespace Go.Proofs.Ytiedfglkjkaefaa
open Go.RowKit

def sB : ByteArray := { data := #[98] }
theorem Box.own {w : World} {g : Nat} {t : TypeId} {cs : Array Value} (h : Box w g t cs) (base n size : Nat) (xs : List Value) (hb : base ≤ g) (hc : cs.toList = xs) (hl : xs.length = n * size) (hm : n ≤ maxLen) : w.ownsRow base t size (.slice (some ⟨g, 0, none⟩) n n) n xs := by
  subst hc
  exact ⟨hl, .inr ⟨g, n, cs, rfl, hb, h, Nat.le_refl _, hm, by simpa using hl, by rw [List.take_of_length_le (by omega)]⟩⟩

def twoL (s d : Int) : List ChanD := [⟨1, 0, 1, s, d⟩, ⟨0, 0, 1, s, 1⟩, ⟨1, 1, 0, s, d⟩]
def twoC (s d : Int) : Cfg := ⟨20, 10, 0, [⟨sA, 1, 0⟩, ⟨sB, 2, 0⟩], twoL s d, [⟨0, 10, 0⟩]⟩
theorem two_chk {s d : Int} (hs : 1 ≤ s ∧ s ≤ 64) (hd : 1 ≤ d ∧ d ≤ 16) : chk (twoC s d) = 0 := by
  have h1 : partsOk (twoC s d) = true := by
    have h0 : partOk (twoC s d).parts 0 = true := by
      show ((nameOk sA && wi 0 0 1) && nameNew [] sA) = true
      decide +kernel
    have h1 : partOk (twoC s d).parts 1 = true := by
      show ((nameOk sB && wi 0 0 1) && nameNew [⟨sA, 1, 0⟩] sB) = true
      rw [show nameOk sB = true from by decide +kernel, show nameNew [⟨sA, 1, 0⟩] sB = true from by decide +kernel]
      decide +kernel
    unfold partsOk
    show (wi 2 1 8 && ([0, 1] : List Nat).all (partOk (twoC s d).parts)) = _
    rw [List.all_cons, List.all_cons, h0, h1]
    kernel_rfl
  have h2 : memOk (twoC s d) = true := by
    show (([⟨sA, 1, 0⟩, ⟨sB, 2, 0⟩] : List PartD).all _ && decide ((1 : Int) + (2 + 0) ≤ 20 - 4)) = true
    decide +kernel
  have h3 : chansOk (twoC s d) = true := by
    have e1 : wi s 1 64 = true := decide_eq_true hs
    have e2 : wi d 1 16 = true := decide_eq_true hd
    show (decide (3 ≤ 16) && (chOk 2 ⟨1, 0, 1, s, d⟩ && (chOk 2 ⟨0, 0, 1, s, 1⟩ && (chOk 2 ⟨1, 1, 0, s, d⟩ && true)))) = true
    unfold chOk
    simp only [e1, e2]
    kernel_rfl
  have h4 : winsOk (twoC s d) = true := by
    unfold winsOk
    show (winBase ⟨20, 10, 0, [⟨sA, 1, 0⟩, ⟨sB, 2, 0⟩], twoL s d, [⟨0, 10, 0⟩]⟩ && winsGo ⟨20, 10, 0, [⟨sA, 1, 0⟩, ⟨sB, 2, 0⟩], twoL s d, [⟨0, 10, 0⟩]⟩ [⟨0, 10, 0⟩] 0) = true
    unfold winBase
    simp only [winsGo, winOk, List.length_cons, List.length_nil]
    kernel_rfl
  have h0 : wi (twoC s d).pages 5 256 = true := by show wi 20 5 256 = true; decide +kernel
  unfold chk
  rw [h0, h1, h2, h3, h4]
  rfl

theorem tw_src (w2 : World) (p q : Nat) : Src ((w2.alloc (.cells #[.int .i64 20, .int .i64 10, .int .i64 0, .slice (some ⟨p, 0, none⟩) 1 1, .slice none 0 0, .slice (some ⟨q, 0, none⟩) 1 1] 32)).alloc (.cells #[.string sB, .int .i64 2, .int .i64 0] 70)) (some ⟨w2.heap.size + 1, 0, none⟩) 1 1 [.string sB, .int .i64 2, .int .i64 0] 3 := by
  have := (Box.new (w2.alloc (.cells #[.int .i64 20, .int .i64 10, .int .i64 0, .slice (some ⟨p, 0, none⟩) 1 1, .slice none 0 0, .slice (some ⟨q, 0, none⟩) 1 1] 32)) 70 #[.string sB, .int .i64 2, .int .i64 0]).src 1 1 3 _ rfl rfl
  rwa [show (w2.alloc (.cells #[.int .i64 20, .int .i64 10, .int .i64 0, .slice (some ⟨p, 0, none⟩) 1 1, .slice none 0 0, .slice (some ⟨q, 0, none⟩) 1 1] 32)).heap.size = w2.heap.size + 1 from by simp] at this
theorem tw_own {w1 w2 : World} {p q : Nat} (H2 : OneAt w1 w2 p q) : ((w2.alloc (.cells #[.int .i64 20, .int .i64 10, .int .i64 0, .slice (some ⟨p, 0, none⟩) 1 1, .slice none 0 0, .slice (some ⟨q, 0, none⟩) 1 1] 32)).alloc (.cells #[.string sB, .int .i64 2, .int .i64 0] 70)).ownsRow w1.heap.size 70 3 (.slice (some ⟨p, 0, none⟩) 1 1) 1 [.string sA, .int .i64 1, .int .i64 0] := by
  have BA : Box ((w2.alloc (.cells #[.int .i64 20, .int .i64 10, .int .i64 0, .slice (some ⟨p, 0, none⟩) 1 1, .slice none 0 0, .slice (some ⟨q, 0, none⟩) 1 1] 32)).alloc (.cells #[.string sB, .int .i64 2, .int .i64 0] 70)) p 70 #[.string sA, .int .i64 1, .int .i64 0] := (H2.pb.alloc _).alloc _
  exact BA.own w1.heap.size 1 3 _ H2.hp rfl rfl (by unfold maxLen; omega)

/-- What Two leaves. -/
def TwoR (w w' : World) (s d : Int) (e : Ending) : Prop := ∃ b z q cap, e = .returned (.agg #[.int .i64 20, .int .i64 10, .int .i64 0, .slice (some ⟨b, 0, none⟩) 2 cap, .slice (some ⟨z, 0, none⟩) 3 3, .slice (some ⟨q, 0, none⟩) 1 1]) ∧
  CfgAt w' (twoC s d) (some ⟨b, 0, none⟩) (some ⟨z, 0, none⟩) (some ⟨q, 0, none⟩) cap 3 1 ∧ Chg w w' (fun _ => False)

set_option maxRecDepth 100000 in
set_option maxHeartbeats 1000000 in
theorem two_any (s d : Int) (w : World) : Calls Try.prog 11 #[.int .i64 s, .int .i64 d] w fun e w' => TwoR w w' s d e := by
  obtain ⟨i0, hi, hz0, hz1, hz2⟩ := info_parts info_partC
  go_enter Try.func11, Try.ntmps11
  go_wp2_with fail
  refine (one_any _).mono ?_
  rintro e w2 ⟨p, q, rfl, H2⟩
  have HH2 := Lib.hid H2
  have hpl := H2.pb.lt
  have hql := H2.qb.lt
  have SB := tw_src w2 p q
  have OA := tw_own H2
  have hcl := H2.chg.size
  have hcl2 : w.heap.size < w2.heap.size := by simp at hcl; omega
  have hp1 : p ≠ w2.heap.size := by omega
  have hp2 : w2.heap.size ≠ p := by omega
  have HOA := Lib.hid (own_base OA (show w.heap.size ≤ _ by simp))
  have HSB := Lib.hid SB
  have BR : Box w2 w.heap.size 32 #[.int .i64 0, .int .i64 0, .int .i64 0, .slice none 0 0, .slice none 0 0, .slice none 0 0] := (Box.new w _ _).chg H2.chg (fun h => h)
  have hpr : w.heap.size ≠ p := by have := H2.hp; simp at this; omega
  have HBR := Lib.hid BR
  have HC2 : Hid (Chg w w2 (fun _ => False)) := ((Chg.refl w _).alloc _).trans H2.chg
  clear OA SB H2 BR hcl
  go_wp2_with (at_builtin; go_loud (refine wpList_append_src _ rfl (.tmp 9) (.tmp 11) _ rfl w.heap.size 70 i0 _ 3 32 Try.underlying28 hi hz0 hz1 hz2 rfl (by omega) _ 1 _ rfl HOA.out _ 1 1 _ rfl HSB.out (by intro u hu; simp at hu; rcases hu with rfl | rfl | rfl <;> rfl) (by unfold maxLen; omega) (by omega) (by simp; omega) ?_); go_loud (intro v1 w3 O3 g3); go_loud (refine ?roundEnd))
  case roundEnd =>
    have CA : Chg w2 ((w2.alloc (.cells #[.int .i64 20, .int .i64 10, .int .i64 0, .slice (some ⟨p, 0, none⟩) 1 1, .slice none 0 0, .slice (some ⟨q, 0, none⟩) 1 1] 32)).alloc (.cells #[.string sB, .int .i64 2, .int .i64 0] 70)) (fun _ => False) := ((Chg.refl _ _).alloc _).alloc _
    have CG : Chg ((w2.alloc (.cells #[.int .i64 20, .int .i64 10, .int .i64 0, .slice (some ⟨p, 0, none⟩) 1 1, .slice none 0 0, .slice (some ⟨q, 0, none⟩) 1 1] 32)).alloc (.cells #[.string sB, .int .i64 2, .int .i64 0] 70)) w3 (fun k => k = p) := Chg.of_grown g3 (fun k hk _ => by have : some p = some k := hk; injection this with this; exact this.symm)
    have BG : Box ((w2.alloc (.cells #[.int .i64 20, .int .i64 10, .int .i64 0, .slice (some ⟨p, 0, none⟩) 1 1, .slice none 0 0, .slice (some ⟨q, 0, none⟩) 1 1] 32)).alloc (.cells #[.string sB, .int .i64 2, .int .i64 0] 70)) w2.heap.size 32 #[.int .i64 20, .int .i64 10, .int .i64 0, .slice (some ⟨p, 0, none⟩) 1 1, .slice none 0 0, .slice (some ⟨q, 0, none⟩) 1 1] := (Box.new _ _ _).alloc _
    have M3 := BG.chg CG (by omega)
    have R3 := (HBR.out.chg CA (fun h => h)).chg CG (fun h => hpr h)
    have Q3 : Box w3 q 99 #[.int .i64 0, .int .i64 10, .int .i64 0] := (HH2.out.qb.chg CA (fun h => h)).chg CG (fun h => HH2.out.pq h.symm)
    have C3 : Chg w w3 (fun _ => False) := (HC2.out.trans CA).trans' CG (fun k hk h => by have := HH2.out.hp; simp at this; omega)
    obtain ⟨b, cap, rfl, hb0, hb1, hbc1, hbc2⟩ := own_block O3 (by omega)
    have hbg := own_ne O3 M3 (by decide) b rfl
    have hbr := own_ne O3 R3 (by decide) b rfl
    have hgb : w2.heap.size ≠ b := fun h => hbg h.symm
    have hrb : w.heap.size ≠ b := fun h => hbr h.symm
    have hrg : w.heap.size ≠ w2.heap.size := by omega
    have hgr : w2.heap.size ≠ w.heap.size := by omega
    have x3 := M3.cell 3
    have z3 := M3.frozen 3
    have hl3 := M3.lt
    have hl4 := R3.lt
    have HO3 := Lib.hid O3
    have HQ3 := Lib.hid Q3
    have HC3 := Lib.hid C3
    have HM3 := Lib.hid M3
    have HR3 := Lib.hid R3
    clear O3 g3 CA CG BG M3 R3 Q3 C3
    go_upto_region 4 with fail
    have C4 : Chg w3 (w3.setCell ⟨w2.heap.size, 3, none⟩ (.slice (some ⟨b, 0, none⟩) 2 cap)) (fun k => k = w2.heap.size) := (Chg.refl w3 (fun k => k = w2.heap.size)).setCell (p := ⟨w2.heap.size, 3, none⟩) (fun _ => rfl) _
    have M4 := HM3.out.set 3 (.slice (some ⟨b, 0, none⟩) 2 cap)
    have R4 := HR3.out.chg C4 (fun h => hrg h)
    have O4 := own_chg HO3.out C4 (fun k hk h => hbg (by injection hk with hk; have e : b = k := hk; exact e.trans h))
    have Q4 := HQ3.out.chg C4 (fun h => by omega)
    have D4 := HC3.out.trans' C4 (fun k hk h => by omega)
    generalize w3.setCell ⟨w2.heap.size, 3, none⟩ (.slice (some ⟨b, 0, none⟩) 2 cap) = W4 at *
    have M4' : Box W4 w2.heap.size 32 #[.int .i64 20, .int .i64 10, .int .i64 0, .slice (some ⟨b, 0, none⟩) 2 cap, .slice none 0 0, .slice (some ⟨q, 0, none⟩) 1 1] := M4
    have v4 := M4'.cell 4
    have z4 := M4'.frozen 4
    have hm4 := M4'.lt
    have HM4 := Lib.hid M4'
    have HR4 := Lib.hid R4
    have HO4 := Lib.hid O4
    have HQ4 := Lib.hid Q4
    have HD4 := Lib.hid D4
    clear M4 M4' R4 O4 Q4 D4 C4 x3 z3
    go_upto_region 5 with fail
    have C5 : Chg W4 ((W4.setCell ⟨w2.heap.size, 4, none⟩ (.slice (some ⟨W4.heap.size, 0, none⟩) 3 3)).alloc (.cells #[.int .i64 1, .int .i64 0, .int .i64 1, .int .i64 s, .int .i64 d, .int .i64 0, .int .i64 0, .int .i64 1, .int .i64 s, .int .i64 1, .int .i64 1, .int .i64 1, .int .i64 0, .int .i64 s, .int .i64 d] 73)) (fun k => k = w2.heap.size) := ((Chg.refl W4 (fun k => k = w2.heap.size)).setCell (p := ⟨w2.heap.size, 4, none⟩) (fun _ => rfl) _).alloc _
    have M5 : Box ((W4.setCell ⟨w2.heap.size, 4, none⟩ (.slice (some ⟨W4.heap.size, 0, none⟩) 3 3)).alloc (.cells #[.int .i64 1, .int .i64 0, .int .i64 1, .int .i64 s, .int .i64 d, .int .i64 0, .int .i64 0, .int .i64 1, .int .i64 s, .int .i64 1, .int .i64 1, .int .i64 1, .int .i64 0, .int .i64 s, .int .i64 d] 73)) w2.heap.size 32 #[.int .i64 20, .int .i64 10, .int .i64 0, .slice (some ⟨b, 0, none⟩) 2 cap, .slice (some ⟨W4.heap.size, 0, none⟩) 3 3, .slice (some ⟨q, 0, none⟩) 1 1] := (HM4.out.set 4 (.slice (some ⟨W4.heap.size, 0, none⟩) 3 3)).alloc _
    have N5 := Box.new (W4.setCell ⟨w2.heap.size, 4, none⟩ (.slice (some ⟨W4.heap.size, 0, none⟩) 3 3)) 73 #[.int .i64 1, .int .i64 0, .int .i64 1, .int .i64 s, .int .i64 d, .int .i64 0, .int .i64 0, .int .i64 1, .int .i64 s, .int .i64 1, .int .i64 1, .int .i64 1, .int .i64 0, .int .i64 s, .int .i64 d]
    rw [show (W4.setCell ⟨w2.heap.size, 4, none⟩ (.slice (some ⟨W4.heap.size, 0, none⟩) 3 3)).heap.size = W4.heap.size from by simp] at N5
    have R5 := HR4.out.chg C5 (fun h => hrg h)
    have O5 := own_chg HO4.out C5 (fun k hk h => hbg (by injection hk with hk; have e : b = k := hk; exact e.trans h))
    have Q5 := HQ4.out.chg C5 (fun h => by omega)
    have D5 := HD4.out.trans' C5 (fun k hk h => by omega)
    have hzr : W4.heap.size ≠ w.heap.size := by have := HR4.out.lt; omega
    generalize (W4.setCell ⟨w2.heap.size, 4, none⟩ (.slice (some ⟨W4.heap.size, 0, none⟩) 3 3)).alloc (.cells #[.int .i64 1, .int .i64 0, .int .i64 1, .int .i64 s, .int .i64 d, .int .i64 0, .int .i64 0, .int .i64 1, .int .i64 s, .int .i64 1, .int .i64 1, .int .i64 1, .int .i64 0, .int .i64 s, .int .i64 d] 73) = W5 at *
    obtain ⟨z, hz⟩ : ∃ z, W4.heap.size = z := ⟨_, rfl⟩
    rw [hz] at N5 hzr M5
    have HZ := Lib.hid hz
    have x0 := M5.cell 0
    have x1 := M5.cell 1
    have x2 := M5.cell 2
    have x3 := M5.cell 3
    have x4 := M5.cell 4
    have x5 := M5.cell 5
    have r0 := R5.cell 0
    have r1 := R5.cell 1
    have r2 := R5.cell 2
    have r3 := R5.cell 3
    have r4 := R5.cell 4
    have r5 := R5.cell 5
    have s0 := R5.frozen 0
    have s1 := R5.frozen 1
    have s2 := R5.frozen 2
    have s3 := R5.frozen 3
    have s4 := R5.frozen 4
    have s5 := R5.frozen 5
    have hm5 := M5.lt
    have hr5 := R5.lt
    have HN5 := Lib.hid N5
    have HO5 := Lib.hid O5
    have HQ5 := Lib.hid Q5
    have HD5 := Lib.hid D5
    have HZR := Lib.hid hzr
    clear M5 N5 R5 O5 Q5 D5 C5 v4 z4 hzr
    rw [hz]
    clear hz
    go_wp2_with fail
    refine bodyPost_ret (v := .agg #[.int .i64 20, .int .i64 10, .int .i64 0, .slice (some ⟨b, 0, none⟩) 2 cap, .slice (some ⟨z, 0, none⟩) 3 3, .slice (some ⟨q, 0, none⟩) 1 1]) (by simp [results, Try.results11, go_sem, r0, r1, r2, r3, r4, r5]) rfl ?_
    have C6 : Chg W5 ((((((W5.setCell ⟨w.heap.size, 0, none⟩ (.int .i64 20)).setCell ⟨w.heap.size, 1, none⟩ (.int .i64 10)).setCell ⟨w.heap.size, 2, none⟩ (.int .i64 0)).setCell ⟨w.heap.size, 3, none⟩ (.slice (some ⟨b, 0, none⟩) 2 cap)).setCell ⟨w.heap.size, 4, none⟩ (.slice (some ⟨z, 0, none⟩) 3 3)).setCell ⟨w.heap.size, 5, none⟩ (.slice (some ⟨q, 0, none⟩) 1 1)) (fun k => k = w.heap.size) :=
      ((((((Chg.refl W5 (fun k => k = w.heap.size)).setCell (p := ⟨w.heap.size, 0, none⟩) (fun _ => rfl) _).setCell (p := ⟨w.heap.size, 1, none⟩) (fun _ => rfl) _).setCell (p := ⟨w.heap.size, 2, none⟩) (fun _ => rfl) _).setCell (p := ⟨w.heap.size, 3, none⟩) (fun _ => rfl) _).setCell (p := ⟨w.heap.size, 4, none⟩) (fun _ => rfl) _).setCell (p := ⟨w.heap.size, 5, none⟩) (fun _ => rfl) _
    have hqr : q ≠ w.heap.size := by have := HH2.out.hq; simp at this; omega
    have LP := (own_lst HO5.out).chg C6 (fun ad e h => hbr (by injection e with e; subst e; exact h))
    have LC := (HN5.out.chg C6 (fun h => HZR.out h)).lst 3 3 5 _ rfl rfl (by decide) (by unfold maxLen; omega)
    have LW := (HQ5.out.chg C6 (fun h => hqr h)).lst 1 1 3 _ rfl rfl (by decide) (by unfold maxLen; omega)
    refine ⟨b, z, q, cap, rfl, ⟨LP, LC, LW, fun p hp => ?_⟩, HD5.out.trans' C6 (fun k hk h => by omega)⟩
    have hp' : p = ⟨sA, 1, 0⟩ ∨ p = ⟨sB, 2, 0⟩ := by simpa [twoC] using hp
    rcases hp' with rfl | rfl
    · exact show sA.size ≤ maxLen by decide
    · exact show sB.size ≤ maxLen by decide
end Go.Proofs.Ytiedfglkjkaefaa

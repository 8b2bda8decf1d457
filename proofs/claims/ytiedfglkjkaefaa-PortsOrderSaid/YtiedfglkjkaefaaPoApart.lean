/- PortsApart: the walk (printed by gen_portsapart.py). -/
import Derived.Test.YtiedfglkjkaefaaPoE
import Derived.Deep.DeepCutAuto
namespace Go.Proofs.Ytiedfglkjkaefaa
open Go.RowKit

/-- A law's argument of bytes. -/
structure Arg (W : World) (ao : Option Addr) (m c : Nat) (xs : List Int) : Prop where
  len : xs.length = m
  src : Src W ao m c (u8s xs) 1
  old : ∀ ad, ao = some ad → 0 < m → ad.block < W.heap.size
  byt : byteL xs
theorem mul_zero3 (a b c : Nat) (ha : a ≤ 16) (hb : b ≤ 16) (hc : c ≤ 16) : ∃ p r : Int, wrap64 ((a : Int) * b) = p ∧ wrap64 (p * c) = r ∧ (r = 0 ↔ a = 0 ∨ b = 0 ∨ c = 0) := by
  have h1 : a * b ≤ 16 * 16 := Nat.mul_le_mul ha hb
  have h2 : a * b * c ≤ 16 * 16 * 16 := Nat.mul_le_mul h1 hc
  refine ⟨((a * b : Nat) : Int), ((a * b * c : Nat) : Int), ?_, ?_, ?_⟩
  · rw [← Int.natCast_mul]; simp only [wrap64]; omega
  · rw [← Int.natCast_mul]; simp only [wrap64]; omega
  · rw [Int.natCast_eq_zero, Nat.mul_eq_zero, Nat.mul_eq_zero, or_assoc]

set_option maxRecDepth 100000 in
set_option maxHeartbeats 4000000 in
theorem apart_in {aa ab ac : Option Addr} {la lb lc ca cb cc : Nat} {xa xb xc : List Int} (W : World) (A : Arg W aa la ca xa) (B : Arg W ab lb cb xb) (C : Arg W ac lc cc xc) (h : 0 < la ∧ la ≤ 16 ∧ 0 < lb ∧ lb ≤ 16 ∧ 0 < lc ∧ lc ≤ 16) :
    Calls Try.prog 3 #[.slice aa la ca, .slice ab lb cb, .slice ac lc cc] W fun e w' => e = .returned (.bool true) ∧ Below W.heap.size W w' := by
  obtain ⟨h1, h2, h3, h4, h5, h6⟩ := h
  obtain ⟨p, r, hp, hr, h0⟩ := mul_zero3 la lb lc h2 h4 h6
  have b0 : (r == 0) = false := by rw [beq_eq_false_iff_ne]; intro h; have := h0.1 h; omega
  have b1 : decide ((16 : Int) < (la : Int)) = false := decide_eq_false (by omega)
  have b2 : decide ((16 : Int) < (lb : Int)) = false := decide_eq_false (by omega)
  have b3 : decide ((16 : Int) < (lc : Int)) = false := decide_eq_false (by omega)
  have HSa := Lib.hid A.src
  have HSb := Lib.hid B.src
  have HSc := Lib.hid C.src
  have HOa := Lib.hid A.old
  have HOb := Lib.hid B.old
  have HOc := Lib.hid C.old
  have HLa := Lib.hid A.len
  have HLb := Lib.hid B.len
  have HLc := Lib.hid C.len
  have HBa := Lib.hid A.byt
  have HBb := Lib.hid B.byt
  have HBc := Lib.hid C.byt
  clear A B C h0
  go_enter Try.func3, Try.ntmps3
  go_wp2_with fail
  refine (alive18 _).mono ?_
  rintro e w1 ⟨rfl, C1⟩
  go_wp2_with fail
  refine (two_any 16 3 _).mono ?_
  rintro e w2 ⟨b, z, q, cap, rfl, A2, C2⟩
  have HN := new_p A2 (two_chk (by decide) (by decide)) rfl rfl rfl rfl rfl rfl
  clear A2
  go_wp2_with fail
  refine HN.mono ?_
  clear HN
  rintro e w3 ⟨n, rfl, N3, C3⟩
  have C03 := (C1.trans C2).trans C3
  have hs2 := (C1.trans C2).size
  rw [aq_none] at N3
  have HN3 : Hid (NetP w3 (fun k => k < W.heap.size) n (twoL 16 3) (aq [] [] [])) := N3.mono (fun k hk => Nat.lt_of_lt_of_le hk hs2)
  have HC3 : Hid (Chg W w3 (fun k => ¬ k < W.heap.size)) := C03.mono (fun _ _ h => h.elim)
  obtain ⟨P3, hP3⟩ : ∃ P : Nat → Prop, (fun k => k < W.heap.size) = P := ⟨_, rfl⟩
  have HP3 : Hid (∀ k, k < W.heap.size → P3 k) := by rw [← hP3]; exact fun _ h => h
  rw [hP3] at HN3
  have HSa3 := Lib.hid (HSa.out.chg C03 (fun _ _ h => h))
  have HSb3 := Lib.hid (HSb.out.chg C03 (fun _ _ h => h))
  have HSc3 := Lib.hid (HSc.out.chg C03 (fun _ _ h => h))
  clear N3 C1 C2 C3 C03 hs2 hP3
  go_wp2_with (go_at_call 12; refine (num18_any _ _).mono ?_; rintro e w' ⟨rfl, rfl⟩)
  have e4 := awr0 (s := 16) (d := 3) (xs := xa) (x := []) (y := []) (z := []) (by have := HLa.out; omega) (by have := HLa.out; omega) (by decide)
  refine (write_p HN3.out 0 0 (by decide) (by decide) la HLa.out HSa3.out HBa.out (by omega) e4.1 e4.2).mono ?_
  rintro e w4 ⟨rfl, N4, C4⟩
  have HN4 : Hid (NetP w4 P3 n (twoL 16 3) (aq [xa] [] [])) := N4
  have HSa4 := Lib.hid (src_old HSa3.out HOa.out HP3.out C4)
  have HSb4 := Lib.hid (src_old HSb3.out HOb.out HP3.out C4)
  have HSc4 := Lib.hid (src_old HSc3.out HOc.out HP3.out C4)
  have HC4 := Lib.hid (HC3.out.trans' C4 (fun k hk h hk2 => h (HP3.out k hk2)))
  have HP4 := HP3
  clear e4 N4 C4 HP3 HSa3 HSb3 HSc3 HC3 HN3
  go_wp2_with fail
  have e5 := awr1 (s := 16) (d := 3) (xs := xb) (x := [xa]) (y := []) (z := []) (by have := HLb.out; omega) (by have := HLb.out; omega)
  refine (write_p HN4.out 0 1 (by decide) (by decide) lb HLb.out HSb4.out HBb.out (by omega) e5.1 e5.2).mono ?_
  rintro e w5 ⟨rfl, N5, C5⟩
  have HN5 : Hid (NetP w5 P3 n (twoL 16 3) (aq [xa] [xb] [])) := N5
  have HSa5 := Lib.hid (src_old HSa4.out HOa.out HP4.out C5)
  have HSb5 := Lib.hid (src_old HSb4.out HOb.out HP4.out C5)
  have HSc5 := Lib.hid (src_old HSc4.out HOc.out HP4.out C5)
  have HC5 := Lib.hid (HC4.out.trans' C5 (fun k hk h hk2 => h (HP4.out k hk2)))
  have HP5 := HP4
  clear e5 N5 C5 HP4 HSa4 HSb4 HSc4 HC4 HN4
  go_wp2_with fail
  have e6 := awr2 (s := 16) (d := 3) (xs := xc) (x := [xa]) (y := [xb]) (z := []) (by have := HLc.out; omega) (by have := HLc.out; omega) (by decide)
  refine (write_p HN5.out 1 2 (by decide) (by decide) lc HLc.out HSc5.out HBc.out (by omega) e6.1 e6.2).mono ?_
  rintro e w6 ⟨rfl, N6, C6⟩
  have HN6 : Hid (NetP w6 P3 n (twoL 16 3) (aq [xa] [xb] [xc])) := N6
  have HSa6 := Lib.hid (src_old HSa5.out HOa.out HP5.out C6)
  have HSb6 := Lib.hid (src_old HSb5.out HOb.out HP5.out C6)
  have HSc6 := Lib.hid (src_old HSc5.out HOc.out HP5.out C6)
  have HC6 := Lib.hid (HC5.out.trans' C6 (fun k hk h hk2 => h (HP5.out k hk2)))
  have HP6 := HP5
  clear e6 N6 C6 HP5 HSa5 HSb5 HSc5 HC5 HN5
  go_wp2_with fail
  refine (messages_p HN6.out 0 (ams0 (s := 16) (d := 3) (x := [xa]) (y := [xb]) (z := [xc]))).mono ?_
  rintro e w7 ⟨rfl, N7, C7⟩
  have HN7 := Lib.hid N7
  have HSa7 := Lib.hid (HSa6.out.chg C7 (fun _ _ h => h))
  have HSb7 := Lib.hid (HSb6.out.chg C7 (fun _ _ h => h))
  have HSc7 := Lib.hid (HSc6.out.chg C7 (fun _ _ h => h))
  have HC7 := Lib.hid (HC6.out.trans (C7.mono (fun _ _ h => h.elim)))
  have HP7 := HP6
  clear N7 C7 HSa6 HSb6 HSc6 HC6 HN6 HP6
  go_wp2_with fail
  refine (messages_p HN7.out 1 (ams1 (s := 16) (d := 3) (x := [xa]) (y := [xb]) (z := [xc]))).mono ?_
  rintro e w8 ⟨rfl, N8, C8⟩
  have HN8 := Lib.hid N8
  have HSa8 := Lib.hid (HSa7.out.chg C8 (fun _ _ h => h))
  have HSb8 := Lib.hid (HSb7.out.chg C8 (fun _ _ h => h))
  have HSc8 := Lib.hid (HSc7.out.chg C8 (fun _ _ h => h))
  have HC8 := Lib.hid (HC7.out.trans (C8.mono (fun _ _ h => h.elim)))
  have HP8 := HP7
  clear N8 C8 HSa7 HSb7 HSc7 HC7 HN7 HP7
  go_wp2_with fail
  have e9 := ard1 (s := 16) (d := 3) (x := [xa]) (m := xb) (r := []) (z := [xc]) (most := 16) (by have := HLb.out; omega)
  refine (read_p HN8.out 1 1 16 (by decide) (by decide) e9.1 e9.2.1 e9.2.2).mono ?_
  rintro e w9 ⟨a9, c9, Q9, rfl, O9, N9, C9, hPP, hPO⟩
  rw [HLb.out] at O9 hPO ⊢
  have HN9 : Hid (NetP w9 Q9 n (twoL 16 3) (aq [xa] [xb] [xc])) := N9
  have HSa9 := Lib.hid (src_old HSa8.out HOa.out HP8.out C9)
  have HSb9 := Lib.hid (src_old HSb8.out HOb.out HP8.out C9)
  have HSc9 := Lib.hid (src_old HSc8.out HOc.out HP8.out C9)
  have HC9 := Lib.hid (HC8.out.trans' C9 (fun k hk h hk2 => h (HP8.out k hk2)))
  have HP9 := Lib.hid (fun k hk => hPP k (HP8.out k hk))
  have HRp9 := Lib.hid O9
  have HBp9 := Lib.hid hPO
  clear e9 N9 C9 O9 hPP hPO HP8 HSa8 HSb8 HSc8 HC8 HN8
  go_wp2_with fail
  have e10 := ard2 (s := 16) (d := 3) (x := [xa]) (m := xc) (r := []) (y := [xb]) (most := 16) (by have := HLc.out; omega)
  refine (read_p HN9.out 0 2 16 (by decide) (by decide) e10.1 e10.2.1 e10.2.2).mono ?_
  rintro e w10 ⟨a10, c10, Q10, rfl, O10, N10, C10, hPP, hPO⟩
  rw [HLc.out] at O10 hPO ⊢
  have HN10 : Hid (NetP w10 Q10 n (twoL 16 3) (aq [xa] [xb] [])) := N10
  have HSa10 := Lib.hid (src_old HSa9.out HOa.out HP9.out C10)
  have HSb10 := Lib.hid (src_old HSb9.out HOb.out HP9.out C10)
  have HSc10 := Lib.hid (src_old HSc9.out HOc.out HP9.out C10)
  have HRp10 := Lib.hid (own_chg HRp9.out C10 (fun g hg h => h (HBp9.out g hg)))
  have HC10 := Lib.hid (HC9.out.trans' C10 (fun k hk h hk2 => h (HP9.out k hk2)))
  have HP10 := Lib.hid (fun k hk => hPP k (HP9.out k hk))
  have HBp10 := Lib.hid (fun k hk => hPP k (HBp9.out k hk))
  have HRq10 := Lib.hid O10
  have HBq10 := Lib.hid hPO
  clear e10 N10 C10 O10 hPP hPO HP9 HSa9 HSb9 HSc9 HRp9 HC9 HN9 HBp9
  go_wp2_with fail
  have e11 := ard0 (s := 16) (d := 3) (y := [xb]) (m := xa) (r := []) (z := []) (most := 16) (by have := HLa.out; omega)
  refine (read_p HN10.out 1 0 16 (by decide) (by decide) e11.1 e11.2.1 e11.2.2).mono ?_
  rintro e w11 ⟨a11, c11, Q11, rfl, O11, N11, C11, hPP, hPO⟩
  rw [HLa.out] at O11 hPO ⊢
  have HN11 : Hid (NetP w11 Q11 n (twoL 16 3) (aq [] [xb] [])) := N11
  have HSa11 := Lib.hid (src_old HSa10.out HOa.out HP10.out C11)
  have HSb11 := Lib.hid (src_old HSb10.out HOb.out HP10.out C11)
  have HSc11 := Lib.hid (src_old HSc10.out HOc.out HP10.out C11)
  have HRp11 := Lib.hid (own_chg HRp10.out C11 (fun g hg h => h (HBp10.out g hg)))
  have HRq11 := Lib.hid (own_chg HRq10.out C11 (fun g hg h => h (HBq10.out g hg)))
  have HC11 := Lib.hid (HC10.out.trans' C11 (fun k hk h hk2 => h (HP10.out k hk2)))
  have HP11 := Lib.hid (fun k hk => hPP k (HP10.out k hk))
  have HBp11 := Lib.hid (fun k hk => hPP k (HBp10.out k hk))
  have HBq11 := Lib.hid (fun k hk => hPP k (HBq10.out k hk))
  have HRr11 := Lib.hid O11
  have HBr11 := Lib.hid hPO
  clear e11 N11 C11 O11 hPP hPO HP10 HSa10 HSb10 HSc10 HRp10 HRq10 HC10 HN10 HBp10 HBq10
  go_wp2_with fail
  have e12 := ard2e (s := 16) (d := 3) (x := []) (y := [xb]) (most := 16)
  refine (read_p HN11.out 0 2 16 (by decide) (by decide) e12.1 e12.2.1 e12.2.2).mono ?_
  rintro e w12 ⟨a12, c12, Q12, rfl, O12, N12, C12, hPP, hPO⟩
  rw [List.length_nil] at O12 hPO ⊢
  have HN12 : Hid (NetP w12 Q12 n (twoL 16 3) (aq [] [xb] [])) := N12
  have HSa12 := Lib.hid (src_old HSa11.out HOa.out HP11.out C12)
  have HSb12 := Lib.hid (src_old HSb11.out HOb.out HP11.out C12)
  have HSc12 := Lib.hid (src_old HSc11.out HOc.out HP11.out C12)
  have HRp12 := Lib.hid (own_chg HRp11.out C12 (fun g hg h => h (HBp11.out g hg)))
  have HRq12 := Lib.hid (own_chg HRq11.out C12 (fun g hg h => h (HBq11.out g hg)))
  have HRr12 := Lib.hid (own_chg HRr11.out C12 (fun g hg h => h (HBr11.out g hg)))
  have HC12 := Lib.hid (HC11.out.trans' C12 (fun k hk h hk2 => h (HP11.out k hk2)))
  have HP12 := Lib.hid (fun k hk => hPP k (HP11.out k hk))
  have HBp12 := Lib.hid (fun k hk => hPP k (HBp11.out k hk))
  have HBq12 := Lib.hid (fun k hk => hPP k (HBq11.out k hk))
  have HBr12 := Lib.hid (fun k hk => hPP k (HBr11.out k hk))
  clear e12 N12 C12 O12 hPP hPO HP11 HSa11 HSb11 HSc11 HRp11 HRq11 HRr11 HC11 HN11 HBp11 HBq11 HBr11
  go_wp2_with fail
  have e13 := ard0e (s := 16) (d := 3) (y := [xb]) (z := []) (most := 16)
  refine (read_p HN12.out 1 0 16 (by decide) (by decide) e13.1 e13.2.1 e13.2.2).mono ?_
  rintro e w13 ⟨a13, c13, Q13, rfl, O13, N13, C13, hPP, hPO⟩
  rw [List.length_nil] at O13 hPO ⊢
  have HN13 : Hid (NetP w13 Q13 n (twoL 16 3) (aq [] [xb] [])) := N13
  have HSa13 := Lib.hid (src_old HSa12.out HOa.out HP12.out C13)
  have HSb13 := Lib.hid (src_old HSb12.out HOb.out HP12.out C13)
  have HSc13 := Lib.hid (src_old HSc12.out HOc.out HP12.out C13)
  have HRp13 := Lib.hid (own_chg HRp12.out C13 (fun g hg h => h (HBp12.out g hg)))
  have HRq13 := Lib.hid (own_chg HRq12.out C13 (fun g hg h => h (HBq12.out g hg)))
  have HRr13 := Lib.hid (own_chg HRr12.out C13 (fun g hg h => h (HBr12.out g hg)))
  have HC13 := Lib.hid (HC12.out.trans' C13 (fun k hk h hk2 => h (HP12.out k hk2)))
  have HP13 := Lib.hid (fun k hk => hPP k (HP12.out k hk))
  have HBp13 := Lib.hid (fun k hk => hPP k (HBp12.out k hk))
  have HBq13 := Lib.hid (fun k hk => hPP k (HBq12.out k hk))
  have HBr13 := Lib.hid (fun k hk => hPP k (HBr12.out k hk))
  clear e13 N13 C13 O13 hPP hPO HP12 HSa12 HSb12 HSc12 HRp12 HRq12 HRr12 HC12 HN12 HBp12 HBq12 HBr12
  go_wp2_with fail
  have e14 := ard1 (s := 16) (d := 3) (x := []) (m := xb) (r := []) (z := []) (most := 16) (by have := HLb.out; omega)
  refine (read_p HN13.out 1 1 16 (by decide) (by decide) e14.1 e14.2.1 e14.2.2).mono ?_
  rintro e w14 ⟨a14, c14, Q14, rfl, O14, N14, C14, hPP, hPO⟩
  rw [HLb.out] at O14 hPO ⊢
  have HN14 : Hid (NetP w14 Q14 n (twoL 16 3) (aq [] [xb] [])) := N14
  have HSa14 := Lib.hid (src_old HSa13.out HOa.out HP13.out C14)
  have HSb14 := Lib.hid (src_old HSb13.out HOb.out HP13.out C14)
  have HSc14 := Lib.hid (src_old HSc13.out HOc.out HP13.out C14)
  have HRp14 := Lib.hid (own_chg HRp13.out C14 (fun g hg h => h (HBp13.out g hg)))
  have HRq14 := Lib.hid (own_chg HRq13.out C14 (fun g hg h => h (HBq13.out g hg)))
  have HRr14 := Lib.hid (own_chg HRr13.out C14 (fun g hg h => h (HBr13.out g hg)))
  have HC14 := Lib.hid (HC13.out.trans' C14 (fun k hk h hk2 => h (HP13.out k hk2)))
  have HP14 := Lib.hid (fun k hk => hPP k (HP13.out k hk))
  have HBp14 := Lib.hid (fun k hk => hPP k (HBp13.out k hk))
  have HBq14 := Lib.hid (fun k hk => hPP k (HBq13.out k hk))
  have HBr14 := Lib.hid (fun k hk => hPP k (HBr13.out k hk))
  have HRs14 := Lib.hid O14
  have HBs14 := Lib.hid hPO
  clear e14 N14 C14 O14 hPP hPO HP13 HSa13 HSb13 HSc13 HRp13 HRq13 HRr13 HC13 HN13 HBp13 HBq13 HBr13
  have va := conv_src _ HSa14.out
  have vb := conv_src _ HSb14.out
  have vc := conv_src _ HSc14.out
  have vp := conv_src _ (own_src HRp14.out)
  have vq := conv_src _ (own_src HRq14.out)
  have vr := conv_src _ (own_src HRr14.out)
  have vs := conv_src _ (own_src HRs14.out)
  go_wp2_with fail
  go_ret
  exact ⟨rfl, HC14.out.below (Nat.le_refl _) (fun k hk h => h hk)⟩

set_option maxRecDepth 100000 in
set_option maxHeartbeats 4000000 in
theorem apart_out {aa ab ac : Option Addr} {la lb lc ca cb cc : Nat} (W : World) (h : ¬ (0 < la ∧ la ≤ 16 ∧ 0 < lb ∧ lb ≤ 16 ∧ 0 < lc ∧ lc ≤ 16)) (ma : la ≤ maxLen) (mb : lb ≤ maxLen) (mc : lc ≤ maxLen) :
    Calls Try.prog 3 #[.slice aa la ca, .slice ab lb cb, .slice ac lc cc] W fun e w' => e = .returned (.bool true) ∧ Below W.heap.size W w' := by
  have hcase : (decide ((16 : Int) < (la : Int)) = true) ∨ (decide ((16 : Int) < (la : Int)) = false ∧ decide ((16 : Int) < (lb : Int)) = true) ∨ (decide ((16 : Int) < (la : Int)) = false ∧ decide ((16 : Int) < (lb : Int)) = false ∧ decide ((16 : Int) < (lc : Int)) = true) ∨
      (decide ((16 : Int) < (la : Int)) = false ∧ decide ((16 : Int) < (lb : Int)) = false ∧ decide ((16 : Int) < (lc : Int)) = false ∧ ∃ p r : Int, wrap64 ((la : Int) * lb) = p ∧ wrap64 (p * lc) = r ∧ (r == 0) = true) := by
    by_cases h1 : 16 < la
    · exact .inl (decide_eq_true (by omega))
    · refine .inr ?_
      have e1 : decide ((16 : Int) < (la : Int)) = false := decide_eq_false (by omega)
      by_cases h2 : 16 < lb
      · exact .inl ⟨e1, decide_eq_true (by omega)⟩
      · refine .inr ?_
        have e2 : decide ((16 : Int) < (lb : Int)) = false := decide_eq_false (by omega)
        by_cases h3 : 16 < lc
        · exact .inl ⟨e1, e2, decide_eq_true (by omega)⟩
        · obtain ⟨p, r, hp, hr, h0⟩ := mul_zero3 la lb lc (by omega) (by omega) (by omega)
          exact .inr ⟨e1, e2, decide_eq_false (by omega), p, r, hp, hr, by rw [beq_iff_eq]; exact h0.2 (by omega)⟩
  clear h
  rcases hcase with e1 | ⟨e1, e2⟩ | ⟨e1, e2, e3⟩ | ⟨e1, e2, e3, p, r, hp, hr, hz⟩
  all_goals
    go_enter Try.func3, Try.ntmps3
    go_wp2_with fail
    refine (alive18 _).mono ?_
    rintro e w1 ⟨rfl, C1⟩
    go_wp2_with fail
    refine (two_any 16 3 _).mono ?_
    rintro e w2 ⟨b, z, q, cap, rfl, A2, C2⟩
    have HN := new_p A2 (two_chk (by decide) (by decide)) rfl rfl rfl rfl rfl rfl
    clear A2
    go_wp2_with fail
    refine HN.mono ?_
    clear HN
    rintro e w3 ⟨n, rfl, N3, C3⟩
    have C03 := (C1.trans C2).trans C3
    clear N3 C1 C2 C3
    go_wp2_with (go_at_call 12; refine (num18_any _ _).mono ?_; rintro e w' ⟨rfl, rfl⟩)
    go_ret
    exact ⟨rfl, C03.below (Nat.le_refl _) (fun _ _ h => h)⟩
end Go.Proofs.Ytiedfglkjkaefaa

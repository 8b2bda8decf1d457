/- PortsShort: the walk (printed by gen_portsshort.py). -/
import Derived.Test.YtiedfglkjkaefaaPoApart
namespace Go.Proofs.Ytiedfglkjkaefaa
open Go.RowKit

set_option maxRecDepth 100000 in
set_option maxHeartbeats 4000000 in
theorem short_false_long {aa : Option Addr} {la ca : Nat} {xa : List Int} (mx : Int) (W : World) (A : Arg W aa la ca xa) (h : 0 < la ∧ la ≤ 64) (hm : mx < (la : Int)) :
    Calls Try.prog 5 #[.slice aa la ca, .int .i64 mx, .bool false] W fun e w' => e = .returned (.bool true) ∧ Below W.heap.size W w' := by
  obtain ⟨h1, h2⟩ := h
  have b1 : decide ((64 : Int) < (la : Int)) = false := decide_eq_false (by omega)
  have b2 : decide ((la : Int) < 1) = false := decide_eq_false (by omega)
  have b3 : decide (mx < (la : Int)) = true := decide_eq_true hm
  have HM := Lib.hid hm
  have HSa := Lib.hid A.src
  have HOa := Lib.hid A.old
  have HLa := Lib.hid A.len
  have HBa := Lib.hid A.byt
  clear A hm
  go_enter Try.func5, Try.ntmps5
  go_wp2_with fail
  refine (alive18 _).mono ?_
  rintro e w1 ⟨rfl, C1⟩
  go_wp2_with fail
  refine (two_any 64 2 _).mono ?_
  rintro e w2 ⟨b, z, q, cap, rfl, A2, C2⟩
  have HN := new_p A2 (two_chk (by decide) (by decide)) rfl rfl rfl rfl rfl rfl
  clear A2
  go_wp2_with fail
  refine HN.mono ?_
  clear HN
  rintro e w3 ⟨n, rfl, N3, C3⟩
  have C03 := (C1.trans C2).trans C3
  have hs2 := (C1.trans C2).size
  rw [aq_none] at N3
  have HN3 : Hid (NetP w3 (fun k => k < W.heap.size) n (twoL 64 2) (aq [] [] [])) := N3.mono (fun k hk => Nat.lt_of_lt_of_le hk hs2)
  have HC3 : Hid (Chg W w3 (fun k => ¬ k < W.heap.size)) := C03.mono (fun _ _ h => h.elim)
  obtain ⟨P3, hP3⟩ : ∃ P : Nat → Prop, (fun k => k < W.heap.size) = P := ⟨_, rfl⟩
  have HP3 : Hid (∀ k, k < W.heap.size → P3 k) := by rw [← hP3]; exact fun _ h => h
  rw [hP3] at HN3
  have HSa3 := Lib.hid (HSa.out.chg C03 (fun _ _ h => h))
  clear N3 C1 C2 C3 C03 hs2 hP3
  go_wp2_with (go_at_call 12; refine (num18_any _ _).mono ?_; rintro e w' ⟨rfl, rfl⟩)
  have e4 := awr0 (s := 64) (d := 2) (xs := xa) (x := []) (y := []) (z := []) (by have := HLa.out; omega) (by have := HLa.out; omega) (by decide)
  refine (write_p HN3.out 0 0 (by decide) (by decide) la HLa.out HSa3.out HBa.out (by omega) e4.1 e4.2).mono ?_
  rintro e w4 ⟨rfl, N4, C4⟩
  have HN4 : Hid (NetP w4 P3 n (twoL 64 2) (aq [xa] [] [])) := N4
  have HSa4 := Lib.hid (src_old HSa3.out HOa.out HP3.out C4)
  have HC4 := Lib.hid (HC3.out.trans' C4 (fun k hk h hk2 => h (HP3.out k hk2)))
  have HP4 := HP3
  clear e4 N4 C4 HP3 HSa3 HC3 HN3
  go_wp2_with fail
  have e5 := ard0l (s := 64) (d := 2) (m := xa) (r := []) (y := []) (z := []) (most := mx) (by have := HLa.out; have := HM.out; omega)
  refine (read_p HN4.out 1 0 mx (by decide) (by decide) e5.1 e5.2.1 e5.2.2).mono ?_
  rintro e w5 ⟨a5, c5, Q5, rfl, O5, N5, C5, hPP, hPO⟩
  rw [List.length_nil] at O5 hPO ⊢
  have HN5 : Hid (NetP w5 Q5 n (twoL 64 2) (aq [xa] [] [])) := N5
  have HSa5 := Lib.hid (src_old HSa4.out HOa.out HP4.out C5)
  have HC5 := Lib.hid (HC4.out.trans' C5 (fun k hk h hk2 => h (HP4.out k hk2)))
  have HP5 := Lib.hid (fun k hk => hPP k (HP4.out k hk))
  clear e5 N5 C5 O5 hPP hPO HP4 HSa4 HC4 HN4
  go_wp2_with fail
  have e6 := ard0 (s := 64) (d := 2) (m := xa) (r := []) (y := []) (z := []) (most := (la : Int)) (by have := HLa.out; omega)
  refine (read_p HN5.out 1 0 (la : Int) (by decide) (by decide) e6.1 e6.2.1 e6.2.2).mono ?_
  rintro e w6 ⟨a6, c6, Q6, rfl, O6, N6, C6, hPP, hPO⟩
  rw [HLa.out] at O6 hPO ⊢
  have HN6 : Hid (NetP w6 Q6 n (twoL 64 2) (aq [] [] [])) := N6
  have HSa6 := Lib.hid (src_old HSa5.out HOa.out HP5.out C6)
  have HC6 := Lib.hid (HC5.out.trans' C6 (fun k hk h hk2 => h (HP5.out k hk2)))
  have HP6 := Lib.hid (fun k hk => hPP k (HP5.out k hk))
  have HRq6 := Lib.hid O6
  have HBq6 := Lib.hid hPO
  clear e6 N6 C6 O6 hPP hPO HP5 HSa5 HC5 HN5
  have va := conv_src _ HSa6.out
  have vq := conv_src _ (own_src HRq6.out)
  go_wp2_with fail
  go_ret
  exact ⟨rfl, HC6.out.below (Nat.le_refl _) (fun k hk h => h hk)⟩

set_option maxRecDepth 100000 in
set_option maxHeartbeats 4000000 in
theorem short_false_fits {aa : Option Addr} {la ca : Nat} {xa : List Int} (mx : Int) (W : World) (A : Arg W aa la ca xa) (h : 0 < la ∧ la ≤ 64) (hm : (la : Int) ≤ mx) :
    Calls Try.prog 5 #[.slice aa la ca, .int .i64 mx, .bool false] W fun e w' => e = .returned (.bool true) ∧ Below W.heap.size W w' := by
  obtain ⟨h1, h2⟩ := h
  have b1 : decide ((64 : Int) < (la : Int)) = false := decide_eq_false (by omega)
  have b2 : decide ((la : Int) < 1) = false := decide_eq_false (by omega)
  have b3 : decide (mx < (la : Int)) = false := decide_eq_false (by omega)
  have HM := Lib.hid hm
  have HSa := Lib.hid A.src
  have HOa := Lib.hid A.old
  have HLa := Lib.hid A.len
  have HBa := Lib.hid A.byt
  clear A hm
  go_enter Try.func5, Try.ntmps5
  go_wp2_with fail
  refine (alive18 _).mono ?_
  rintro e w1 ⟨rfl, C1⟩
  go_wp2_with fail
  refine (two_any 64 2 _).mono ?_
  rintro e w2 ⟨b, z, q, cap, rfl, A2, C2⟩
  have HN := new_p A2 (two_chk (by decide) (by decide)) rfl rfl rfl rfl rfl rfl
  clear A2
  go_wp2_with fail
  refine HN.mono ?_
  clear HN
  rintro e w3 ⟨n, rfl, N3, C3⟩
  have C03 := (C1.trans C2).trans C3
  have hs2 := (C1.trans C2).size
  rw [aq_none] at N3
  have HN3 : Hid (NetP w3 (fun k => k < W.heap.size) n (twoL 64 2) (aq [] [] [])) := N3.mono (fun k hk => Nat.lt_of_lt_of_le hk hs2)
  have HC3 : Hid (Chg W w3 (fun k => ¬ k < W.heap.size)) := C03.mono (fun _ _ h => h.elim)
  obtain ⟨P3, hP3⟩ : ∃ P : Nat → Prop, (fun k => k < W.heap.size) = P := ⟨_, rfl⟩
  have HP3 : Hid (∀ k, k < W.heap.size → P3 k) := by rw [← hP3]; exact fun _ h => h
  rw [hP3] at HN3
  have HSa3 := Lib.hid (HSa.out.chg C03 (fun _ _ h => h))
  clear N3 C1 C2 C3 C03 hs2 hP3
  go_wp2_with (go_at_call 12; refine (num18_any _ _).mono ?_; rintro e w' ⟨rfl, rfl⟩)
  have e4 := awr0 (s := 64) (d := 2) (xs := xa) (x := []) (y := []) (z := []) (by have := HLa.out; omega) (by have := HLa.out; omega) (by decide)
  refine (write_p HN3.out 0 0 (by decide) (by decide) la HLa.out HSa3.out HBa.out (by omega) e4.1 e4.2).mono ?_
  rintro e w4 ⟨rfl, N4, C4⟩
  have HN4 : Hid (NetP w4 P3 n (twoL 64 2) (aq [xa] [] [])) := N4
  have HSa4 := Lib.hid (src_old HSa3.out HOa.out HP3.out C4)
  have HC4 := Lib.hid (HC3.out.trans' C4 (fun k hk h hk2 => h (HP3.out k hk2)))
  have HP4 := HP3
  clear e4 N4 C4 HP3 HSa3 HC3 HN3
  go_wp2_with fail
  have e5 := ard0 (s := 64) (d := 2) (m := xa) (r := []) (y := []) (z := []) (most := mx) (by have := HLa.out; have := HM.out; omega)
  refine (read_p HN4.out 1 0 mx (by decide) (by decide) e5.1 e5.2.1 e5.2.2).mono ?_
  rintro e w5 ⟨a5, c5, Q5, rfl, O5, N5, C5, hPP, hPO⟩
  rw [HLa.out] at O5 hPO ⊢
  have HN5 : Hid (NetP w5 Q5 n (twoL 64 2) (aq [] [] [])) := N5
  have HSa5 := Lib.hid (src_old HSa4.out HOa.out HP4.out C5)
  have HC5 := Lib.hid (HC4.out.trans' C5 (fun k hk h hk2 => h (HP4.out k hk2)))
  have HP5 := Lib.hid (fun k hk => hPP k (HP4.out k hk))
  have HRq5 := Lib.hid O5
  have HBq5 := Lib.hid hPO
  clear e5 N5 C5 O5 hPP hPO HP4 HSa4 HC4 HN4
  have va := conv_src _ HSa5.out
  have vq := conv_src _ (own_src HRq5.out)
  go_wp2_with fail
  refine (status_p HN5.out 0 0 (by decide) (by decide) (ast0 (s := 64) (d := 2) (x := []) (y := []) (z := []))).mono ?_
  rintro e w6 ⟨rfl, N6, C6⟩
  have HN6 := Lib.hid N6
  have HSa6 := Lib.hid (HSa5.out.chg C6 (fun _ _ h => h))
  have HRq6 := Lib.hid (own_chg HRq5.out C6 (fun _ _ h => h))
  have HBq6 := HBq5
  have HC6 := Lib.hid (HC5.out.trans (C6.mono (fun _ _ h => h.elim)))
  have HP6 := HP5
  clear N6 C6 HSa5 HRq5 HBq5 HC5 HN5 HP5
  go_wp2_with fail
  go_ret
  exact ⟨rfl, HC6.out.below (Nat.le_refl _) (fun k hk h => h hk)⟩

set_option maxRecDepth 100000 in
set_option maxHeartbeats 4000000 in
theorem short_true_long {aa : Option Addr} {la ca : Nat} {xa : List Int} (mx : Int) (W : World) (A : Arg W aa la ca xa) (h : 0 < la ∧ la ≤ 64) (hm : mx < (la : Int)) :
    Calls Try.prog 5 #[.slice aa la ca, .int .i64 mx, .bool true] W fun e w' => e = .returned (.bool true) ∧ Below W.heap.size W w' := by
  obtain ⟨h1, h2⟩ := h
  have b1 : decide ((64 : Int) < (la : Int)) = false := decide_eq_false (by omega)
  have b2 : decide ((la : Int) < 1) = false := decide_eq_false (by omega)
  have b3 : decide (mx < (la : Int)) = true := decide_eq_true hm
  have HM := Lib.hid hm
  have HSa := Lib.hid A.src
  have HOa := Lib.hid A.old
  have HLa := Lib.hid A.len
  have HBa := Lib.hid A.byt
  clear A hm
  go_enter Try.func5, Try.ntmps5
  go_wp2_with fail
  refine (alive18 _).mono ?_
  rintro e w1 ⟨rfl, C1⟩
  go_wp2_with fail
  refine (two_any 64 2 _).mono ?_
  rintro e w2 ⟨b, z, q, cap, rfl, A2, C2⟩
  have HN := new_p A2 (two_chk (by decide) (by decide)) rfl rfl rfl rfl rfl rfl
  clear A2
  go_wp2_with fail
  refine HN.mono ?_
  clear HN
  rintro e w3 ⟨n, rfl, N3, C3⟩
  have C03 := (C1.trans C2).trans C3
  have hs2 := (C1.trans C2).size
  rw [aq_none] at N3
  have HN3 : Hid (NetP w3 (fun k => k < W.heap.size) n (twoL 64 2) (aq [] [] [])) := N3.mono (fun k hk => Nat.lt_of_lt_of_le hk hs2)
  have HC3 : Hid (Chg W w3 (fun k => ¬ k < W.heap.size)) := C03.mono (fun _ _ h => h.elim)
  obtain ⟨P3, hP3⟩ : ∃ P : Nat → Prop, (fun k => k < W.heap.size) = P := ⟨_, rfl⟩
  have HP3 : Hid (∀ k, k < W.heap.size → P3 k) := by rw [← hP3]; exact fun _ h => h
  rw [hP3] at HN3
  have HSa3 := Lib.hid (HSa.out.chg C03 (fun _ _ h => h))
  clear N3 C1 C2 C3 C03 hs2 hP3
  go_wp2_with (go_at_call 12; refine (num18_any _ _).mono ?_; rintro e w' ⟨rfl, rfl⟩)
  have e4 := awr1 (s := 64) (d := 2) (xs := xa) (x := []) (y := []) (z := []) (by have := HLa.out; omega) (by have := HLa.out; omega)
  refine (write_p HN3.out 0 1 (by decide) (by decide) la HLa.out HSa3.out HBa.out (by omega) e4.1 e4.2).mono ?_
  rintro e w4 ⟨rfl, N4, C4⟩
  have HN4 : Hid (NetP w4 P3 n (twoL 64 2) (aq [] [xa] [])) := N4
  have HSa4 := Lib.hid (src_old HSa3.out HOa.out HP3.out C4)
  have HC4 := Lib.hid (HC3.out.trans' C4 (fun k hk h hk2 => h (HP3.out k hk2)))
  have HP4 := HP3
  clear e4 N4 C4 HP3 HSa3 HC3 HN3
  go_wp2_with fail
  have e5 := ard1l (s := 64) (d := 2) (m := xa) (r := []) (x := []) (z := []) (most := mx) (by have := HLa.out; have := HM.out; omega)
  refine (read_p HN4.out 1 1 mx (by decide) (by decide) e5.1 e5.2.1 e5.2.2).mono ?_
  rintro e w5 ⟨a5, c5, Q5, rfl, O5, N5, C5, hPP, hPO⟩
  rw [List.length_nil] at O5 hPO ⊢
  have HN5 : Hid (NetP w5 Q5 n (twoL 64 2) (aq [] [xa] [])) := N5
  have HSa5 := Lib.hid (src_old HSa4.out HOa.out HP4.out C5)
  have HC5 := Lib.hid (HC4.out.trans' C5 (fun k hk h hk2 => h (HP4.out k hk2)))
  have HP5 := Lib.hid (fun k hk => hPP k (HP4.out k hk))
  clear e5 N5 C5 O5 hPP hPO HP4 HSa4 HC4 HN4
  go_wp2_with fail
  have e6 := ard1 (s := 64) (d := 2) (m := xa) (r := []) (x := []) (z := []) (most := (la : Int)) (by have := HLa.out; omega)
  refine (read_p HN5.out 1 1 (la : Int) (by decide) (by decide) e6.1 e6.2.1 e6.2.2).mono ?_
  rintro e w6 ⟨a6, c6, Q6, rfl, O6, N6, C6, hPP, hPO⟩
  rw [HLa.out] at O6 hPO ⊢
  have HN6 : Hid (NetP w6 Q6 n (twoL 64 2) (aq [] [xa] [])) := N6
  have HSa6 := Lib.hid (src_old HSa5.out HOa.out HP5.out C6)
  have HC6 := Lib.hid (HC5.out.trans' C6 (fun k hk h hk2 => h (HP5.out k hk2)))
  have HP6 := Lib.hid (fun k hk => hPP k (HP5.out k hk))
  have HRq6 := Lib.hid O6
  have HBq6 := Lib.hid hPO
  clear e6 N6 C6 O6 hPP hPO HP5 HSa5 HC5 HN5
  have va := conv_src _ HSa6.out
  have vq := conv_src _ (own_src HRq6.out)
  go_wp2_with fail
  go_ret
  exact ⟨rfl, HC6.out.below (Nat.le_refl _) (fun k hk h => h hk)⟩

set_option maxRecDepth 100000 in
set_option maxHeartbeats 4000000 in
theorem short_true_fits {aa : Option Addr} {la ca : Nat} {xa : List Int} (mx : Int) (W : World) (A : Arg W aa la ca xa) (h : 0 < la ∧ la ≤ 64) (hm : (la : Int) ≤ mx) :
    Calls Try.prog 5 #[.slice aa la ca, .int .i64 mx, .bool true] W fun e w' => e = .returned (.bool true) ∧ Below W.heap.size W w' := by
  obtain ⟨h1, h2⟩ := h
  have b1 : decide ((64 : Int) < (la : Int)) = false := decide_eq_false (by omega)
  have b2 : decide ((la : Int) < 1) = false := decide_eq_false (by omega)
  have b3 : decide (mx < (la : Int)) = false := decide_eq_false (by omega)
  have HM := Lib.hid hm
  have HSa := Lib.hid A.src
  have HOa := Lib.hid A.old
  have HLa := Lib.hid A.len
  have HBa := Lib.hid A.byt
  clear A hm
  go_enter Try.func5, Try.ntmps5
  go_wp2_with fail
  refine (alive18 _).mono ?_
  rintro e w1 ⟨rfl, C1⟩
  go_wp2_with fail
  refine (two_any 64 2 _).mono ?_
  rintro e w2 ⟨b, z, q, cap, rfl, A2, C2⟩
  have HN := new_p A2 (two_chk (by decide) (by decide)) rfl rfl rfl rfl rfl rfl
  clear A2
  go_wp2_with fail
  refine HN.mono ?_
  clear HN
  rintro e w3 ⟨n, rfl, N3, C3⟩
  have C03 := (C1.trans C2).trans C3
  have hs2 := (C1.trans C2).size
  rw [aq_none] at N3
  have HN3 : Hid (NetP w3 (fun k => k < W.heap.size) n (twoL 64 2) (aq [] [] [])) := N3.mono (fun k hk => Nat.lt_of_lt_of_le hk hs2)
  have HC3 : Hid (Chg W w3 (fun k => ¬ k < W.heap.size)) := C03.mono (fun _ _ h => h.elim)
  obtain ⟨P3, hP3⟩ : ∃ P : Nat → Prop, (fun k => k < W.heap.size) = P := ⟨_, rfl⟩
  have HP3 : Hid (∀ k, k < W.heap.size → P3 k) := by rw [← hP3]; exact fun _ h => h
  rw [hP3] at HN3
  have HSa3 := Lib.hid (HSa.out.chg C03 (fun _ _ h => h))
  clear N3 C1 C2 C3 C03 hs2 hP3
  go_wp2_with (go_at_call 12; refine (num18_any _ _).mono ?_; rintro e w' ⟨rfl, rfl⟩)
  have e4 := awr1 (s := 64) (d := 2) (xs := xa) (x := []) (y := []) (z := []) (by have := HLa.out; omega) (by have := HLa.out; omega)
  refine (write_p HN3.out 0 1 (by decide) (by decide) la HLa.out HSa3.out HBa.out (by omega) e4.1 e4.2).mono ?_
  rintro e w4 ⟨rfl, N4, C4⟩
  have HN4 : Hid (NetP w4 P3 n (twoL 64 2) (aq [] [xa] [])) := N4
  have HSa4 := Lib.hid (src_old HSa3.out HOa.out HP3.out C4)
  have HC4 := Lib.hid (HC3.out.trans' C4 (fun k hk h hk2 => h (HP3.out k hk2)))
  have HP4 := HP3
  clear e4 N4 C4 HP3 HSa3 HC3 HN3
  go_wp2_with fail
  have e5 := ard1 (s := 64) (d := 2) (m := xa) (r := []) (x := []) (z := []) (most := mx) (by have := HLa.out; have := HM.out; omega)
  refine (read_p HN4.out 1 1 mx (by decide) (by decide) e5.1 e5.2.1 e5.2.2).mono ?_
  rintro e w5 ⟨a5, c5, Q5, rfl, O5, N5, C5, hPP, hPO⟩
  rw [HLa.out] at O5 hPO ⊢
  have HN5 : Hid (NetP w5 Q5 n (twoL 64 2) (aq [] [xa] [])) := N5
  have HSa5 := Lib.hid (src_old HSa4.out HOa.out HP4.out C5)
  have HC5 := Lib.hid (HC4.out.trans' C5 (fun k hk h hk2 => h (HP4.out k hk2)))
  have HP5 := Lib.hid (fun k hk => hPP k (HP4.out k hk))
  have HRq5 := Lib.hid O5
  have HBq5 := Lib.hid hPO
  clear e5 N5 C5 O5 hPP hPO HP4 HSa4 HC4 HN4
  have va := conv_src _ HSa5.out
  have vq := conv_src _ (own_src HRq5.out)
  go_wp2_with fail
  refine (status_p HN5.out 0 1 (by decide) (by decide) (ast1 (s := 64) (d := 2) (x := []) (y := [xa]) (z := []))).mono ?_
  rintro e w6 ⟨rfl, N6, C6⟩
  have HN6 := Lib.hid N6
  have HSa6 := Lib.hid (HSa5.out.chg C6 (fun _ _ h => h))
  have HRq6 := Lib.hid (own_chg HRq5.out C6 (fun _ _ h => h))
  have HBq6 := HBq5
  have HC6 := Lib.hid (HC5.out.trans (C6.mono (fun _ _ h => h.elim)))
  have HP6 := HP5
  clear N6 C6 HSa5 HRq5 HBq5 HC5 HN5 HP5
  go_wp2_with fail
  go_ret
  exact ⟨rfl, HC6.out.below (Nat.le_refl _) (fun k hk h => h hk)⟩

set_option maxRecDepth 100000 in
set_option maxHeartbeats 4000000 in
theorem short_out {aa : Option Addr} {la ca : Nat} (mx : Int) (k : Bool) (W : World) (h : ¬ (0 < la ∧ la ≤ 64)) :
    Calls Try.prog 5 #[.slice aa la ca, .int .i64 mx, .bool k] W fun e w' => e = .returned (.bool true) ∧ Below W.heap.size W w' := by
  have hcase : (decide ((la : Int) < 1) = true) ∨ (decide ((la : Int) < 1) = false ∧ decide ((64 : Int) < (la : Int)) = true) := by
    by_cases h1 : la < 1
    · exact .inl (decide_eq_true (by omega))
    · exact .inr ⟨decide_eq_false (by omega), decide_eq_true (by omega)⟩
  clear h
  rcases hcase with e1 | ⟨e1, e2⟩
  all_goals
    go_enter Try.func5, Try.ntmps5
    go_wp2_with fail
    refine (alive18 _).mono ?_
    rintro e w1 ⟨rfl, C1⟩
    go_wp2_with fail
    refine (two_any 64 2 _).mono ?_
    rintro e w2 ⟨b, z, q, cap, rfl, A2, C2⟩
    have HN := new_p A2 (two_chk (by decide) (by decide)) rfl rfl rfl rfl rfl rfl
    clear A2
    go_wp2_with fail
    refine HN.mono ?_
    clear HN
    rintro e w3 ⟨n, rfl, N3, C3⟩
    have C03 := (C1.trans C2).trans C3
    clear N3 C1 C2 C3
    go_wp2_with (go_at_call 12; refine (num18_any _ _).mono ?_; rintro e w' ⟨rfl, rfl⟩)
    go_ret
    exact ⟨rfl, C03.below (Nat.le_refl _) (fun _ _ h => h)⟩
end Go.Proofs.Ytiedfglkjkaefaa

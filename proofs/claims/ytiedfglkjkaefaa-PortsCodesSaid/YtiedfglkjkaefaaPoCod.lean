/- PortsCodes: the walk (printed by gen_portscodes.py). -/
import Derived.Test.YtiedfglkjkaefaaPoCod0
import Derived.Deep.RegionHeld3
namespace Go.Proofs.Ytiedfglkjkaefaa
open Go.RowKit

theorem cc1 (x : Int) (w : World) : (convert 22 22 (.slice (some ⟨w.heap.size, 0, none⟩) 1 1)).run Try.prog (w.alloc (.cells #[.int .u8 x] 5)) = .ok (.slice (some ⟨w.heap.size, 0, none⟩) 1 1) (w.alloc (.cells #[.int .u8 x] 5 (1, 2))) := conv_constN [x] 1 w
theorem cc2 (x y : Int) (w : World) : (convert 22 22 (.slice (some ⟨w.heap.size, 0, none⟩) 2 2)).run Try.prog (w.alloc (.cells #[.int .u8 x, .int .u8 y] 5)) = .ok (.slice (some ⟨w.heap.size, 0, none⟩) 2 2) (w.alloc (.cells #[.int .u8 x, .int .u8 y] 5 (2, 3))) := conv_constN [x, y] 2 w
theorem cc5 (x y z u v : Int) (w : World) : (convert 22 22 (.slice (some ⟨w.heap.size, 0, none⟩) 5 5)).run Try.prog (w.alloc (.cells #[.int .u8 x, .int .u8 y, .int .u8 z, .int .u8 u, .int .u8 v] 5)) = .ok (.slice (some ⟨w.heap.size, 0, none⟩) 5 5) (w.alloc (.cells #[.int .u8 x, .int .u8 y, .int .u8 z, .int .u8 u, .int .u8 v] 5 (5, 6))) := conv_constN [x, y, z, u, v] 5 w

theorem conv_rule {ao : Option Addr} {m c : Nat} {xs : List Int} : ∀ w : World, Src w ao m c (u8s xs) 1 → (convert 22 9 (.slice ao m c)).run Try.prog w = .ok (.string (strOfNums xs)) w := fun w h => conv_src w h
theorem codes_cell {w : World} {g k : Nat} (B : Box w g 3 (codes.map (Value.int .i64)).toArray) (hk : k < 23) : w.cell? ⟨g, k, none⟩ = some (.int .i64 (codes.getD k 0)) := by
  rw [B.cell]
  have hl : k < codes.length := hk
  simp [hl]
theorem get_zz {w : World} {a b : Nat} (M : Mem 92 w a b 4096 fz) : Calls Try.prog 19 #[.pointer (some ⟨a, 0, none⟩), .int .i64 100, .int .i64 2] w fun e w' => ∃ ao cap, Made w 5 1 2 (u8s zz) e w' ao cap := get_any M 100 2

set_option maxRecDepth 100000 in
set_option maxHeartbeats 16000000 in
theorem codes_in (k : Nat) (hk : k < 23) (W : World) : Calls Try.prog 7 #[.int .i64 k] W fun e w' => e = .returned (.bool true) ∧ Below W.heap.size W w' := by
  go_enter Try.func7, Try.ntmps7
  go_wp2_with fail
  refine (alive18 _).mono ?_
  rintro e w1 ⟨rfl, C1⟩
  go_wp2_with fail
  refine (two_any 4 1 _).mono ?_
  rintro e w2 ⟨bb, zb, qb, cap, rfl, A2, C2⟩
  have HN := new_p A2 (two_chk (by decide) (by decide)) rfl rfl rfl rfl rfl rfl
  clear A2
  go_wp2_with fail
  refine HN.mono ?_
  clear HN
  rintro e w3 ⟨n, rfl, N3, C3⟩
  have hs2 := (C1.trans C2).size
  have hs3 := C3.size
  rw [aq_none] at N3
  have HN3 : Hid (NetP w3 (fun k => k < W.heap.size) n (twoL 4 1) (aq [] [] [])) := N3.mono (fun k hk => Nat.lt_of_lt_of_le hk hs2)
  have HC3 := Lib.hid ((C1.trans C2).trans C3)
  clear N3 C1 C2 C3
  go_wp2_with (go_at_call 12; refine (num18_any _ _).mono ?_; rintro e w' ⟨rfl, rfl⟩)
  refine (new_at 1 4096 pgN_one _).mono ?_
  rintro e w4 ⟨a, b, M4⟩
  have hr4 := M4.ret
  subst hr4
  have HS4 : Hid (CodAt W n a b [] [] [] (fun _ => 0) w4) := ⟨⟨HN3.out.adopt M4.chg (fun _ h => h.elim) (fun k hk => by
    have h1 := M4.lea; have h2 := M4.leb; have h3 := M4.mem.lta; have h4 := M4.mem.ltb
    rcases hk with hk | rfl | rfl
    · exact .inl hk
    · exact .inr ⟨h1, h3⟩
    · exact .inr ⟨h2, h4⟩), M4.mem, .inr (.inl rfl), .inr (.inr rfl)⟩, (HC3.out.trans M4.chg).mono (fun _ _ h => h.elim), by have := M4.leb; omega⟩
  have k1 := cc1
  have k2 := cc2
  have k5 := cc5
  clear M4 hs2 hs3 HN3
  go_wp2_with fail
  have HK4 := Lib.hid (HS4.out.keep ((Chg.refl w4 _).alloc (.cells #[.int .u8 122, .int .u8 122] 5 (2, 3))))
  refine (cod_write HK4.out 1 2 (by decide) (by decide) [122, 122] rfl (src_const w4 [122, 122] 2 (2, 3) rfl) (byte_small (by decide)) (by decide) (z' := [zz]) cv0 cq0).mono ?_
  rintro e w5 ⟨rfl, S5⟩
  have HS5 := Lib.hid S5
  clear S5 HS4 HK4
  go_wp2_with fail
  have HK5 := Lib.hid (HS5.out.keep ((Chg.refl w5 _).alloc (.cells #[.int .u8 97] 5 (1, 2))))
  refine (cod_write HK5.out 0 9 (by decide) (by decide) [97] rfl (src_const w5 [97] 1 (1, 2) rfl) (byte_small (by decide)) (by decide) (z' := [zz]) cv1 cq1).mono ?_
  rintro e w6 ⟨rfl, S6⟩
  have HS6 := Lib.hid S6
  clear S6 HS5 HK5
  go_wp2_with fail
  have HK6 := Lib.hid (HS6.out.keep ((Chg.refl w6 _).alloc (.cells #[.int .u8 97] 5 (1, 2))))
  refine (cod_write HK6.out 0 (-1) (by decide) (by decide) [97] rfl (src_const w6 [97] 1 (1, 2) rfl) (byte_small (by decide)) (by decide) (z' := [zz]) cv2 cq2).mono ?_
  rintro e w7 ⟨rfl, S7⟩
  have HS7 := Lib.hid S7
  clear S7 HS6 HK6
  go_wp2_with fail
  have HK7 := Lib.hid (HS7.out.keep ((Chg.refl w7 _).alloc (.cells #[.int .u8 97] 5 (1, 2))))
  refine (cod_write HK7.out 1 0 (by decide) (by decide) [97] rfl (src_const w7 [97] 1 (1, 2) rfl) (byte_small (by decide)) (by decide) (z' := [zz]) cv3 cq3).mono ?_
  rintro e w8 ⟨rfl, S8⟩
  have HS8 := Lib.hid S8
  clear S8 HS7 HK7
  go_wp2_with fail
  have HK8 := HS8
  refine (cod_write HK8.out 0 0 (by decide) (by decide) [] rfl (src_nil w8) (byte_small (by decide)) (by decide) (z' := [zz]) cv4 cq4).mono ?_
  rintro e w9 ⟨rfl, S9⟩
  have HS9 := Lib.hid S9
  clear S9 HS8
  go_wp2_with fail
  have HK9 := Lib.hid (HS9.out.keep ((Chg.refl w9 _).alloc (.cells #[.int .u8 97, .int .u8 98, .int .u8 99, .int .u8 100, .int .u8 101] 5 (5, 6))))
  refine (cod_write HK9.out 0 0 (by decide) (by decide) [97, 98, 99, 100, 101] rfl (src_const w9 [97, 98, 99, 100, 101] 5 (5, 6) rfl) (byte_small (by decide)) (by decide) (z' := [zz]) cv5 cq5).mono ?_
  rintro e w10 ⟨rfl, S10⟩
  have HS10 := Lib.hid S10
  clear S10 HS9 HK9
  go_wp2_with fail
  have HK10 := Lib.hid (HS10.out.keep ((Chg.refl w10 _).alloc (.cells #[.int .u8 97] 5 (1, 2))))
  refine (cod_write HK10.out 7 0 (by decide) (by decide) [97] rfl (src_const w10 [97] 1 (1, 2) rfl) (byte_small (by decide)) (by decide) (z' := [zz]) cv6 cq6).mono ?_
  rintro e w11 ⟨rfl, S11⟩
  have HS11 := Lib.hid S11
  clear S11 HS10 HK10
  go_wp2_with fail
  refine (cod_status HS11.out 0 3 (by decide) (by decide) cv7).mono ?_
  rintro e w12 ⟨rfl, S12⟩
  have HS12 := Lib.hid S12
  clear S12 HS11
  go_wp2_with fail
  refine (cod_status HS12.out 0 2 (by decide) (by decide) cv8).mono ?_
  rintro e w13 ⟨rfl, S13⟩
  have HS13 := Lib.hid S13
  clear S13 HS12
  go_wp2_with fail
  refine (cod_messages HS13.out 0 cv9).mono ?_
  rintro e w14 ⟨rfl, S14⟩
  have HS14 := Lib.hid S14
  clear S14 HS13
  go_wp2_with fail
  refine (cod_messages HS14.out 9 cv10).mono ?_
  rintro e w15 ⟨rfl, S15⟩
  have HS15 := Lib.hid S15
  clear S15 HS14
  go_wp2_with fail
  refine (cod_call HS15.out 0 2 2 100 1 (by decide) (x' := []) (y' := []) (z' := [zz]) cv11 cq11 cf11).mono ?_
  rintro e w16 ⟨rfl, S16⟩
  have HS16 := Lib.hid S16
  clear S16 HS15
  go_wp2_with fail
  refine (cod_call HS16.out 0 2 2 4095 4 (by decide) (x' := []) (y' := []) (z' := [zz]) cv12 cq12 cf12).mono ?_
  rintro e w17 ⟨rfl, S17⟩
  have HS17 := Lib.hid S17
  clear S17 HS16
  go_wp2_with fail
  refine (cod_call HS17.out 0 2 2 100 4 (by decide) (x' := []) (y' := []) (z' := []) cv13 cq13 cf13).mono ?_
  rintro e w18 ⟨rfl, S18⟩
  have HS18 := Lib.hid S18
  clear S18 HS17
  go_wp2_with fail
  refine (cod_call HS18.out 0 2 2 100 4 (by decide) (x' := []) (y' := []) (z' := []) cv14 cq14 cf14).mono ?_
  rintro e w19 ⟨rfl, S19⟩
  have HS19 := Lib.hid S19
  clear S19 HS18
  go_wp2_with fail
  refine (cod_call HS19.out 0 2 0 100 4 (by decide) (x' := []) (y' := []) (z' := []) cv15 cq15 cf15).mono ?_
  rintro e w20 ⟨rfl, S20⟩
  have HS20 := Lib.hid S20
  clear S20 HS19
  go_wp2_with fail
  refine (cod_call HS20.out 0 1 0 4095 2 (by decide) (x' := []) (y' := []) (z' := []) cv16 cq16 cf16).mono ?_
  rintro e w21 ⟨rfl, S21⟩
  have HS21 := Lib.hid S21
  clear S21 HS20
  go_wp2_with fail
  refine (cod_call HS21.out 0 1 0 0 65 (by decide) (x' := []) (y' := []) (z' := []) cv17 cq17 cf17).mono ?_
  rintro e w22 ⟨rfl, S22⟩
  have HS22 := Lib.hid S22
  clear S22 HS21
  go_wp2_with fail
  refine (cod_call HS22.out 0 1 0 0 0 (by decide) (x' := []) (y' := []) (z' := []) cv18 cq18 cf18).mono ?_
  rintro e w23 ⟨rfl, S23⟩
  have HS23 := Lib.hid S23
  clear S23 HS22
  go_wp2_with fail
  refine (cod_call HS23.out 0 1 0 0 4 (by decide) (x' := [zero4]) (y' := []) (z' := []) cv19 cq19 cf19).mono ?_
  rintro e w24 ⟨rfl, S24⟩
  have HS24 := Lib.hid S24
  clear S24 HS23
  go_wp2_with fail
  refine (cod_call HS24.out 0 1 0 0 4 (by decide) (x' := [zero4]) (y' := []) (z' := []) cv20 cq20 cf20).mono ?_
  rintro e w25 ⟨rfl, S25⟩
  have HS25 := Lib.hid S25
  clear S25 HS24
  go_wp2_with fail
  refine (cod_call HS25.out 0 3 0 0 0 (by decide) (x' := [zero4]) (y' := []) (z' := []) cv21 cq21 cf21).mono ?_
  rintro e w26 ⟨rfl, S26⟩
  have HS26 := Lib.hid S26
  clear S26 HS25
  go_wp2_with fail
  refine (cod_call HS26.out 1 4 0 0 0 (by decide) (x' := [zero4]) (y' := []) (z' := []) cv22 cq22 cf22).mono ?_
  rintro e w27 ⟨rfl, S27⟩
  have HS27 := Lib.hid S27
  clear S27 HS26
  go_wp2_with fail
  refine (cod_call HS27.out 0 0 0 0 0 (by decide) (x' := [zero4]) (y' := []) (z' := []) cv23 cq23 cf23).mono ?_
  rintro e w28 ⟨rfl, S28⟩
  have HS28 := Lib.hid S28
  clear S28 HS27
  clear k1 k2 k5
  have hk0 : (0 : Int) ≤ (k : Int) := by omega
  have hk1 : (k : Int) < 23 := by omega
  go_upto_region 14 with fail
  have CK : Chg w28 ((w28.alloc (.cells #[.int .i64 4294967295, .int .i64 4294967295, .int .i64 4294967295, .int .i64 4294967294, .int .i64 4294967294, .int .i64 4294967295, .int .i64 4294967295, .int .i64 1, .int .i64 1, .int .i64 0, .int .i64 4294967294, .int .i64 4294967294, .int .i64 2, .int .i64 4294967293, .int .i64 4294967295, .int .i64 4294967294, .int .i64 4294967294, .int .i64 4294967294, .int .i64 0, .int .i64 4294967293, .int .i64 1, .int .i64 1, .int .i64 4294967292] 3)).alloc (.cells #[.int .i64 4294967295, .int .i64 4294967295, .int .i64 4294967295, .int .i64 4294967294, .int .i64 4294967294, .int .i64 4294967295, .int .i64 4294967295, .int .i64 1, .int .i64 1, .int .i64 0, .int .i64 4294967294, .int .i64 4294967294, .int .i64 2, .int .i64 4294967293, .int .i64 4294967295, .int .i64 4294967294, .int .i64 4294967294, .int .i64 4294967294, .int .i64 0, .int .i64 4294967293, .int .i64 1, .int .i64 1, .int .i64 4294967292] 3)) (fun _ => False) := ((Chg.refl _ _).alloc _).alloc _
  have BG : Box ((w28.alloc (.cells #[.int .i64 4294967295, .int .i64 4294967295, .int .i64 4294967295, .int .i64 4294967294, .int .i64 4294967294, .int .i64 4294967295, .int .i64 4294967295, .int .i64 1, .int .i64 1, .int .i64 0, .int .i64 4294967294, .int .i64 4294967294, .int .i64 2, .int .i64 4294967293, .int .i64 4294967295, .int .i64 4294967294, .int .i64 4294967294, .int .i64 4294967294, .int .i64 0, .int .i64 4294967293, .int .i64 1, .int .i64 1, .int .i64 4294967292] 3)).alloc (.cells #[.int .i64 4294967295, .int .i64 4294967295, .int .i64 4294967295, .int .i64 4294967294, .int .i64 4294967294, .int .i64 4294967295, .int .i64 4294967295, .int .i64 1, .int .i64 1, .int .i64 0, .int .i64 4294967294, .int .i64 4294967294, .int .i64 2, .int .i64 4294967293, .int .i64 4294967295, .int .i64 4294967294, .int .i64 4294967294, .int .i64 4294967294, .int .i64 0, .int .i64 4294967293, .int .i64 1, .int .i64 1, .int .i64 4294967292] 3)) w28.heap.size 3 (codes.map (Value.int .i64)).toArray := (Box.new w28 _ _).alloc _
  have BW : Box ((w28.alloc (.cells #[.int .i64 4294967295, .int .i64 4294967295, .int .i64 4294967295, .int .i64 4294967294, .int .i64 4294967294, .int .i64 4294967295, .int .i64 4294967295, .int .i64 1, .int .i64 1, .int .i64 0, .int .i64 4294967294, .int .i64 4294967294, .int .i64 2, .int .i64 4294967293, .int .i64 4294967295, .int .i64 4294967294, .int .i64 4294967294, .int .i64 4294967294, .int .i64 0, .int .i64 4294967293, .int .i64 1, .int .i64 1, .int .i64 4294967292] 3)).alloc (.cells #[.int .i64 4294967295, .int .i64 4294967295, .int .i64 4294967295, .int .i64 4294967294, .int .i64 4294967294, .int .i64 4294967295, .int .i64 4294967295, .int .i64 1, .int .i64 1, .int .i64 0, .int .i64 4294967294, .int .i64 4294967294, .int .i64 2, .int .i64 4294967293, .int .i64 4294967295, .int .i64 4294967294, .int .i64 4294967294, .int .i64 4294967294, .int .i64 0, .int .i64 4294967293, .int .i64 1, .int .i64 1, .int .i64 4294967292] 3)) (w28.heap.size + 1) 3 (codes.map (Value.int .i64)).toArray := by
    have := Box.new (w28.alloc (.cells #[.int .i64 4294967295, .int .i64 4294967295, .int .i64 4294967295, .int .i64 4294967294, .int .i64 4294967294, .int .i64 4294967295, .int .i64 4294967295, .int .i64 1, .int .i64 1, .int .i64 0, .int .i64 4294967294, .int .i64 4294967294, .int .i64 2, .int .i64 4294967293, .int .i64 4294967295, .int .i64 4294967294, .int .i64 4294967294, .int .i64 4294967294, .int .i64 0, .int .i64 4294967293, .int .i64 1, .int .i64 1, .int .i64 4294967292] 3)) 3 (codes.map (Value.int .i64)).toArray
    rw [show (w28.alloc (.cells #[.int .i64 4294967295, .int .i64 4294967295, .int .i64 4294967295, .int .i64 4294967294, .int .i64 4294967294, .int .i64 4294967295, .int .i64 4294967295, .int .i64 1, .int .i64 1, .int .i64 0, .int .i64 4294967294, .int .i64 4294967294, .int .i64 2, .int .i64 4294967293, .int .i64 4294967295, .int .i64 4294967294, .int .i64 4294967294, .int .i64 4294967294, .int .i64 0, .int .i64 4294967293, .int .i64 1, .int .i64 1, .int .i64 4294967292] 3)).heap.size = w28.heap.size + 1 from by simp] at this
    exact this
  have e1 := codes_cell BG hk
  have e2 := codes_cell BW hk
  have HSX := Lib.hid (HS28.out.keep CK)
  generalize (w28.alloc (.cells #[.int .i64 4294967295, .int .i64 4294967295, .int .i64 4294967295, .int .i64 4294967294, .int .i64 4294967294, .int .i64 4294967295, .int .i64 4294967295, .int .i64 1, .int .i64 1, .int .i64 0, .int .i64 4294967294, .int .i64 4294967294, .int .i64 2, .int .i64 4294967293, .int .i64 4294967295, .int .i64 4294967294, .int .i64 4294967294, .int .i64 4294967294, .int .i64 0, .int .i64 4294967293, .int .i64 1, .int .i64 1, .int .i64 4294967292] 3)).alloc (.cells #[.int .i64 4294967295, .int .i64 4294967295, .int .i64 4294967295, .int .i64 4294967294, .int .i64 4294967294, .int .i64 4294967295, .int .i64 4294967295, .int .i64 1, .int .i64 1, .int .i64 0, .int .i64 4294967294, .int .i64 4294967294, .int .i64 2, .int .i64 4294967293, .int .i64 4294967295, .int .i64 4294967294, .int .i64 4294967294, .int .i64 4294967294, .int .i64 0, .int .i64 4294967293, .int .i64 1, .int .i64 1, .int .i64 4294967292] 3) = wx at *
  obtain ⟨v, hv⟩ : ∃ v, codes.getD k 0 = v := ⟨_, rfl⟩
  rw [hv] at e1 e2
  clear hv BG BW CK HS28
  refine wp_region_noPanic ?_
  refine wp_region_held_drew (S := fun w' => w'.cell? ⟨w28.heap.size, k, none⟩ = some (.int .i64 v) ∧ w'.cell? ⟨w28.heap.size + 1, k, none⟩ = some (.int .i64 v)) (by kernel_rfl) (⟨e1, e2⟩) (fun hHeld => ?_)
  refine wpAnyH_take (i := 0) (oi := ?oig0) (v := ?vg0) ?hig0 (by kernel_rfl) (by kernel_rfl) (by kernel_rfl) (fun _ _ _ h => h) (Or.inl ⟨?hwg0, ?hyg0⟩) (by assumption) ?hrg0
  case hig0 => simp only [List.getElem?_toArray, List.getElem?_cons_succ, List.getElem?_cons_zero]; rfl
  case hwg0 => rfl
  case hyg0 => intro wq hSq; (try dsimp only at hSq); go_simp; (try with_reducible rfl)
  try simp only [Act.put, List.setIfInBounds_toArray, List.set_cons_zero, List.set_cons_succ]
  refine wpAnyH_take (i := 1) (oi := ?oig1) (v := ?vg1) ?hig1 (by kernel_rfl) (by kernel_rfl) (by kernel_rfl) (fun _ _ _ h => h) (Or.inl ⟨?hwg1, ?hyg1⟩) (by assumption) ?hrg1
  case hig1 => simp only [List.getElem?_toArray, List.getElem?_cons_succ, List.getElem?_cons_zero]; rfl
  case hwg1 => rfl
  case hyg1 => intro wq hSq; (try dsimp only at hSq); go_simp; (try with_reducible rfl)
  try simp only [Act.put, List.setIfInBounds_toArray, List.set_cons_zero, List.set_cons_succ]
  refine wpAnyH_take (i := 2) (oi := ?oig2) (v := ?vg2) ?hig2 (by kernel_rfl) (by kernel_rfl) (by kernel_rfl) (fun _ _ _ h => h) (Or.inl ⟨?hwg2, ?hyg2⟩) (by assumption) ?hrg2
  case hig2 => simp only [List.getElem?_toArray, List.getElem?_cons_succ, List.getElem?_cons_zero]; rfl
  case hwg2 => rfl
  case hyg2 => intro wq hSq; (try dsimp only at hSq); go_simp; (try with_reducible rfl)
  try simp only [Act.put, List.setIfInBounds_toArray, List.set_cons_zero, List.set_cons_succ]
  refine wpAnyH_take (i := 3) (oi := ?oig3) (v := ?vg3) ?hig3 (by kernel_rfl) (by kernel_rfl) (by kernel_rfl) (fun _ _ _ h => h) (Or.inl ⟨?hwg3, ?hyg3⟩) (by assumption) ?hrg3
  case hig3 => simp only [List.getElem?_toArray, List.getElem?_cons_succ, List.getElem?_cons_zero]; rfl
  case hwg3 => rfl
  case hyg3 => intro wq hSq; (try dsimp only at hSq); go_simp; (try with_reducible rfl)
  try simp only [Act.put, List.setIfInBounds_toArray, List.set_cons_zero, List.set_cons_succ]
  refine wpAnyH_take (i := 4) (oi := ?oig4) (v := ?vg4) ?hig4 (by kernel_rfl) (by kernel_rfl) (by kernel_rfl) (fun _ _ _ h => h) (Or.inl ⟨?hwg4, ?hyg4⟩) (by assumption) ?hrg4
  case hig4 => simp only [List.getElem?_toArray, List.getElem?_cons_succ, List.getElem?_cons_zero]; rfl
  case hwg4 => rfl
  case hyg4 => intro wq hSq; (try dsimp only at hSq); go_simp; (try with_reducible rfl)
  try simp only [Act.put, List.setIfInBounds_toArray, List.set_cons_zero, List.set_cons_succ]
  refine wpAnyH_take (i := 5) (oi := ?oig5) (v := ?vg5) ?hig5 (by kernel_rfl) (by kernel_rfl) (by kernel_rfl) (fun _ _ _ h => h) (Or.inl ⟨?hwg5, ?hyg5⟩) (by assumption) ?hrg5
  case hig5 => simp only [List.getElem?_toArray, List.getElem?_cons_succ, List.getElem?_cons_zero]; rfl
  case hwg5 => rfl
  case hyg5 => intro wq hSq; (try dsimp only at hSq); go_simp; (try with_reducible rfl)
  try simp only [Act.put, List.setIfInBounds_toArray, List.set_cons_zero, List.set_cons_succ]
  refine wpAnyH_take (i := 6) (oi := ?oig6) (v := ?vg6) ?hig6 (by kernel_rfl) (by kernel_rfl) (by kernel_rfl) (fun _ _ _ h => h) (Or.inl ⟨?hwg6, ?hyg6⟩) (by assumption) ?hrg6
  case hig6 => simp only [List.getElem?_toArray, List.getElem?_cons_succ, List.getElem?_cons_zero]; rfl
  case hwg6 => rfl
  case hyg6 => intro wq hSq; (try dsimp only at hSq); go_simp; (try with_reducible rfl)
  try simp only [Act.put, List.setIfInBounds_toArray, List.set_cons_zero, List.set_cons_succ]
  refine wpAnyH_take (i := 7) (oi := ?oig7) (v := ?vg7) ?hig7 (by kernel_rfl) (by kernel_rfl) (by kernel_rfl) (fun _ _ _ h => h) (Or.inl ⟨?hwg7, ?hyg7⟩) (by assumption) ?hrg7
  case hig7 => simp only [List.getElem?_toArray, List.getElem?_cons_succ, List.getElem?_cons_zero]; rfl
  case hwg7 => rfl
  case hyg7 => intro wq hSq; (try dsimp only at hSq); go_simp; (try with_reducible rfl)
  try simp only [Act.put, List.setIfInBounds_toArray, List.set_cons_zero, List.set_cons_succ]
  refine wpAnyH_take (i := 8) (oi := ?oig8) (v := ?vg8) ?hig8 (by kernel_rfl) (by kernel_rfl) (by kernel_rfl) (fun _ _ _ h => h) (Or.inl ⟨?hwg8, ?hyg8⟩) (by assumption) ?hrg8
  case hig8 => simp only [List.getElem?_toArray, List.getElem?_cons_succ, List.getElem?_cons_zero]; rfl
  case hwg8 => rfl
  case hyg8 => intro wq hSq; (try dsimp only at hSq); go_simp; (try with_reducible rfl)
  try simp only [Act.put, List.setIfInBounds_toArray, List.set_cons_zero, List.set_cons_succ]
  refine wpAnyH_take (i := 9) (oi := ?oig9) (v := ?vg9) ?hig9 (by kernel_rfl) (by kernel_rfl) (by kernel_rfl) (fun _ _ _ h => h) (Or.inl ⟨?hwg9, ?hyg9⟩) (by assumption) ?hrg9
  case hig9 => simp only [List.getElem?_toArray, List.getElem?_cons_succ, List.getElem?_cons_zero]; rfl
  case hwg9 => rfl
  case hyg9 => intro wq hSq; (try dsimp only at hSq); go_simp; (try with_reducible rfl)
  try simp only [Act.put, List.setIfInBounds_toArray, List.set_cons_zero, List.set_cons_succ]
  refine wpAnyH_take (i := 10) (oi := ?oig10) (v := ?vg10) ?hig10 (by kernel_rfl) (by kernel_rfl) (by kernel_rfl) (fun _ _ _ h => h) (Or.inl ⟨?hwg10, ?hyg10⟩) (by assumption) ?hrg10
  case hig10 => simp only [List.getElem?_toArray, List.getElem?_cons_succ, List.getElem?_cons_zero]; rfl
  case hwg10 => rfl
  case hyg10 => intro wq hSq; (try dsimp only at hSq); go_simp; (try with_reducible rfl)
  try simp only [Act.put, List.setIfInBounds_toArray, List.set_cons_zero, List.set_cons_succ]
  refine wpAnyH_ready (rs := [11]) (by kernel_rfl) (by simp) ?_
  refine AllReadyH.cons rfl (fun K hK => ?_) AllReadyH.nil
  go_simp
  refine (get_zz (HSX.out.keep ((Chg.refl wx _).drew)).nm.mem).mono ?_
  rintro e w8 ⟨a8, c8, ⟨rfl, O8, C8⟩⟩
  have e8 := fun wx => conv_rule (ao := a8) (m := 2) (c := c8) (xs := zz) wx
  have hzz : strOfNums zz = { data := #[122, 122] } := by kernel_rfl
  rw [hzz] at e8
  have hHeld2 : (fun w' => (w'.cell? ⟨w28.heap.size, k, none⟩ = some (.int .i64 v) ∧ w'.cell? ⟨w28.heap.size + 1, k, none⟩ = some (.int .i64 v)) ∧ Src w' a8 2 c8 (u8s zz) 1) _ := ⟨⟨C8.cell e1 (fun h => h), C8.cell e2 (fun h => h)⟩, own_src O8⟩
  refine hK.out _ _ hHeld2.1 (fun _ => wpAnyH_mono (S2 := fun w' => (w'.cell? ⟨w28.heap.size, k, none⟩ = some (.int .i64 v) ∧ w'.cell? ⟨w28.heap.size + 1, k, none⟩ = some (.int .i64 v)) ∧ Src w' a8 2 c8 (u8s zz) 1) (fun _ h => h.1) _ _ _ _ ?_)
  clear hK K hHeld
  try simp only [Act.put, List.setIfInBounds_toArray, List.set_cons_zero, List.set_cons_succ]
  refine wpAnyH_take (i := 12) (oi := ?oig12) (v := ?vg12) ?hig12 (by kernel_rfl) (by kernel_rfl) (by kernel_rfl) (fun _ _ _ h => h) (Or.inl ⟨?hwg12, ?hyg12⟩) (by assumption) ?hrg12
  case hig12 => simp only [List.getElem?_toArray, List.getElem?_cons_succ, List.getElem?_cons_zero]; rfl
  case hwg12 => rfl
  case hyg12 => intro wq hSq; (try dsimp only at hSq); go_simp; (try with_reducible rfl)
  try simp only [Act.put, List.setIfInBounds_toArray, List.set_cons_zero, List.set_cons_succ]
  refine wpAnyH_take (i := 13) (oi := ?oig13) (v := ?vg13) ?hig13 (by kernel_rfl) (by kernel_rfl) (by kernel_rfl) (fun _ _ _ h => h) (Or.inl ⟨?hwg13, ?hyg13⟩) (by assumption) ?hrg13
  case hig13 => simp only [List.getElem?_toArray, List.getElem?_cons_succ, List.getElem?_cons_zero]; rfl
  case hwg13 => rfl
  case hyg13 => intro wq hSq; (try dsimp only at hSq); go_simp; (try with_reducible rfl)
  try simp only [Act.put, List.setIfInBounds_toArray, List.set_cons_zero, List.set_cons_succ]
  refine wpAnyH_take (i := 14) (oi := ?oig14) (v := ?vg14) ?hig14 (by kernel_rfl) (by kernel_rfl) (by kernel_rfl) (fun _ _ _ h => h) (Or.inl ⟨?hwg14, ?hyg14⟩) (by assumption) ?hrg14
  case hig14 => simp only [List.getElem?_toArray, List.getElem?_cons_succ, List.getElem?_cons_zero]; rfl
  case hwg14 => rfl
  case hyg14 => intro wq hSq; (try dsimp only at hSq); go_simp; (try with_reducible rfl)
  try simp only [Act.put, List.setIfInBounds_toArray, List.set_cons_zero, List.set_cons_succ]
  refine wpAnyH_take (i := 15) (oi := ?oig15) (v := ?vg15) ?hig15 (by kernel_rfl) (by kernel_rfl) (by kernel_rfl) (fun _ _ _ h => h) (Or.inl ⟨?hwg15, ?hyg15⟩) (by assumption) ?hrg15
  case hig15 => simp only [List.getElem?_toArray, List.getElem?_cons_succ, List.getElem?_cons_zero]; rfl
  case hwg15 => rfl
  case hyg15 => intro wq hSq; (try dsimp only at hSq); go_simp; (try with_reducible rfl)
  try simp only [Act.put, List.setIfInBounds_toArray, List.set_cons_zero, List.set_cons_succ]
  refine wpAnyH_done (by kernel_rfl) ?_ _
  refine NoPanic.normal ?_
  have HCZ := Lib.hid ((HSX.out.chg.trans ((Chg.refl wx (fun j => ¬ j < W.heap.size)).drew)).trans (C8.mono (fun _ _ h => h.elim)))
  go_wp2_with fail
  go_ret
  exact ⟨rfl, HCZ.out.below (Nat.le_refl _) (fun j hj h => h hj)⟩

set_option maxRecDepth 100000 in
set_option maxHeartbeats 16000000 in
theorem codes_out (which : Int) (h : which < 0 ∨ 23 ≤ which) (W : World) : Calls Try.prog 7 #[.int .i64 which] W fun e w' => e = .returned (.bool true) ∧ Below W.heap.size W w' := by
  go_enter Try.func7, Try.ntmps7
  go_wp2_with fail
  refine (alive18 _).mono ?_
  rintro e w1 ⟨rfl, C1⟩
  go_wp2_with fail
  refine (two_any 4 1 _).mono ?_
  rintro e w2 ⟨bb, zb, qb, cap, rfl, A2, C2⟩
  have HN := new_p A2 (two_chk (by decide) (by decide)) rfl rfl rfl rfl rfl rfl
  clear A2
  go_wp2_with fail
  refine HN.mono ?_
  clear HN
  rintro e w3 ⟨n, rfl, N3, C3⟩
  have hs2 := (C1.trans C2).size
  have hs3 := C3.size
  rw [aq_none] at N3
  have HN3 : Hid (NetP w3 (fun k => k < W.heap.size) n (twoL 4 1) (aq [] [] [])) := N3.mono (fun k hk => Nat.lt_of_lt_of_le hk hs2)
  have HC3 := Lib.hid ((C1.trans C2).trans C3)
  clear N3 C1 C2 C3
  go_wp2_with (go_at_call 12; refine (num18_any _ _).mono ?_; rintro e w' ⟨rfl, rfl⟩)
  refine (new_at 1 4096 pgN_one _).mono ?_
  rintro e w4 ⟨a, b, M4⟩
  have hr4 := M4.ret
  subst hr4
  have HS4 : Hid (CodAt W n a b [] [] [] (fun _ => 0) w4) := ⟨⟨HN3.out.adopt M4.chg (fun _ h => h.elim) (fun k hk => by
    have h1 := M4.lea; have h2 := M4.leb; have h3 := M4.mem.lta; have h4 := M4.mem.ltb
    rcases hk with hk | rfl | rfl
    · exact .inl hk
    · exact .inr ⟨h1, h3⟩
    · exact .inr ⟨h2, h4⟩), M4.mem, .inr (.inl rfl), .inr (.inr rfl)⟩, (HC3.out.trans M4.chg).mono (fun _ _ h => h.elim), by have := M4.leb; omega⟩
  have k1 := cc1
  have k2 := cc2
  have k5 := cc5
  clear M4 hs2 hs3 HN3
  go_wp2_with fail
  have HK4 := Lib.hid (HS4.out.keep ((Chg.refl w4 _).alloc (.cells #[.int .u8 122, .int .u8 122] 5 (2, 3))))
  refine (cod_write HK4.out 1 2 (by decide) (by decide) [122, 122] rfl (src_const w4 [122, 122] 2 (2, 3) rfl) (byte_small (by decide)) (by decide) (z' := [zz]) cv0 cq0).mono ?_
  rintro e w5 ⟨rfl, S5⟩
  have HS5 := Lib.hid S5
  clear S5 HS4 HK4
  go_wp2_with fail
  have HK5 := Lib.hid (HS5.out.keep ((Chg.refl w5 _).alloc (.cells #[.int .u8 97] 5 (1, 2))))
  refine (cod_write HK5.out 0 9 (by decide) (by decide) [97] rfl (src_const w5 [97] 1 (1, 2) rfl) (byte_small (by decide)) (by decide) (z' := [zz]) cv1 cq1).mono ?_
  rintro e w6 ⟨rfl, S6⟩
  have HS6 := Lib.hid S6
  clear S6 HS5 HK5
  go_wp2_with fail
  have HK6 := Lib.hid (HS6.out.keep ((Chg.refl w6 _).alloc (.cells #[.int .u8 97] 5 (1, 2))))
  refine (cod_write HK6.out 0 (-1) (by decide) (by decide) [97] rfl (src_const w6 [97] 1 (1, 2) rfl) (byte_small (by decide)) (by decide) (z' := [zz]) cv2 cq2).mono ?_
  rintro e w7 ⟨rfl, S7⟩
  have HS7 := Lib.hid S7
  clear S7 HS6 HK6
  go_wp2_with fail
  have HK7 := Lib.hid (HS7.out.keep ((Chg.refl w7 _).alloc (.cells #[.int .u8 97] 5 (1, 2))))
  refine (cod_write HK7.out 1 0 (by decide) (by decide) [97] rfl (src_const w7 [97] 1 (1, 2) rfl) (byte_small (by decide)) (by decide) (z' := [zz]) cv3 cq3).mono ?_
  rintro e w8 ⟨rfl, S8⟩
  have HS8 := Lib.hid S8
  clear S8 HS7 HK7
  go_wp2_with fail
  have HK8 := HS8
  refine (cod_write HK8.out 0 0 (by decide) (by decide) [] rfl (src_nil w8) (byte_small (by decide)) (by decide) (z' := [zz]) cv4 cq4).mono ?_
  rintro e w9 ⟨rfl, S9⟩
  have HS9 := Lib.hid S9
  clear S9 HS8
  go_wp2_with fail
  have HK9 := Lib.hid (HS9.out.keep ((Chg.refl w9 _).alloc (.cells #[.int .u8 97, .int .u8 98, .int .u8 99, .int .u8 100, .int .u8 101] 5 (5, 6))))
  refine (cod_write HK9.out 0 0 (by decide) (by decide) [97, 98, 99, 100, 101] rfl (src_const w9 [97, 98, 99, 100, 101] 5 (5, 6) rfl) (byte_small (by decide)) (by decide) (z' := [zz]) cv5 cq5).mono ?_
  rintro e w10 ⟨rfl, S10⟩
  have HS10 := Lib.hid S10
  clear S10 HS9 HK9
  go_wp2_with fail
  have HK10 := Lib.hid (HS10.out.keep ((Chg.refl w10 _).alloc (.cells #[.int .u8 97] 5 (1, 2))))
  refine (cod_write HK10.out 7 0 (by decide) (by decide) [97] rfl (src_const w10 [97] 1 (1, 2) rfl) (byte_small (by decide)) (by decide) (z' := [zz]) cv6 cq6).mono ?_
  rintro e w11 ⟨rfl, S11⟩
  have HS11 := Lib.hid S11
  clear S11 HS10 HK10
  go_wp2_with fail
  refine (cod_status HS11.out 0 3 (by decide) (by decide) cv7).mono ?_
  rintro e w12 ⟨rfl, S12⟩
  have HS12 := Lib.hid S12
  clear S12 HS11
  go_wp2_with fail
  refine (cod_status HS12.out 0 2 (by decide) (by decide) cv8).mono ?_
  rintro e w13 ⟨rfl, S13⟩
  have HS13 := Lib.hid S13
  clear S13 HS12
  go_wp2_with fail
  refine (cod_messages HS13.out 0 cv9).mono ?_
  rintro e w14 ⟨rfl, S14⟩
  have HS14 := Lib.hid S14
  clear S14 HS13
  go_wp2_with fail
  refine (cod_messages HS14.out 9 cv10).mono ?_
  rintro e w15 ⟨rfl, S15⟩
  have HS15 := Lib.hid S15
  clear S15 HS14
  go_wp2_with fail
  refine (cod_call HS15.out 0 2 2 100 1 (by decide) (x' := []) (y' := []) (z' := [zz]) cv11 cq11 cf11).mono ?_
  rintro e w16 ⟨rfl, S16⟩
  have HS16 := Lib.hid S16
  clear S16 HS15
  go_wp2_with fail
  refine (cod_call HS16.out 0 2 2 4095 4 (by decide) (x' := []) (y' := []) (z' := [zz]) cv12 cq12 cf12).mono ?_
  rintro e w17 ⟨rfl, S17⟩
  have HS17 := Lib.hid S17
  clear S17 HS16
  go_wp2_with fail
  refine (cod_call HS17.out 0 2 2 100 4 (by decide) (x' := []) (y' := []) (z' := []) cv13 cq13 cf13).mono ?_
  rintro e w18 ⟨rfl, S18⟩
  have HS18 := Lib.hid S18
  clear S18 HS17
  go_wp2_with fail
  refine (cod_call HS18.out 0 2 2 100 4 (by decide) (x' := []) (y' := []) (z' := []) cv14 cq14 cf14).mono ?_
  rintro e w19 ⟨rfl, S19⟩
  have HS19 := Lib.hid S19
  clear S19 HS18
  go_wp2_with fail
  refine (cod_call HS19.out 0 2 0 100 4 (by decide) (x' := []) (y' := []) (z' := []) cv15 cq15 cf15).mono ?_
  rintro e w20 ⟨rfl, S20⟩
  have HS20 := Lib.hid S20
  clear S20 HS19
  go_wp2_with fail
  refine (cod_call HS20.out 0 1 0 4095 2 (by decide) (x' := []) (y' := []) (z' := []) cv16 cq16 cf16).mono ?_
  rintro e w21 ⟨rfl, S21⟩
  have HS21 := Lib.hid S21
  clear S21 HS20
  go_wp2_with fail
  refine (cod_call HS21.out 0 1 0 0 65 (by decide) (x' := []) (y' := []) (z' := []) cv17 cq17 cf17).mono ?_
  rintro e w22 ⟨rfl, S22⟩
  have HS22 := Lib.hid S22
  clear S22 HS21
  go_wp2_with fail
  refine (cod_call HS22.out 0 1 0 0 0 (by decide) (x' := []) (y' := []) (z' := []) cv18 cq18 cf18).mono ?_
  rintro e w23 ⟨rfl, S23⟩
  have HS23 := Lib.hid S23
  clear S23 HS22
  go_wp2_with fail
  refine (cod_call HS23.out 0 1 0 0 4 (by decide) (x' := [zero4]) (y' := []) (z' := []) cv19 cq19 cf19).mono ?_
  rintro e w24 ⟨rfl, S24⟩
  have HS24 := Lib.hid S24
  clear S24 HS23
  go_wp2_with fail
  refine (cod_call HS24.out 0 1 0 0 4 (by decide) (x' := [zero4]) (y' := []) (z' := []) cv20 cq20 cf20).mono ?_
  rintro e w25 ⟨rfl, S25⟩
  have HS25 := Lib.hid S25
  clear S25 HS24
  go_wp2_with fail
  refine (cod_call HS25.out 0 3 0 0 0 (by decide) (x' := [zero4]) (y' := []) (z' := []) cv21 cq21 cf21).mono ?_
  rintro e w26 ⟨rfl, S26⟩
  have HS26 := Lib.hid S26
  clear S26 HS25
  go_wp2_with fail
  refine (cod_call HS26.out 1 4 0 0 0 (by decide) (x' := [zero4]) (y' := []) (z' := []) cv22 cq22 cf22).mono ?_
  rintro e w27 ⟨rfl, S27⟩
  have HS27 := Lib.hid S27
  clear S27 HS26
  go_wp2_with fail
  refine (cod_call HS27.out 0 0 0 0 0 (by decide) (x' := [zero4]) (y' := []) (z' := []) cv23 cq23 cf23).mono ?_
  rintro e w28 ⟨rfl, S28⟩
  have HS28 := Lib.hid S28
  clear S28 HS27
  clear k1 k2 k5
  rcases h with h | h
  · have d1 : decide (which < 0) = true := decide_eq_true h
    clear h
    go_wp2_with fail
    go_ret
    exact ⟨rfl, ((HS28.out.chg.alloc _).alloc _).below (Nat.le_refl _) (fun j hj h => h hj)⟩
  · have d1 : decide (which < 0) = false := decide_eq_false (by omega)
    have d2 : decide (23 ≤ which) = true := decide_eq_true h
    clear h
    go_wp2_with fail
    go_ret
    exact ⟨rfl, ((HS28.out.chg.alloc _).alloc _).below (Nat.le_refl _) (fun j hj h => h hj)⟩
end Go.Proofs.Ytiedfglkjkaefaa

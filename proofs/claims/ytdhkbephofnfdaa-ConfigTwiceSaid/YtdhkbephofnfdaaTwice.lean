/- ConfigTwice: the walk. -/
import Derived.Test.YtdhkbephofnfdaaTwiceLaw
import Derived.Test.YtdhkbephofnfdaaChkAt
import Derived.Test.YtdhkbephofnfdaaSeq
import Derived.Test.YtdhkbephofnfdaaOwn
import Derived.Deep.DeepCutAuto
import Derived.Deep.AppendLies
namespace Go.Proofs.Ytdhkbephofnfdaa
open Go.RowKit

/-- 'abcs[k : k+1]' at once. -/
theorem abc_cut (k : Nat) (h : k < 6) (wx : World) : (Instr.slice 9 (.string { data := #[97, 98, 99, 100, 101, 102] }) (some (.int .i64 k)) (some (.int .i64 ((k : Int) + 1))) none).run Try.prog wx = .ok (.string (twName k)) wx := by
  have := run_slice_string (P := Try.prog) wx 9 abcs .i64 .i64 k ((k : Int) + 1) Try.underlying9 (by omega) (by omega) (by rw [show abcs.size = 6 from rfl]; omega)
  rw [show ((k : Int)).toNat = k by omega, show ((k : Int) + 1).toNat = k + 1 by omega] at this
  exact this

theorem tw_at {w : World} {ga gw cp cw : Nat} (LA : Lst w (some ⟨ga, 0, none⟩) 6 cp ((twP 6).flatMap partCells) 3) (LW : Lst w (some ⟨gw, 0, none⟩) 6 cw ((twW 6).flatMap winCells) 3) : CfgAt w twC (some ⟨ga, 0, none⟩) none (some ⟨gw, 0, none⟩) cp 0 cw :=
  ⟨LA, Lst.none _ _, LW, by
    have h : ∀ p ∈ twP 6, p.name.size ≤ 1 := by decide +kernel
    intro p hp
    have := h p hp
    unfold maxLen
    omega⟩
theorem tw_atD {w : World} {gd gw cd cw i j : Nat} (hi : i < 6) (LD : Lst w (some ⟨gd, 0, none⟩) 6 cd (((twP 6).flatMap partCells).set (i * 3) (.string (twName j))) 3) (LW : Lst w (some ⟨gw, 0, none⟩) 6 cw ((twW 6).flatMap winCells) 3) : CfgAt w (twD i j) (some ⟨gd, 0, none⟩) none (some ⟨gw, 0, none⟩) cd 0 cw := by
  refine ⟨?_, Lst.none _ _, LW, ?_⟩
  · show Lst w _ ((twP 6).set i ⟨twName j, 2, 0⟩).length cd (((twP 6).set i ⟨twName j, 2, 0⟩).flatMap partCells) 3
    rw [List.length_set, twP_length]
    have e : ((twP 6).set i ⟨twName j, 2, 0⟩).flatMap partCells = ((twP 6).flatMap partCells).set (i * 3) (.string (twName j)) := by
      have h6 : i = 0 ∨ i = 1 ∨ i = 2 ∨ i = 3 ∨ i = 4 ∨ i = 5 := by omega
      rcases h6 with rfl | rfl | rfl | rfl | rfl | rfl <;> rfl
    rw [e]
    exact LD
  · intro p hp
    have h : ∀ p ∈ twP 6, p.name.size ≤ 1 := by decide +kernel
    rcases List.mem_or_eq_of_mem_set hp with h1 | rfl
    · have := h p h1
      unfold maxLen
      omega
    · show (twName j).size ≤ maxLen
      unfold twName maxLen
      rw [ByteArray.size_extract, show abcs.size = 6 from rfl]
      omega

set_option maxRecDepth 100000 in
set_option maxHeartbeats 8000000 in
theorem twice_in (i j l : Nat) (hi : i < 6) (hj : j < 6) (hl : l < 10) (w : World) :
    Calls Try.prog 5 #[.int .i64 i, .int .i64 j, .int .i64 l] w fun e w' => e = .returned (.bool true) ∧ Below w.heap.size w w' := by
  have q0 : decide ((i : Int) < 0) = false := decide_eq_false (by omega)
  have q1 : decide ((5 : Int) < i) = false := decide_eq_false (by omega)
  have q2 : decide ((j : Int) < 0) = false := decide_eq_false (by omega)
  have q3 : decide ((5 : Int) < j) = false := decide_eq_false (by omega)
  have q4 : decide ((l : Int) < 0) = false := decide_eq_false (by omega)
  have q5 : decide ((9 : Int) < l) = false := decide_eq_false (by omega)
  obtain ⟨i0, hi0, hz0, hz1, hz2⟩ := info_parts info_part
  obtain ⟨i3, hi3, hx0, hx1, hx2⟩ := info_parts info_win
  go_enter Try.func5, Try.ntmps5
  go_wp2_with fail
  refine (alive_any _).mono ?_
  rintro e w1 ⟨rfl, C1⟩
  go_wp2_with fail
  clear q0 q1 q2 q3 q4 q5
  go_loopg [9] 6 (fun n s wr => ∃ (k : Nat) (v u : Value), n + k = 6 ∧ s = .int .i64 k ∧ Chg w1 wr (fun _ => False) ∧ Box wr w1.heap.size 27 #[.int .i64 40, .int .i64 100, .int .i64 0, v, .slice none 0 0, u] ∧ wr.ownsRow w1.heap.size 30 3 v k ((twP k).flatMap partCells) ∧ wr.ownsRow w1.heap.size 34 3 u k ((twW k).flatMap winCells))
  case atStart => exact ⟨0, _, _, rfl, rfl, (Chg.refl _ _).alloc _, Box.new _ _ _, ⟨rfl, .inl ⟨rfl, rfl⟩⟩, ⟨rfl, .inl ⟨rfl, rfl⟩⟩⟩
  case round =>
    obtain ⟨k, v, u, hk, rfl, Ck, Bk, Ok, Uk⟩ := hrel
    by_cases hlt : k < 6
    · have hn0 : (0 : Int) ≤ (k : Int) := by omega
      have hw1 : IntKind.i64.wrap ((k : Int) + 1) = (k : Int) + 1 := IntWalk.i64_in _ (by omega)
      have hb0 : (0 : Int) ≤ (k : Int) + 1 := by omega
      have hcut := abc_cut k hlt
      have HS := Lib.hid (twP_succ k)
      have HS2 := Lib.hid (twW_succ k)
      obtain ⟨y, hy⟩ : ∃ y, twName k = y := ⟨_, rfl⟩
      rw [hy] at hcut HS
      have c3 : wr.cell? ⟨w1.heap.size, 3, none⟩ = some v := Bk.cell 3
      have f3 : wr.frozen? ⟨w1.heap.size, 3, none⟩ = false := Bk.frozen 3
      have hz := Bk.lt
      have hne := own_ne Ok Bk (by decide)
      obtain ⟨ao, cap, rfl, hf1, hf2, hf3, hf4⟩ := own_form Ok
      clear hy
      have hk' := Lib.hid hk
      clear hk
      go_upto_region 8 with fail
      go_cut [] (fun wx => ∃ v', Chg w1 wx (fun _ => False) ∧ Box wx w1.heap.size 27 #[.int .i64 40, .int .i64 100, .int .i64 0, v', .slice none 0 0, u] ∧ wx.ownsRow w1.heap.size 30 3 v' (k + 1) ((twP (k + 1)).flatMap partCells) ∧ wx.ownsRow w1.heap.size 34 3 u k ((twW k).flatMap winCells))
      case first =>
        go_region_law ((refine step_append_lies _ (by rfl) _ _ _ (by rfl) w1.heap.size 30 i0 _ 3 32 Try.underlying23 hi0 hz0 hz1 hz2 rfl (by omega) (.slice ao k cap) k _ (by rfl) (own_drew (own_alloc Ok _)) ⟨wr.heap.size, 0, none⟩ 1 1 [.string y, .int .i64 2, .int .i64 0] (by rfl) (by rfl) (World.news_of_block (cs := #[.string y, .int .i64 2, .int .i64 0]) (t := 30) (fr := (0, 0)) (heap_alloc_new wr _)) (by simp [Value.oneCell']) (by omega) (by unfold maxLen; omega) (by omega) (by simp; omega) (wr.heap.size + 1) (by simp) ?_; intro gg cap2 w2 hown1 hgrow hat hlt2; have M2 := box_grown (Bk.alloc _) hgrow (fun e => hne _ e.symm rfl); have m3 := M2.cell 3; have fz3 := M2.frozen 3; have hz2 := M2.lt))
        all_goals
          go_wp2_with fail
          go_meet
          have G1 := Chg.of_grown (P := fun b => (Value.slice ao k cap).ownBlock = some b) hgrow (fun b hb _ => hb)
          have U2 := own_chg (own_drew (own_alloc Uk _)) G1 (fun b hb hc => own_own_ne Uk Ok (by decide) b hb hc)
          refine ⟨_, ((((Ck.alloc _).drew.grown hgrow (fun j hj hlj => (Nat.not_lt.2 (Ok.lt j hj).1 hlj).elim)).setCell (fun hlj => (Nat.lt_irrefl _ hlj).elim) _)), M2.set 3 _, ?_, ?_⟩
          · rw [HS.out]
            exact own_chg hown1 ((Chg.refl w2 (fun j => j = w1.heap.size)).setCell (fun _ => rfl) _) (own_ne hown1 M2 (by decide))
          · exact own_chg U2 ((Chg.refl w2 (fun j => j = w1.heap.size)).setCell (fun _ => rfl) _) (own_ne U2 M2 (by decide))
      case rest =>
        obtain ⟨v', Cx, Bx, Ox, Ux⟩ := hcut
        have c5 : wc.cell? ⟨w1.heap.size, 5, none⟩ = some u := Bx.cell 5
        have f5 : wc.frozen? ⟨w1.heap.size, 5, none⟩ = false := Bx.frozen 5
        have hz := Bx.lt
        have hw10 : IntKind.i64.wrap (10 * (k : Int)) = 10 * (k : Int) := IntWalk.i64_in _ (by omega)
        obtain ⟨ao3, cap3, rfl, hg1, hg2, hg3, hg4⟩ := own_form Ux
        clear hf1 hf2 hf3 hf4 c3 f3
        go_wp2_with (at_builtin; refine wpList_append_lies _ rfl (.tmp 56) (.tmp 61) _ (by rfl) w1.heap.size 34 i3 _ 3 24 Try.underlying25 hi3 hx0 hx1 hx2 rfl (by omega) (.slice ao3 k cap3) k _ (by rfl) (own_alloc Ux _) ⟨wc.heap.size, 0, none⟩ 1 1 [.int .i64 (10 * (k : Int)), .int .i64 10, .int .i64 k] (by rfl) (by rfl) (World.news_of_block (cs := #[.int .i64 (10 * (k : Int)), .int .i64 10, .int .i64 k]) (t := 34) (fr := (0, 0)) (heap_alloc_new wc _)) (by simp [Value.oneCell']) (by omega) (by unfold maxLen; omega) (by omega) (by simp; have := Cx.size; omega) (wc.heap.size + 1) (by simp) ?_; intro gg cap2 w2 hown1 hgrow hat hlt2; have M2 := box_grow (Bx.alloc _) hgrow (fun e => own_ne Ux Bx (by decide) _ e.symm rfl); have m3 := M2.cell 5; have fz3 := M2.frozen 5; have hz2 := M2.lt)
        go_roundg (gk - 1)
        case measure => have := hk'.out; omega
        case rel =>
          have G1 := Chg.of_grown (P := fun b => (Value.slice ao3 k cap3).ownBlock = some b) hgrow (fun b hb _ => hb)
          have O2 := own_chg (own_alloc Ox _) G1 (fun b hb hc => own_own_ne Ox Ux (by decide) b hb hc)
          refine ⟨k + 1, _, _, by have := hk'.out; omega, by go_num, ((Cx.alloc _).grown hgrow (fun j hj hlj => (Nat.not_lt.2 (Ux.lt j hj).1 hlj).elim)).setCell (fun hlj => (Nat.lt_irrefl _ hlj).elim) _, M2.set 5 _, ?_, ?_⟩
          · exact own_chg O2 ((Chg.refl w2 (fun j => j = w1.heap.size)).setCell (fun _ => rfl) _) (own_ne O2 M2 (by decide))
          · rw [HS2.out]
            exact own_chg hown1 ((Chg.refl w2 (fun j => j = w1.heap.size)).setCell (fun _ => rfl) _) (own_ne hown1 M2 (by decide))
    · have h1 : k = 6 := by omega
      subst h1
      obtain ⟨ga, cp, rfl, ga0, ga1, ha1, ha2⟩ := own_block Ok (by decide)
      obtain ⟨gw, cw, rfl, gw0, gw1, hb1, hb2⟩ := own_block Uk (by decide)
      have d0 : wr.cell? ⟨w1.heap.size, 0, none⟩ = some (.int .i64 40) := Bk.cell 0
      have d1 : wr.cell? ⟨w1.heap.size, 1, none⟩ = some (.int .i64 100) := Bk.cell 1
      have d2 : wr.cell? ⟨w1.heap.size, 2, none⟩ = some (.int .i64 0) := Bk.cell 2
      have d3 : wr.cell? ⟨w1.heap.size, 3, none⟩ = some (.slice (some ⟨ga, 0, none⟩) 6 cp) := Bk.cell 3
      have d4 : wr.cell? ⟨w1.heap.size, 4, none⟩ = some (.slice none 0 0) := Bk.cell 4
      have d5 : wr.cell? ⟨w1.heap.size, 5, none⟩ = some (.slice (some ⟨gw, 0, none⟩) 6 cw) := Bk.cell 5
      have hz := Bk.lt
      have hk' := Lib.hid hk
      clear hk
      have LA := own_lst Ok
      have LW := own_lst Uk
      have na : ga ≠ w1.heap.size := own_ne Ok Bk (by decide) ga rfl
      have nw : gw ≠ w1.heap.size := own_ne Uk Bk (by decide) gw rfl
      go_upto_region 11 with fail
      go_upto_region 12 with (at_builtin; refine wpList_append_src _ rfl (.const (.slice none 0 0)) (.tmp 66) 23 rfl (wr.heap.size + 1) 30 i0 _ 3 32 Try.underlying23 hi0 hz0 hz1 hz2 rfl (by omega) (.slice none 0 0) 0 [] rfl ⟨rfl, .inl ⟨rfl, rfl⟩⟩ (some ⟨ga, 0, none⟩) 6 cp ((twP 6).flatMap partCells) rfl ((own_src Ok).chg ((Chg.refl _ (fun _ => False)).alloc _) (fun _ _ h => h)) (parts_one _) (by unfold maxLen; omega) (by omega) (by simp) ?_; intro v2 w2 hown2 hgrow2; simp only [Nat.zero_add, List.nil_append] at hown2; obtain ⟨gd, cd, rfl, gd0, gd1, hd1, hd2⟩ := own_block hown2 (by decide); have M2 := box_grow (Box.new wr 27 #[.int .i64 40, .int .i64 100, .int .i64 0, .slice (some ⟨ga, 0, none⟩) 6 cp, .slice none 0 0, .slice (some ⟨gw, 0, none⟩) 6 cw]) hgrow2 (by simp [Value.ownBlock]); have m3 := M2.cell 3; have fz3 := M2.frozen 3; have hz2 := M2.lt)
      have C2 : Chg w1 w2 (fun _ => False) := (Ck.alloc _).grown hgrow2 (fun j hj _ => by simp [Value.ownBlock] at hj)
      have G2 : Chg wr w2 (fun _ => False) := ((Chg.refl wr (fun _ => False)).alloc _).grown hgrow2 (fun j hj _ => by simp [Value.ownBlock] at hj)
      have C3 := C2.setCell (p := ⟨wr.heap.size, 3, none⟩) (fun h => absurd h (by show ¬ wr.heap.size < _; have := Ck.size; omega)) (.slice (some ⟨gd, 0, none⟩) 6 cd)
      have G3 := G2.setCell (p := ⟨wr.heap.size, 3, none⟩) (fun h => absurd h (Nat.lt_irrefl _)) (.slice (some ⟨gd, 0, none⟩) 6 cd)
      have BD := M2.set 3 (.slice (some ⟨gd, 0, none⟩) 6 cd)
      have OD := own_chg hown2 ((Chg.refl w2 (fun j => j = wr.heap.size)).setCell (p := ⟨wr.heap.size, 3, none⟩) (fun _ => rfl) (.slice (some ⟨gd, 0, none⟩) 6 cd)) (own_ne hown2 M2 (by decide))
      have B3 := Bk.chg G3 (fun h => h)
      have O3 := own_chg Ok G3 (fun _ _ h => h)
      have U3 := own_chg Uk G3 (fun _ _ h => h)
      have ne1 : gd ≠ wr.heap.size := own_ne hown2 M2 (by decide) gd rfl
      clear M2 m3 fz3 hgrow2 C2 G2 Ck Bk Ok Uk d0 d1 d2 d3 d4 d5 LA LW hown2
      generalize hw3 : w2.setCell ⟨wr.heap.size, 3, none⟩ (.slice (some ⟨gd, 0, none⟩) 6 cd) = w3 at *
      have hw3z : w3.heap.size = w2.heap.size := by rw [← hw3]; simp
      have hgd3 : gd < w3.heap.size := by rw [hw3z]; exact gd1
      have hz3 : wr.heap.size < w3.heap.size := by rw [hw3z]; exact hz2
      clear hw3 gd1 hz2 hw3z
      have LD := own_lst OD
      have LA := own_lst O3
      have LW := own_lst U3
      have hlen := twP_length 6
      have e1 : w3.cell? ⟨wr.heap.size, 3, none⟩ = some (.slice (some ⟨gd, 0, none⟩) 6 cd) := BD.cell 3
      have e2 : w3.cell? ⟨w1.heap.size, 3, none⟩ = some (.slice (some ⟨ga, 0, none⟩) 6 cp) := B3.cell 3
      have e3 : w3.cell? ⟨ga, j * 3, none⟩ = some (.string (twName j)) := by
        have := Lst.cell0 (n := 3) (fun _ => rfl) LA j (by decide) (by omega) (v := .string (twName j)) (by simp [twP, partCells])
        rwa [Nat.zero_add] at this
      have e4 : w3.cell? ⟨gd, i * 3, none⟩ = some (.string (twName i)) := by
        have := Lst.cell0 (n := 3) (fun _ => rfl) LD i (by decide) (by omega) (v := .string (twName i)) (by simp [twP, partCells])
        rwa [Nat.zero_add] at this
      have fd : ∀ k, w3.frozen? ⟨gd, k, none⟩ = false := own_frozen OD
      have f4 := fd (i * 3)
      have x1 : (0 : Int) ≤ (i : Int) := by omega
      have x2 : (i : Int) < 6 := by omega
      have x3 : (0 : Int) ≤ (j : Int) := by omega
      have x4 : (j : Int) < 6 := by omega
      have ne2 : gd ≠ w1.heap.size := by omega
      have ne3 : gd ≠ ga := by omega
      clear fd hlen
      go_region_held3 (fun w' => w'.cell? ⟨wr.heap.size, 3, none⟩ = some (.slice (some ⟨gd, 0, none⟩) 6 cd) ∧ w'.cell? ⟨w1.heap.size, 3, none⟩ = some (.slice (some ⟨ga, 0, none⟩) 6 cp) ∧ w'.cell? ⟨ga, j * 3, none⟩ = some (.string (twName j))) (go_keep) (fail)
      go_upto_region 13 with fail
      have C4 := C3.setCell (p := ⟨gd, i * 3, none⟩) (fun h => absurd h (by show ¬ gd < _; omega)) (.string (twName j))
      have G4 : Chg w3 (w3.setCell ⟨gd, i * 3, none⟩ (.string (twName j))) (fun k => k = gd) := Chg.setCell (p := ⟨gd, i * 3, none⟩) (Chg.refl w3 (fun k => k = gd)) (fun _ => rfl) _
      have B4 := (B3.chg G4 (fun h => ne2 h.symm)).drew
      have BD4 := (BD.chg G4 (fun h => ne1 h.symm)).drew
      have HC : CfgAt (w3.setCell ⟨gd, i * 3, none⟩ (.string (twName j))).drew twC (some ⟨ga, 0, none⟩) none (some ⟨gw, 0, none⟩) cp 0 cw :=
        (tw_at LA LW).chg G4.drew (fun ad e h => by obtain rfl := Option.some.inj e; exact ne3 h.symm) (fun ad e h => by cases e) (fun ad e h => by obtain rfl := Option.some.inj e; exact absurd h (by show ¬ gw = gd; omega))
      have HD : CfgAt (w3.setCell ⟨gd, i * 3, none⟩ (.string (twName j))).drew (twD i j) (some ⟨gd, 0, none⟩) none (some ⟨gw, 0, none⟩) cd 0 cw :=
        tw_atD hi ((LD.set0 (i * 3) (.string (twName j)) (by rw [flat_length partCells 3 (fun _ => rfl), twP_length]; omega)).chg (Chg.refl _ (fun _ => False)).drew (fun _ _ h => h)) (LW.chg G4.drew (fun ad e h => by obtain rfl := Option.some.inj e; exact absurd h (by show ¬ gw = gd; omega)))
      have U4 := own_chg U3 G4.drew (fun g e h => by have : gw = g := Option.some.inj e; omega)
      have C4' := C4.drew
      clear G4 B3 BD OD O3 U3 LD LA LW e1 e2 e3 e4 f4 x3 x4 C3 C4 G3
      generalize hw4 : (w3.setCell ⟨gd, i * 3, none⟩ (.string (twName j))).drew = w4 at *
      have hz4 : w4.heap.size = w3.heap.size := by rw [← hw4]; simp
      have hz5 : w1.heap.size < w4.heap.size := B4.lt
      clear hw4
      have d0 : w4.cell? ⟨w1.heap.size, 0, none⟩ = some (.int .i64 40) := B4.cell 0
      have d1 : w4.cell? ⟨w1.heap.size, 1, none⟩ = some (.int .i64 100) := B4.cell 1
      have d2 : w4.cell? ⟨w1.heap.size, 2, none⟩ = some (.int .i64 0) := B4.cell 2
      have d3 : w4.cell? ⟨w1.heap.size, 3, none⟩ = some (.slice (some ⟨ga, 0, none⟩) 6 cp) := B4.cell 3
      have d4 : w4.cell? ⟨w1.heap.size, 4, none⟩ = some (.slice none 0 0) := B4.cell 4
      have d5 : w4.cell? ⟨w1.heap.size, 5, none⟩ = some (.slice (some ⟨gw, 0, none⟩) 6 cw) := B4.cell 5
      clear hz4
      go_upto_region 15 with (at_builtin; refine wpList_append_src _ rfl (.const (.slice none 0 0)) (.tmp 82) 25 rfl (w4.heap.size + 1) 34 i3 _ 3 24 Try.underlying25 hi3 hx0 hx1 hx2 rfl (by omega) (.slice none 0 0) 0 [] rfl ⟨rfl, .inl ⟨rfl, rfl⟩⟩ (some ⟨gw, 0, none⟩) 6 cw ((twW 6).flatMap winCells) rfl ((own_src U4).chg ((Chg.refl _ (fun _ => False)).alloc _) (fun _ _ h => h)) (wins_one _) (by unfold maxLen; omega) (by omega) (by simp) ?_; intro v2 w5 hown5 hgrow5; simp only [Nat.zero_add, List.nil_append] at hown5; obtain ⟨ge, ce, rfl, ge0, ge1, he1, he2⟩ := own_block hown5 (by decide); have M5 := box_grow (Box.new w4 27 #[.int .i64 40, .int .i64 100, .int .i64 0, .slice (some ⟨ga, 0, none⟩) 6 cp, .slice none 0 0, .slice (some ⟨gw, 0, none⟩) 6 cw]) hgrow5 (by simp [Value.ownBlock]); have m5 := M5.cell 5; have fz5 := M5.frozen 5; have hz6 := M5.lt)
      have G5 : Chg w4 w5 (fun _ => False) := ((Chg.refl w4 (fun _ => False)).alloc _).grown hgrow5 (fun j hj _ => by simp [Value.ownBlock] at hj)
      have G6 := G5.setCell (p := ⟨w4.heap.size, 5, none⟩) (fun h => absurd h (Nat.lt_irrefl _)) (.slice (some ⟨ge, 0, none⟩) 6 ce)
      have BE := M5.set 5 (.slice (some ⟨ge, 0, none⟩) 6 ce)
      have OE := own_chg hown5 ((Chg.refl w5 (fun j => j = w4.heap.size)).setCell (p := ⟨w4.heap.size, 5, none⟩) (fun _ => rfl) (.slice (some ⟨ge, 0, none⟩) 6 ce)) (own_ne hown5 M5 (by decide))
      clear M5 m5 fz5 hgrow5 G5 hown5 d0 d1 d2 d3 d4 d5
      generalize hw6 : w5.setCell ⟨w4.heap.size, 5, none⟩ (.slice (some ⟨ge, 0, none⟩) 6 ce) = w6 at *
      have hge6 : ge < w6.heap.size := by rw [← hw6]; simpa using ge1
      have hz7 : w4.heap.size < w6.heap.size := by rw [← hw6]; simpa using hz6
      clear hw6 ge1 hz6
      have LE := own_lst OE
      have hlen := twW_length 6
      have e1 : w6.cell? ⟨w4.heap.size, 5, none⟩ = some (.slice (some ⟨ge, 0, none⟩) 6 ce) := BE.cell 5
      have e2 : w6.cell? ⟨ge, i * 3, none⟩ = some (.int .i64 (10 * (i : Int))) := by
        have := Lst.cell0 (n := 3) (fun _ => rfl) LE i (by decide) (by omega) (v := .int .i64 (10 * (i : Int))) (by simp [twW, winCells])
        rwa [Nat.zero_add] at this
      have fe : ∀ k, w6.frozen? ⟨ge, k, none⟩ = false := own_frozen OE
      have f4 := fe (i * 3)
      have neE : ge ≠ w4.heap.size := by omega
      have hsub : IntKind.i64.wrap (10 * (i : Int) - (l : Int)) = 10 * (i : Int) - (l : Int) := IntWalk.i64_in _ (by omega)
      clear hlen fe
      go_region
      go_upto_if 99 with fail
      have G7 := G6.setCell (p := ⟨ge, i * 3, none⟩) (fun h => absurd h (by show ¬ ge < _; omega)) (.int .i64 (10 * (i : Int) - (l : Int)))
      have GE : Chg w6 (w6.setCell ⟨ge, i * 3, none⟩ (.int .i64 (10 * (i : Int) - (l : Int)))) (fun k => k = ge) := Chg.setCell (p := ⟨ge, i * 3, none⟩) (Chg.refl w6 (fun k => k = ge)) (fun _ => rfl) _
      have BE7 := (BE.chg GE (fun h => neE h.symm)).drew
      have LE7 : Lst (w6.setCell ⟨ge, i * 3, none⟩ (.int .i64 (10 * (i : Int) - (l : Int)))).drew (some ⟨ge, 0, none⟩) 6 ce (((twW 6).flatMap winCells).set (i * 3) (.int .i64 (10 * (i : Int) - (l : Int)))) 3 :=
        (LE.set0 (i * 3) (.int .i64 (10 * (i : Int) - (l : Int))) (by rw [flat_length winCells 3 (fun _ => rfl), twW_length]; omega)).chg (Chg.refl _ (fun _ => False)).drew (fun _ _ h => h)
      have G7' := G7.drew
      have fe : ∀ k, (w6.setCell ⟨ge, i * 3, none⟩ (.int .i64 (10 * (i : Int) - (l : Int)))).drew.frozen? ⟨ge, k, none⟩ = false := fun k => by
        rw [World.frozen?_drew, World.frozen?_setCell]; exact own_frozen OE k
      clear GE BE LE G6 G7 OE e1 e2 f4 x1 x2 hsub
      generalize hw7 : (w6.setCell ⟨ge, i * 3, none⟩ (.int .i64 (10 * (i : Int) - (l : Int)))).drew = w7 at *
      have hz8 : ge < w7.heap.size := by rw [← hw7]; simpa using hge6
      clear hw7 hge6 hz7
      go_cut [] (fun wx => Chg w4 wx (fun _ => False) ∧ Box wx w4.heap.size 27 #[.int .i64 40, .int .i64 100, .int .i64 0, .slice (some ⟨ga, 0, none⟩) 6 cp, .slice none 0 0, .slice (some ⟨ge, 0, none⟩) 6 ce] ∧ Lst wx (some ⟨ge, 0, none⟩) 6 ce ((twE i l).wins.flatMap winCells) 3)
      case first =>
        by_cases h0 : i = 0
        · subst h0
          have m5 : w7.cell? ⟨w4.heap.size, 5, none⟩ = some (.slice (some ⟨ge, 0, none⟩) 6 ce) := BE7.cell 5
          have L0 := LE7.src.get _ rfl 0 _ rfl
          have L1 := LE7.src.get _ rfl 1 _ rfl
          rw [Addr.add_lit, Nat.zero_add] at L0 L1
          have f0 := fe 0
          have f1 := fe 1
          have hz9 := BE7.lt
          clear fe
          go_wp2_with fail
          go_meet
          refine ⟨(G7'.setCell (p := ⟨ge, 0, none⟩) (fun h => absurd h (by show ¬ ge < _; omega)) _).setCell (p := ⟨ge, 1, none⟩) (fun h => absurd h (by show ¬ ge < _; omega)) _, (BE7.far (fun e => neE e.symm) _).far (fun e => neE e.symm) _, ?_⟩
          exact ((LE7.set0 0 (.int .i64 0) (by rw [List.length_set, flat_length winCells 3 (fun _ => rfl), twW_length]; decide)).set0 1 (.int .i64 (10 + (l : Int))) (by rw [List.length_set, List.length_set, flat_length winCells 3 (fun _ => rfl), twW_length]; decide))
        · have gi : ((i : Int) == 0) = false := beq_eq_false_iff_ne.2 (by omega)
          clear fe
          go_wp2_with fail
          go_meet
          refine ⟨G7', BE7, ?_⟩
          have e : ((twW 6).flatMap winCells).set (i * 3) (.int .i64 (10 * (i : Int) - (l : Int))) = (twE i l).wins.flatMap winCells := by
            have h6 : i = 1 ∨ i = 2 ∨ i = 3 ∨ i = 4 ∨ i = 5 := by omega
            rcases h6 with rfl | rfl | rfl | rfl | rfl <;> rfl
          rw [← e]
          exact LE7
      case rest =>
        obtain ⟨Cx, Bx, Lx⟩ := hcut
        have HE7 : CfgAt wc (twE i l) (some ⟨ga, 0, none⟩) none (some ⟨ge, 0, none⟩) cp 0 ce := by
          refine ⟨(HC.keep Cx).ps, Lst.none _ _, ?_, (HC.keep Cx).names⟩
          show Lst wc _ (twE i l).wins.length ce _ 3
          have : (twE i l).wins.length = 6 := by simp [twE, twW]
          rw [this]
          exact Lx
        have HC7 := HC.keep Cx
        have HD7 := HD.keep Cx
        have B7 := B4.chg Cx (fun h => h)
        have D7 := BD4.chg Cx (fun h => h)
        have E7 := Bx
        obtain ⟨b1, hb1⟩ : ∃ b1, decide (i = j) = b1 := ⟨_, rfl⟩
        obtain ⟨b2, hb2⟩ : ∃ b2, decide (l = 0) = b2 := ⟨_, rfl⟩
        obtain ⟨dv, hdv⟩ : ∃ dv, chk (twD i j) = dv := ⟨_, rfl⟩
        obtain ⟨ev, hev⟩ : ∃ ev, chk (twE i l) = ev := ⟨_, rfl⟩
        have hd0 : (dv == 0) = b1 := by rw [← hdv, ← hb1]; exact tw_d i hi j hj
        have he0 : (ev == 0) = b2 := by rw [← hev, ← hb2]; exact tw_e i hi l hl
        have hd1 : ((i : Int) == (j : Int)) = b1 := by rw [← hb1, Bool.eq_iff_iff]; simp; omega
        have he1 : ((l : Int) == 0) = b2 := by rw [← hb2, Bool.eq_iff_iff]; simp
        have HVD := Lib.hid hdv
        have HVE := Lib.hid hev
        clear hdv hev hb1 hb2
        have LC : twC.pages = 40 ∧ twC.major = 100 ∧ twC.switch = 0 ∧ twC.parts.length = 6 ∧ twC.chans.length = 0 ∧ twC.wins.length = 6 := ⟨rfl, rfl, rfl, rfl, rfl, rfl⟩
        have LD : (twD i j).pages = 40 ∧ (twD i j).major = 100 ∧ (twD i j).switch = 0 ∧ (twD i j).parts.length = 6 ∧ (twD i j).chans.length = 0 ∧ (twD i j).wins.length = 6 := ⟨rfl, rfl, rfl, by simp [twD, twP], rfl, by simp [twD, twW]⟩
        have LE : (twE i l).pages = 40 ∧ (twE i l).major = 100 ∧ (twE i l).switch = 0 ∧ (twE i l).parts.length = 6 ∧ (twE i l).chans.length = 0 ∧ (twE i l).wins.length = 6 := ⟨rfl, rfl, rfl, by simp [twE, twP], rfl, by simp [twE, twW]⟩
        replace LC := Lib.hid LC
        replace LD := Lib.hid LD
        replace LE := Lib.hid LE
        clear fe BE7 LE7 G7'
        obtain ⟨w7, rfl⟩ : ∃ w7, w7 = wc := ⟨_, rfl⟩
        go_wp2_with fail
        refine wp_region_noPanic ?_
        refine seq_begin (fun w' => Chg w7 w' (fun _ => False)) (by kernel_rfl) ((Chg.refl w7 _).drew) ?_
        refine seq_op 0 (oi := ?oq0) (v := ?vq0) ?hq0 (by kernel_rfl) (by kernel_rfl) (by kernel_rfl) (fun _ _ _ h => h) ?wq0 (fun K wq hS hK => ?yq0) ?rq0
        case hq0 => simp only [List.getElem?_toArray, List.getElem?_cons_succ, List.getElem?_cons_zero]; rfl
        case wq0 => rfl
        case yq0 =>
          have HS := Lib.hid hS
          have BX := B7.chg hS (fun h => h)
          have x0 := BX.cell 0
          have x1 := BX.cell 1
          have x2 := BX.cell 2
          have x3 := BX.cell 3
          have x4 := BX.cell 4
          have x5 := BX.cell 5
          have hzz := BX.lt
          clear hS
          go_simp
          have hS2 := HS.out
          exact hK.out _ hS2
        try simp only [Act.put, List.setIfInBounds_toArray, List.set_cons_zero, List.set_cons_succ]
        refine seq_op 1 (oi := ?oq1) (v := ?vq1) ?hq1 (by kernel_rfl) (by kernel_rfl) (by kernel_rfl) (fun _ _ _ h => h) ?wq1 (fun K wq hS hK => ?yq1) ?rq1
        case hq1 => simp only [List.getElem?_toArray, List.getElem?_cons_succ, List.getElem?_cons_zero]; rfl
        case wq1 => rfl
        case yq1 =>
          have HS := Lib.hid hS
          have HX := HC7.keep hS
          clear hS
          go_simp
          with_reducible refine (check_at HX tw_c LC.out.1 LC.out.2.1 LC.out.2.2.1 LC.out.2.2.2.1 LC.out.2.2.2.2.1 LC.out.2.2.2.2.2).mono ?_
          rintro e w8 ⟨rfl, C8⟩
          have hS2 := HS.out.trans C8
          exact hK.out _ hS2
        try simp only [Act.put, List.setIfInBounds_toArray, List.set_cons_zero, List.set_cons_succ]
        refine seq_op 2 (oi := ?oq2) (v := ?vq2) ?hq2 (by kernel_rfl) (by kernel_rfl) (by kernel_rfl) (fun _ _ _ h => h) ?wq2 (fun K wq hS hK => ?yq2) ?rq2
        case hq2 => simp only [List.getElem?_toArray, List.getElem?_cons_succ, List.getElem?_cons_zero]; rfl
        case wq2 => rfl
        case yq2 =>
          have HS := Lib.hid hS
          clear hS
          go_simp
          refine (num_any _ _).mono ?_
          rintro e w8 ⟨rfl, rfl⟩
          have hS2 := HS.out
          exact hK.out _ hS2
        try simp only [Act.put, List.setIfInBounds_toArray, List.set_cons_zero, List.set_cons_succ]
        refine seq_op 3 (oi := ?oq3) (v := ?vq3) ?hq3 (by kernel_rfl) (by kernel_rfl) (by kernel_rfl) (fun _ _ _ h => h) ?wq3 (fun K wq hS hK => ?yq3) ?rq3
        case hq3 => simp only [List.getElem?_toArray, List.getElem?_cons_succ, List.getElem?_cons_zero]; rfl
        case wq3 => rfl
        case yq3 =>
          have HS := Lib.hid hS
          try dsimp only at hS
          go_simp
          exact hK.out _ HS.out
        try simp only [Act.put, List.setIfInBounds_toArray, List.set_cons_zero, List.set_cons_succ]
        refine seq_op 4 (oi := ?oq4) (v := ?vq4) ?hq4 (by kernel_rfl) (by kernel_rfl) (by kernel_rfl) (fun _ _ _ h => h) ?wq4 (fun K wq hS hK => ?yq4) ?rq4
        case hq4 => simp only [List.getElem?_toArray, List.getElem?_cons_succ, List.getElem?_cons_zero]; rfl
        case wq4 => rfl
        case yq4 =>
          have HS := Lib.hid hS
          try dsimp only at hS
          go_simp
          exact hK.out _ HS.out
        try simp only [Act.put, List.setIfInBounds_toArray, List.set_cons_zero, List.set_cons_succ]
        refine seq_op 5 (oi := ?oq5) (v := ?vq5) ?hq5 (by kernel_rfl) (by kernel_rfl) (by kernel_rfl) (fun _ _ _ h => h) ?wq5 (fun K wq hS hK => ?yq5) ?rq5
        case hq5 => simp only [List.getElem?_toArray, List.getElem?_cons_succ, List.getElem?_cons_zero]; rfl
        case wq5 => rfl
        case yq5 =>
          have HS := Lib.hid hS
          have BX := D7.chg hS (fun h => h)
          have x0 := BX.cell 0
          have x1 := BX.cell 1
          have x2 := BX.cell 2
          have x3 := BX.cell 3
          have x4 := BX.cell 4
          have x5 := BX.cell 5
          have hzz := BX.lt
          clear hS
          go_simp
          have hS2 := HS.out
          exact hK.out _ hS2
        try simp only [Act.put, List.setIfInBounds_toArray, List.set_cons_zero, List.set_cons_succ]
        refine seq_op 6 (oi := ?oq6) (v := ?vq6) ?hq6 (by kernel_rfl) (by kernel_rfl) (by kernel_rfl) (fun _ _ _ h => h) ?wq6 (fun K wq hS hK => ?yq6) ?rq6
        case hq6 => simp only [List.getElem?_toArray, List.getElem?_cons_succ, List.getElem?_cons_zero]; rfl
        case wq6 => rfl
        case yq6 =>
          have HS := Lib.hid hS
          have HX := HD7.keep hS
          clear hS
          go_simp
          with_reducible refine (check_at HX HVD.out LD.out.1 LD.out.2.1 LD.out.2.2.1 LD.out.2.2.2.1 LD.out.2.2.2.2.1 LD.out.2.2.2.2.2).mono ?_
          rintro e w8 ⟨rfl, C8⟩
          have hS2 := HS.out.trans C8
          exact hK.out _ hS2
        try simp only [Act.put, List.setIfInBounds_toArray, List.set_cons_zero, List.set_cons_succ]
        refine seq_op 7 (oi := ?oq7) (v := ?vq7) ?hq7 (by kernel_rfl) (by kernel_rfl) (by kernel_rfl) (fun _ _ _ h => h) ?wq7 (fun K wq hS hK => ?yq7) ?rq7
        case hq7 => simp only [List.getElem?_toArray, List.getElem?_cons_succ, List.getElem?_cons_zero]; rfl
        case wq7 => rfl
        case yq7 =>
          have HS := Lib.hid hS
          clear hS
          go_simp
          refine (num_any _ _).mono ?_
          rintro e w8 ⟨rfl, rfl⟩
          have hS2 := HS.out
          exact hK.out _ hS2
        try simp only [Act.put, List.setIfInBounds_toArray, List.set_cons_zero, List.set_cons_succ]
        refine seq_op 8 (oi := ?oq8) (v := ?vq8) ?hq8 (by kernel_rfl) (by kernel_rfl) (by kernel_rfl) (fun _ _ _ h => h) ?wq8 (fun K wq hS hK => ?yq8) ?rq8
        case hq8 => simp only [List.getElem?_toArray, List.getElem?_cons_succ, List.getElem?_cons_zero]; rfl
        case wq8 => rfl
        case yq8 =>
          have HS := Lib.hid hS
          try dsimp only at hS
          go_simp
          exact hK.out _ HS.out
        try simp only [Act.put, List.setIfInBounds_toArray, List.set_cons_zero, List.set_cons_succ]
        refine seq_op 9 (oi := ?oq9) (v := ?vq9) ?hq9 (by kernel_rfl) (by kernel_rfl) (by kernel_rfl) (fun _ _ _ h => h) ?wq9 (fun K wq hS hK => ?yq9) ?rq9
        case hq9 => simp only [List.getElem?_toArray, List.getElem?_cons_succ, List.getElem?_cons_zero]; rfl
        case wq9 => rfl
        case yq9 =>
          have HS := Lib.hid hS
          try dsimp only at hS
          go_simp
          exact hK.out _ HS.out
        try simp only [Act.put, List.setIfInBounds_toArray, List.set_cons_zero, List.set_cons_succ]
        refine seq_op 10 (oi := ?oq10) (v := ?vq10) ?hq10 (by kernel_rfl) (by kernel_rfl) (by kernel_rfl) (fun _ _ _ h => h) ?wq10 (fun K wq hS hK => ?yq10) ?rq10
        case hq10 => simp only [List.getElem?_toArray, List.getElem?_cons_succ, List.getElem?_cons_zero]; rfl
        case wq10 => rfl
        case yq10 =>
          have HS := Lib.hid hS
          try dsimp only at hS
          go_simp
          exact hK.out _ HS.out
        try simp only [Act.put, List.setIfInBounds_toArray, List.set_cons_zero, List.set_cons_succ]
        refine seq_op 11 (oi := ?oq11) (v := ?vq11) ?hq11 (by kernel_rfl) (by kernel_rfl) (by kernel_rfl) (fun _ _ _ h => h) ?wq11 (fun K wq hS hK => ?yq11) ?rq11
        case hq11 => simp only [List.getElem?_toArray, List.getElem?_cons_succ, List.getElem?_cons_zero]; rfl
        case wq11 => rfl
        case yq11 =>
          have HS := Lib.hid hS
          try dsimp only at hS
          go_simp
          exact hK.out _ HS.out
        try simp only [Act.put, List.setIfInBounds_toArray, List.set_cons_zero, List.set_cons_succ]
        refine seq_op 12 (oi := ?oq12) (v := ?vq12) ?hq12 (by kernel_rfl) (by kernel_rfl) (by kernel_rfl) (fun _ _ _ h => h) ?wq12 (fun K wq hS hK => ?yq12) ?rq12
        case hq12 => simp only [List.getElem?_toArray, List.getElem?_cons_succ, List.getElem?_cons_zero]; rfl
        case wq12 => rfl
        case yq12 =>
          have HS := Lib.hid hS
          try dsimp only at hS
          go_simp
          exact hK.out _ HS.out
        try simp only [Act.put, List.setIfInBounds_toArray, List.set_cons_zero, List.set_cons_succ]
        refine seq_op 13 (oi := ?oq13) (v := ?vq13) ?hq13 (by kernel_rfl) (by kernel_rfl) (by kernel_rfl) (fun _ _ _ h => h) ?wq13 (fun K wq hS hK => ?yq13) ?rq13
        case hq13 => simp only [List.getElem?_toArray, List.getElem?_cons_succ, List.getElem?_cons_zero]; rfl
        case wq13 => rfl
        case yq13 =>
          have HS := Lib.hid hS
          try dsimp only at hS
          go_simp
          exact hK.out _ HS.out
        try simp only [Act.put, List.setIfInBounds_toArray, List.set_cons_zero, List.set_cons_succ]
        refine seq_op 14 (oi := ?oq14) (v := ?vq14) ?hq14 (by kernel_rfl) (by kernel_rfl) (by kernel_rfl) (fun _ _ _ h => h) ?wq14 (fun K wq hS hK => ?yq14) ?rq14
        case hq14 => simp only [List.getElem?_toArray, List.getElem?_cons_succ, List.getElem?_cons_zero]; rfl
        case wq14 => rfl
        case yq14 =>
          have HS := Lib.hid hS
          try dsimp only at hS
          go_simp
          exact hK.out _ HS.out
        try simp only [Act.put, List.setIfInBounds_toArray, List.set_cons_zero, List.set_cons_succ]
        refine seq_op 15 (oi := ?oq15) (v := ?vq15) ?hq15 (by kernel_rfl) (by kernel_rfl) (by kernel_rfl) (fun _ _ _ h => h) ?wq15 (fun K wq hS hK => ?yq15) ?rq15
        case hq15 => simp only [List.getElem?_toArray, List.getElem?_cons_succ, List.getElem?_cons_zero]; rfl
        case wq15 => rfl
        case yq15 =>
          have HS := Lib.hid hS
          have BX := E7.chg hS (fun h => h)
          have x0 := BX.cell 0
          have x1 := BX.cell 1
          have x2 := BX.cell 2
          have x3 := BX.cell 3
          have x4 := BX.cell 4
          have x5 := BX.cell 5
          have hzz := BX.lt
          clear hS
          go_simp
          have hS2 := HS.out
          exact hK.out _ hS2
        try simp only [Act.put, List.setIfInBounds_toArray, List.set_cons_zero, List.set_cons_succ]
        refine seq_op 16 (oi := ?oq16) (v := ?vq16) ?hq16 (by kernel_rfl) (by kernel_rfl) (by kernel_rfl) (fun _ _ _ h => h) ?wq16 (fun K wq hS hK => ?yq16) ?rq16
        case hq16 => simp only [List.getElem?_toArray, List.getElem?_cons_succ, List.getElem?_cons_zero]; rfl
        case wq16 => rfl
        case yq16 =>
          have HS := Lib.hid hS
          have HX := HE7.keep hS
          clear hS
          go_simp
          with_reducible refine (check_at HX HVE.out LE.out.1 LE.out.2.1 LE.out.2.2.1 LE.out.2.2.2.1 LE.out.2.2.2.2.1 LE.out.2.2.2.2.2).mono ?_
          rintro e w8 ⟨rfl, C8⟩
          have hS2 := HS.out.trans C8
          exact hK.out _ hS2
        try simp only [Act.put, List.setIfInBounds_toArray, List.set_cons_zero, List.set_cons_succ]
        refine seq_op 17 (oi := ?oq17) (v := ?vq17) ?hq17 (by kernel_rfl) (by kernel_rfl) (by kernel_rfl) (fun _ _ _ h => h) ?wq17 (fun K wq hS hK => ?yq17) ?rq17
        case hq17 => simp only [List.getElem?_toArray, List.getElem?_cons_succ, List.getElem?_cons_zero]; rfl
        case wq17 => rfl
        case yq17 =>
          have HS := Lib.hid hS
          clear hS
          go_simp
          refine (num_any _ _).mono ?_
          rintro e w8 ⟨rfl, rfl⟩
          have hS2 := HS.out
          exact hK.out _ hS2
        try simp only [Act.put, List.setIfInBounds_toArray, List.set_cons_zero, List.set_cons_succ]
        refine seq_op 18 (oi := ?oq18) (v := ?vq18) ?hq18 (by kernel_rfl) (by kernel_rfl) (by kernel_rfl) (fun _ _ _ h => h) ?wq18 (fun K wq hS hK => ?yq18) ?rq18
        case hq18 => simp only [List.getElem?_toArray, List.getElem?_cons_succ, List.getElem?_cons_zero]; rfl
        case wq18 => rfl
        case yq18 =>
          have HS := Lib.hid hS
          try dsimp only at hS
          go_simp
          exact hK.out _ HS.out
        try simp only [Act.put, List.setIfInBounds_toArray, List.set_cons_zero, List.set_cons_succ]
        refine seq_op 19 (oi := ?oq19) (v := ?vq19) ?hq19 (by kernel_rfl) (by kernel_rfl) (by kernel_rfl) (fun _ _ _ h => h) ?wq19 (fun K wq hS hK => ?yq19) ?rq19
        case hq19 => simp only [List.getElem?_toArray, List.getElem?_cons_succ, List.getElem?_cons_zero]; rfl
        case wq19 => rfl
        case yq19 =>
          have HS := Lib.hid hS
          try dsimp only at hS
          go_simp
          exact hK.out _ HS.out
        try simp only [Act.put, List.setIfInBounds_toArray, List.set_cons_zero, List.set_cons_succ]
        refine seq_op 20 (oi := ?oq20) (v := ?vq20) ?hq20 (by kernel_rfl) (by kernel_rfl) (by kernel_rfl) (fun _ _ _ h => h) ?wq20 (fun K wq hS hK => ?yq20) ?rq20
        case hq20 => simp only [List.getElem?_toArray, List.getElem?_cons_succ, List.getElem?_cons_zero]; rfl
        case wq20 => rfl
        case yq20 =>
          have HS := Lib.hid hS
          try dsimp only at hS
          go_simp
          exact hK.out _ HS.out
        try simp only [Act.put, List.setIfInBounds_toArray, List.set_cons_zero, List.set_cons_succ]
        refine seq_op 21 (oi := ?oq21) (v := ?vq21) ?hq21 (by kernel_rfl) (by kernel_rfl) (by kernel_rfl) (fun _ _ _ h => h) ?wq21 (fun K wq hS hK => ?yq21) ?rq21
        case hq21 => simp only [List.getElem?_toArray, List.getElem?_cons_succ, List.getElem?_cons_zero]; rfl
        case wq21 => rfl
        case yq21 =>
          have HS := Lib.hid hS
          try dsimp only at hS
          go_simp
          exact hK.out _ HS.out
        try simp only [Act.put, List.setIfInBounds_toArray, List.set_cons_zero, List.set_cons_succ]
        refine seq_op 22 (oi := ?oq22) (v := ?vq22) ?hq22 (by kernel_rfl) (by kernel_rfl) (by kernel_rfl) (fun _ _ _ h => h) ?wq22 (fun K wq hS hK => ?yq22) ?rq22
        case hq22 => simp only [List.getElem?_toArray, List.getElem?_cons_succ, List.getElem?_cons_zero]; rfl
        case wq22 => rfl
        case yq22 =>
          have HS := Lib.hid hS
          try dsimp only at hS
          go_simp
          exact hK.out _ HS.out
        try simp only [Act.put, List.setIfInBounds_toArray, List.set_cons_zero, List.set_cons_succ]
        refine seq_op 23 (oi := ?oq23) (v := ?vq23) ?hq23 (by kernel_rfl) (by kernel_rfl) (by kernel_rfl) (fun _ _ _ h => h) ?wq23 (fun K wq hS hK => ?yq23) ?rq23
        case hq23 => simp only [List.getElem?_toArray, List.getElem?_cons_succ, List.getElem?_cons_zero]; rfl
        case wq23 => rfl
        case yq23 =>
          have HS := Lib.hid hS
          try dsimp only at hS
          go_simp
          exact hK.out _ HS.out
        try simp only [Act.put, List.setIfInBounds_toArray, List.set_cons_zero, List.set_cons_succ]
        refine seq_op 24 (oi := ?oq24) (v := ?vq24) ?hq24 (by kernel_rfl) (by kernel_rfl) (by kernel_rfl) (fun _ _ _ h => h) ?wq24 (fun K wq hS hK => ?yq24) ?rq24
        case hq24 => simp only [List.getElem?_toArray, List.getElem?_cons_succ, List.getElem?_cons_zero]; rfl
        case wq24 => rfl
        case yq24 =>
          have HS := Lib.hid hS
          have BX := E7.chg hS (fun h => h)
          have x0 := BX.cell 0
          have x1 := BX.cell 1
          have x2 := BX.cell 2
          have x3 := BX.cell 3
          have x4 := BX.cell 4
          have x5 := BX.cell 5
          have hzz := BX.lt
          clear hS
          go_simp
          have hS2 := HS.out
          exact hK.out _ hS2
        try simp only [Act.put, List.setIfInBounds_toArray, List.set_cons_zero, List.set_cons_succ]
        refine seq_op 25 (oi := ?oq25) (v := ?vq25) ?hq25 (by kernel_rfl) (by kernel_rfl) (by kernel_rfl) (fun _ _ _ h => h) ?wq25 (fun K wq hS hK => ?yq25) ?rq25
        case hq25 => simp only [List.getElem?_toArray, List.getElem?_cons_succ, List.getElem?_cons_zero]; rfl
        case wq25 => rfl
        case yq25 =>
          have HS := Lib.hid hS
          have HX := HE7.keep hS
          clear hS
          go_simp
          with_reducible refine (check_at HX HVE.out LE.out.1 LE.out.2.1 LE.out.2.2.1 LE.out.2.2.2.1 LE.out.2.2.2.2.1 LE.out.2.2.2.2.2).mono ?_
          rintro e w8 ⟨rfl, C8⟩
          have hS2 := HS.out.trans C8
          exact hK.out _ hS2
        try simp only [Act.put, List.setIfInBounds_toArray, List.set_cons_zero, List.set_cons_succ]
        refine seq_op 26 (oi := ?oq26) (v := ?vq26) ?hq26 (by kernel_rfl) (by kernel_rfl) (by kernel_rfl) (fun _ _ _ h => h) ?wq26 (fun K wq hS hK => ?yq26) ?rq26
        case hq26 => simp only [List.getElem?_toArray, List.getElem?_cons_succ, List.getElem?_cons_zero]; rfl
        case wq26 => rfl
        case yq26 =>
          have HS := Lib.hid hS
          clear hS
          go_simp
          refine (num_any _ _).mono ?_
          rintro e w8 ⟨rfl, rfl⟩
          have hS2 := HS.out
          exact hK.out _ hS2
        try simp only [Act.put, List.setIfInBounds_toArray, List.set_cons_zero, List.set_cons_succ]
        refine seq_op 27 (oi := ?oq27) (v := ?vq27) ?hq27 (by kernel_rfl) (by kernel_rfl) (by kernel_rfl) (fun _ _ _ h => h) ?wq27 (fun K wq hS hK => ?yq27) ?rq27
        case hq27 => simp only [List.getElem?_toArray, List.getElem?_cons_succ, List.getElem?_cons_zero]; rfl
        case wq27 => rfl
        case yq27 =>
          have HS := Lib.hid hS
          have BX := E7.chg hS (fun h => h)
          have x0 := BX.cell 0
          have x1 := BX.cell 1
          have x2 := BX.cell 2
          have x3 := BX.cell 3
          have x4 := BX.cell 4
          have x5 := BX.cell 5
          have hzz := BX.lt
          clear hS
          go_simp
          have hS2 := HS.out
          exact hK.out _ hS2
        try simp only [Act.put, List.setIfInBounds_toArray, List.set_cons_zero, List.set_cons_succ]
        refine seq_op 28 (oi := ?oq28) (v := ?vq28) ?hq28 (by kernel_rfl) (by kernel_rfl) (by kernel_rfl) (fun _ _ _ h => h) ?wq28 (fun K wq hS hK => ?yq28) ?rq28
        case hq28 => simp only [List.getElem?_toArray, List.getElem?_cons_succ, List.getElem?_cons_zero]; rfl
        case wq28 => rfl
        case yq28 =>
          have HS := Lib.hid hS
          have HX := HE7.keep hS
          clear hS
          go_simp
          with_reducible refine (rcheck_at HX HVE.out LE.out.1 LE.out.2.1 LE.out.2.2.1 LE.out.2.2.2.1 LE.out.2.2.2.2.1 LE.out.2.2.2.2.2).mono ?_
          rintro e w8 ⟨rfl, C8⟩
          have hS2 := HS.out.trans C8
          exact hK.out _ hS2
        try simp only [Act.put, List.setIfInBounds_toArray, List.set_cons_zero, List.set_cons_succ]
        refine seq_op 29 (oi := ?oq29) (v := ?vq29) ?hq29 (by kernel_rfl) (by kernel_rfl) (by kernel_rfl) (fun _ _ _ h => h) ?wq29 (fun K wq hS hK => ?yq29) ?rq29
        case hq29 => simp only [List.getElem?_toArray, List.getElem?_cons_succ, List.getElem?_cons_zero]; rfl
        case wq29 => rfl
        case yq29 =>
          have HS := Lib.hid hS
          try dsimp only at hS
          go_simp
          exact hK.out _ HS.out
        try simp only [Act.put, List.setIfInBounds_toArray, List.set_cons_zero, List.set_cons_succ]
        refine seq_op 30 (oi := ?oq30) (v := ?vq30) ?hq30 (by kernel_rfl) (by kernel_rfl) (by kernel_rfl) (fun _ _ _ h => h) ?wq30 (fun K wq hS hK => ?yq30) ?rq30
        case hq30 => simp only [List.getElem?_toArray, List.getElem?_cons_succ, List.getElem?_cons_zero]; rfl
        case wq30 => rfl
        case yq30 =>
          have HS := Lib.hid hS
          try dsimp only at hS
          go_simp
          exact hK.out _ HS.out
        try simp only [Act.put, List.setIfInBounds_toArray, List.set_cons_zero, List.set_cons_succ]
        refine seq_op 31 (oi := ?oq31) (v := ?vq31) ?hq31 (by kernel_rfl) (by kernel_rfl) (by kernel_rfl) (fun _ _ _ h => h) ?wq31 (fun K wq hS hK => ?yq31) ?rq31
        case hq31 => simp only [List.getElem?_toArray, List.getElem?_cons_succ, List.getElem?_cons_zero]; rfl
        case wq31 => rfl
        case yq31 =>
          have HS := Lib.hid hS
          try dsimp only at hS
          go_simp
          exact hK.out _ HS.out
        try simp only [Act.put, List.setIfInBounds_toArray, List.set_cons_zero, List.set_cons_succ]
        refine seq_done (by kernel_rfl) (fun wz hSz => ?_) _
        refine NoPanic.normal ?_
        go_wp2_with fail
        go_ret
        exact ⟨rfl, (((C1.trans C4').trans Cx).trans hSz).below_of (Nat.le_refl _) (fun _ h => h.elim)⟩

set_option maxRecDepth 100000 in
set_option maxHeartbeats 2000000 in
theorem twice_out (i j l : Int) (h : ¬ (0 ≤ i ∧ i ≤ 5 ∧ 0 ≤ j ∧ j ≤ 5 ∧ 0 ≤ l ∧ l ≤ 9)) (w : World) :
    Calls Try.prog 5 #[.int .i64 i, .int .i64 j, .int .i64 l] w fun e w' => e = .returned (.bool true) ∧ Below w.heap.size w w' := by
  go_enter Try.func5, Try.ntmps5
  go_wp2_with fail
  refine (alive_any _).mono ?_
  rintro e w1 ⟨rfl, C1⟩
  go_upto_if 38 with fail
  all_goals first
    | (exfalso; omega)
    | (go_wp2_with fail
       go_ret
       exact ⟨rfl, C1.below_of (Nat.le_refl _) (fun _ h => h.elim)⟩)

theorem twice_any (i j l : Int) (w : World) :
    Calls Try.prog 5 #[.int .i64 i, .int .i64 j, .int .i64 l] w fun e w' => e = .returned (.bool true) ∧ Below w.heap.size w w' := by
  by_cases h : 0 ≤ i ∧ i ≤ 5 ∧ 0 ≤ j ∧ j ≤ 5 ∧ 0 ≤ l ∧ l ≤ 9
  · obtain ⟨a, rfl⟩ := Int.eq_ofNat_of_zero_le h.1
    obtain ⟨b, rfl⟩ := Int.eq_ofNat_of_zero_le h.2.2.1
    obtain ⟨c, rfl⟩ := Int.eq_ofNat_of_zero_le h.2.2.2.2.1
    exact twice_in a b c (by omega) (by omega) (by omega) w
  · exact twice_out i j l h w
end Go.Proofs.Ytdhkbephofnfdaa

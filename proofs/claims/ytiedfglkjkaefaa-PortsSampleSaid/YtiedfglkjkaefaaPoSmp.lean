/- PortsSample: the walk (printed by gen_portssample.py). -/
import Derived.Test.YtiedfglkjkaefaaPoApart
import Derived.Deep.LoopGhost
namespace Go.Proofs.Ytiedfglkjkaefaa
open Go.RowKit Go.ChangeShapes Go.WideShapes Go.ChangeAt Go.Deep

/-- Bytes that a list of the law's argument holds. -/
structure BRec where
  ao : Option Addr
  m : Nat
  c : Nat
  xs : List Int
instance : Inhabited BRec := ⟨⟨none, 0, 0, []⟩⟩
def bvCells (b : BRec) : List Value := [.slice b.ao b.m b.c]
structure BOk (W : World) (b : BRec) : Prop where
  arg : Arg W b.ao b.m b.c b.xs
  mx : b.m ≤ maxLen
set_option maxRecDepth 100000 in
theorem open_bb {H : Type} {enc : TypeId × Value → H} {W : World} {base : Nat} {v : Value} {d : DataW H} {p : List MemPlace} (hv : Value.okWide Try.prog W .any base 40 v) (h : DataW.Trod enc Try.prog W 0 (fun _ => true) true 40 v d p) :
    ∃ (ao : Option Addr) (cap : Nat) (l : List BRec), v = .slice ao l.length cap ∧ Lst W ao l.length cap (l.flatMap bvCells) 1 ∧ (∀ b ∈ l, BOk W b) ∧ (∀ ad, ao = some ad → 0 < l.length → ad.block < W.heap.size) := by
  obtain ⟨fuel, hf⟩ := Trod_slice Try.underlying40 hv h
  obtain ⟨ao, cap, l, h1, h2, h3, h4⟩ := read_slice bvCells (BOk W) 1 (fun _ => rfl) (by decide) Try.underlying40 (by kernel_rfl) (fun fuel cs x hc ht => by
    match cs, hc with
    | [c0], _ =>
      obtain ⟨bo, bc, xs, rfl, hL, hbl, hxs⟩ := read_slice (fun x : Int => [Value.int .u8 x]) (fun x => 0 ≤ x ∧ x < 256) 1 (fun _ => rfl) (by decide) Try.underlying22 (by kernel_rfl) (fun _ _ _ hc ht => read_u8 hc ht) ht
      exact ⟨⟨bo, xs.length, bc, xs⟩, rfl, ⟨⟨rfl, by rw [← flat_u8]; exact hL.src, hbl, hxs⟩, Nat.le_trans hL.le hL.mx⟩⟩) hf
  exact ⟨ao, cap, l, h1, h2, h4, h3⟩

/-- The message that was written last. -/
def LastOk (W : World) (r : BRec) (y : List (List Int)) : Prop := (r.m = 0 ∧ r.ao = none ∧ r.c = 0 ∧ y = []) ∨ (1 ≤ r.m ∧ r.m ≤ 8 ∧ BOk W r ∧ y = [r.xs])
/-- What stands between two calls. -/
structure SmpAt (W : World) (n : Nat) (y : List (List Int)) (wr : World) : Prop where
  net : NetP wr (fun k => k < W.heap.size) n (twoL 8 2) (aq [] y [])
  chg : Chg W wr (fun k => ¬ k < W.heap.size)

/-- What Read leaves there. -/
def SmpRead (W : World) (n : Nat) (y : List (List Int)) (wr w' : World) (xs : List Int) (m : Nat) (r : Int) (e : Ending) : Prop := ∃ (ao : Option Addr) (cap : Nat), e = .returned (.tuple #[.slice ao m cap, .int .i64 r]) ∧ w'.ownsRow wr.heap.size 5 1 (.slice ao m cap) m (u8s xs) ∧ SmpAt W n y w'
theorem smp_read {W : World} {n : Nat} {xs : List Int} {m : Nat} {wr : World} (S : SmpAt W n [xs] wr) (hm : xs.length = m) (h : m ≤ 8) : Calls Try.prog 15 #[.pointer (some ⟨n, 0, none⟩), .int .i64 1, .int .i64 1, .int .i64 8] wr fun e w' => SmpRead W n [xs] wr w' xs m m e := by
  subst hm
  have e1 := ard1 (s := 8) (d := 2) (x := []) (m := xs) (r := []) (z := []) (most := 8) (by omega)
  refine (read_p S.net 1 1 8 (by decide) (by decide) e1.1 e1.2.1 e1.2.2).mono ?_
  rintro e w' ⟨a, c, P, rfl, O, N, C, hP, hPO⟩
  exact ⟨a, c, rfl, O, ⟨N.mono hP, S.chg.trans C⟩⟩
theorem smp_read0 {W : World} {n : Nat} {wr : World} (S : SmpAt W n [] wr) : Calls Try.prog 15 #[.pointer (some ⟨n, 0, none⟩), .int .i64 1, .int .i64 1, .int .i64 8] wr fun e w' => SmpRead W n [] wr w' [] 0 4294967293 e := by
  have e1 := ard1e (s := 8) (d := 2) (x := []) (z := []) (most := 8)
  refine (read_p S.net 1 1 8 (by decide) (by decide) e1.1 e1.2.1 e1.2.2).mono ?_
  rintro e w' ⟨a, c, P, rfl, O, N, C, hP, hPO⟩
  exact ⟨a, c, rfl, O, ⟨N.mono hP, S.chg.trans C⟩⟩
theorem smp_src {W : World} {n : Nat} {y : List (List Int)} {wr : World} (S : SmpAt W n y wr) {b : BRec} (B : BOk W b) : Src wr b.ao b.m b.c (u8s b.xs) 1 := src_chg0 B.arg.src S.chg (fun ad e h0 hn => hn (B.arg.old ad e h0))
theorem smp_write {W : World} {n : Nat} {y : List (List Int)} {wr : World} (S : SmpAt W n y wr) {b : BRec} (B : BOk W b) (h : 1 ≤ b.m ∧ b.m ≤ 8) : Calls Try.prog 13 #[.pointer (some ⟨n, 0, none⟩), .int .i64 0, .int .i64 1, .slice b.ao b.m b.c] wr fun e w' => e = .returned (.int .i64 0) ∧ SmpAt W n [b.xs] w' := by
  have hl := B.arg.len
  have e1 := awr1 (s := 8) (d := 2) (xs := b.xs) (x := []) (y := y) (z := []) (by omega) (by omega)
  refine (write_p S.net 0 1 (by decide) (by decide) b.m hl (smp_src S B) B.arg.byt (by omega) e1.1 e1.2).mono ?_
  rintro e w' ⟨rfl, N, C⟩
  exact ⟨rfl, ⟨N, S.chg.trans C⟩⟩
theorem smp_write_bad {W : World} {n : Nat} {y : List (List Int)} {wr : World} (S : SmpAt W n y wr) {b : BRec} (B : BOk W b) (h : ¬ (1 ≤ b.m ∧ b.m ≤ 8)) (hb : b.m ≤ 9223372036854775807) : Calls Try.prog 13 #[.pointer (some ⟨n, 0, none⟩), .int .i64 0, .int .i64 1, .slice b.ao b.m b.c] wr fun e w' => e = .returned (.int .i64 4294967294) ∧ SmpAt W n y w' := by
  have hl := B.arg.len
  have e1 := awr1b (s := 8) (d := 2) (xs := b.xs) (x := []) (y := y) (z := []) (by omega)
  refine (write_p S.net 0 1 (by decide) (by decide) b.m hl (smp_src S B) B.arg.byt hb e1.1 e1.2).mono ?_
  rintro e w' ⟨rfl, N, C⟩
  exact ⟨rfl, ⟨N, S.chg.trans C⟩⟩

set_option maxRecDepth 100000 in
set_option maxHeartbeats 4000000 in
theorem sample_in {al : Option Addr} {L cl : Nat} {l : List BRec} (reads : Nat) (W : World) (hL : l.length = L) (hl : Lst W al L cl (l.flatMap bvCells) 1) (hok : ∀ b ∈ l, BOk W b) (hold : ∀ ad, al = some ad → 0 < L → ad.block < W.heap.size) (h : L ≤ 50 ∧ 1 ≤ reads ∧ reads ≤ 20) :
    Calls Try.prog 4 #[.slice al L cl, .int .i64 reads] W fun e w' => e = .returned (.bool true) ∧ Below W.heap.size W w' := by
  obtain ⟨h1, h2, h3⟩ := h
  have b1 : decide ((50 : Int) < (L : Int)) = false := decide_eq_false (by omega)
  have b2 : decide ((reads : Int) < 1) = false := decide_eq_false (by omega)
  have b3 : decide ((20 : Int) < (reads : Int)) = false := decide_eq_false (by omega)
  have HLL := Lib.hid hL
  have HL := Lib.hid hl
  have HOK := Lib.hid hok
  have HOLD := Lib.hid hold
  clear hL hl hok hold
  go_enter Try.func4, Try.ntmps4
  go_wp2_with fail
  refine (alive18 _).mono ?_
  rintro e w1 ⟨rfl, C1⟩
  go_wp2_with fail
  refine (two_any 8 2 _).mono ?_
  rintro e w2 ⟨b, z, q, cap, rfl, A2, C2⟩
  have HN := new_p A2 (two_chk (by decide) (by decide)) rfl rfl rfl rfl rfl rfl
  clear A2
  go_wp2_with fail
  refine HN.mono ?_
  clear HN
  rintro e w3 ⟨n, rfl, N3, C3⟩
  have hs2 := (C1.trans C2).size
  rw [aq_none] at N3
  have HS3 : Hid (SmpAt W n [] w3) := ⟨N3.mono (fun k hk => Nat.lt_of_lt_of_le hk hs2), ((C1.trans C2).trans C3).mono (fun _ _ h => h.elim)⟩
  clear N3 C1 C2 C3 hs2 b1 b2 b3
  go_wp2_with (go_at_call 12; refine (num18_any _ _).mono ?_; rintro e w' ⟨rfl, rfl⟩)
  go_loopg [8, 9] L (fun g s8 s9 wr => ∃ (i : Nat) (r : BRec) (y : List (List Int)), g + i = L ∧ s9 = .int .i64 i ∧ s8 = .slice r.ao r.m r.c ∧ Hid (LastOk W r y) ∧ Hid (SmpAt W n y wr))
  case atStart => exact ⟨0, ⟨none, 0, 0, []⟩, [], rfl, rfl, rfl, .inl ⟨rfl, rfl, rfl, rfl⟩, HS3⟩
  case round =>
    obtain ⟨i, r, y, hi, rfl, rfl, HLa, HSi⟩ := hrel
    obtain ⟨gq, hgq⟩ : ∃ gq, gk = gq := ⟨_, rfl⟩
    have HI := Lib.hid hi
    rw [hgq] at HI
    have HGQ := Lib.hid hgq
    by_cases hlt : i < L
    · have hlt2 : i < l.length := by rw [HLL.out]; exact hlt
      have S0 := HL.out.chg HSi.out.chg (fun ad e hn => hn (HOLD.out ad e (by omega)))
      obtain ⟨gl, ol, hal⟩ := HL.out.pos (by omega)
      have HAL := Lib.hid hal
      rw [hal] at S0
      have c0 := Lst.cell0 (n := 1) (l := l) (f := bvCells) (fun _ => rfl) S0 i (by decide) hlt2 rfl
      rw [Nat.mul_one] at c0
      have HB := Lib.hid (HOK.out _ (List.getElem_mem hlt2))
      obtain ⟨x, hx⟩ : ∃ x, l[i] = x := ⟨_, rfl⟩
      rw [hx] at c0 HB
      have hmx := HB.out.mx
      unfold maxLen at hmx
      have HMX := Lib.hid hmx
      have HCL := Lib.hid (fun (w' : World) (C' : Chg W w' (fun k => ¬ k < W.heap.size)) => by
        have S1 := HL.out.chg C' (fun ad e hn => hn (HOLD.out ad e (by omega)))
        rw [hal] at S1
        have c1 := Lst.cell0 (n := 1) (l := l) (f := bvCells) (fun _ => rfl) S1 i (by decide) hlt2 rfl
        rw [Nat.mul_one] at c1
        rw [hx] at c1
        exact c1)
      rw [hal]
      clear S0 hal hx hi hgq
      by_cases hgood : 1 ≤ x.m ∧ x.m ≤ 8
      · obtain ⟨hg1, hg2⟩ := hgood
        have d1 : decide ((1 : Int) ≤ (x.m : Int)) = true := decide_eq_true (by omega)
        have d2 : decide ((x.m : Int) ≤ 8) = true := decide_eq_true (by omega)
        have d3 : ((x.m : Int) == 0) = false := by rw [beq_eq_false_iff_ne]; omega
        have HW := smp_write HSi.out HB.out ⟨hg1, hg2⟩
        go_wp2_with fail
        refine HW.mono ?_
        clear HW c0
        rintro e w4 ⟨rfl, S4⟩
        have c1 := HCL.out w4 S4.chg
        have HSw := Lib.hid S4
        have HML := Lib.hid HB.out.arg.len
        have HBr := HB
        clear S4
        go_wp2_with fail
        clear c1
        go_loopg [12] reads (fun g' s12 wi => ∃ k : Nat, g' + k = reads ∧ s12 = .int .i64 k ∧ Hid (SmpAt W n [x.xs] wi))
        case atStart => exact ⟨0, rfl, rfl, HSw⟩
        case round =>
          obtain ⟨k, hk, rfl, HSk⟩ := hrel
          have HK := Lib.hid hk
          by_cases hlt2 : k < reads
          · clear hk
            go_wp2_with fail
            refine (smp_read HSk.out HML.out (by omega)).mono ?_
            rintro e w5 ⟨a5, c5, rfl, O5, S5⟩
            have HS5 := Lib.hid S5
            have v1 := conv_src _ (own_src O5)
            have v2 := conv_src _ (smp_src S5 HBr.out)
            clear O5 S5
            go_wp2_with fail
            go_roundg (gk - 1)
            case measure => have := HK.out; omega
            case rel => exact ⟨k + 1, by have := HK.out; omega, by go_num, HS5⟩
          · obtain rfl : reads = k := by omega
            clear hk
            go_wp2_with fail
            rw [← HAL.out]
            go_roundg (gq - 1)
            case measure => have := HI.out; have := HGQ.out; omega
            case rel => exact ⟨i + 1, x, [x.xs], by have := HI.out; omega, by go_num, rfl, .inr ⟨hg1, hg2, HB.out, rfl⟩, HSk⟩
      · have HW := smp_write_bad HSi.out HB.out hgood (by have := HMX.out; omega)
        have hcase : (decide ((1 : Int) ≤ (x.m : Int)) = false) ∨ (decide ((1 : Int) ≤ (x.m : Int)) = true ∧ decide ((x.m : Int) ≤ 8) = false) := by
          by_cases h1 : 1 ≤ x.m
          · exact .inr ⟨decide_eq_true (by omega), decide_eq_false (by omega)⟩
          · exact .inl (decide_eq_false (by omega))
        clear hgood hmx
        rcases HLa.out with ⟨hr0, hr1, hr2, hy⟩ | ⟨hg1, hg2, HBr', hy⟩
        · subst hy
          obtain ⟨ra, rm, rc, rx⟩ := r
          dsimp only at hr0 hr1 hr2
          subst hr0 hr1 hr2
          rcases hcase with d1 | ⟨d1, d2⟩
          all_goals
            go_wp2_with fail
            refine HW.mono ?_
            clear HW c0
            rintro e w4 ⟨rfl, S4⟩
            have c1 := HCL.out w4 S4.chg
            have HSw := Lib.hid S4
            clear S4
            go_wp2_with fail
            clear c1
            go_loopg [12] reads (fun g' s12 wi => ∃ k : Nat, g' + k = reads ∧ s12 = .int .i64 k ∧ Hid (SmpAt W n [] wi))
            case atStart => exact ⟨0, rfl, rfl, HSw⟩
            case round =>
              obtain ⟨k, hk, rfl, HSk⟩ := hrel
              have HK := Lib.hid hk
              by_cases hlt2 : k < reads
              · clear hk
                go_wp2_with fail
                refine (smp_read0 HSk.out).mono ?_
                rintro e w5 ⟨a5, c5, rfl, O5, S5⟩
                have HS5 := Lib.hid S5
                clear O5 S5
                go_wp2_with fail
                go_roundg (gk - 1)
                case measure => have := HK.out; omega
                case rel => exact ⟨k + 1, by have := HK.out; omega, by go_num, HS5⟩
              · obtain rfl : reads = k := by omega
                clear hk
                go_wp2_with fail
                rw [← HAL.out]
                go_roundg (gq - 1)
                case measure => have := HI.out; have := HGQ.out; omega
                case rel => exact ⟨i + 1, ⟨none, 0, 0, rx⟩, [], by have := HI.out; omega, by go_num, rfl, HLa, HSk⟩
        · subst hy
          have HBr := Lib.hid HBr'
          have HML := Lib.hid HBr'.arg.len
          have d3 : ((r.m : Int) == 0) = false := by rw [beq_eq_false_iff_ne]; omega
          clear HBr'
          rcases hcase with d1 | ⟨d1, d2⟩
          all_goals
            go_wp2_with fail
            refine HW.mono ?_
            clear HW c0
            rintro e w4 ⟨rfl, S4⟩
            have c1 := HCL.out w4 S4.chg
            have HSw := Lib.hid S4
            clear S4
            go_wp2_with fail
            clear c1
            go_loopg [12] reads (fun g' s12 wi => ∃ k : Nat, g' + k = reads ∧ s12 = .int .i64 k ∧ Hid (SmpAt W n [r.xs] wi))
            case atStart => exact ⟨0, rfl, rfl, HSw⟩
            case round =>
              obtain ⟨k, hk, rfl, HSk⟩ := hrel
              have HK := Lib.hid hk
              by_cases hlt2 : k < reads
              · clear hk
                go_wp2_with fail
                refine (smp_read HSk.out HML.out (by omega)).mono ?_
                rintro e w5 ⟨a5, c5, rfl, O5, S5⟩
                have HS5 := Lib.hid S5
                have v1 := conv_src _ (own_src O5)
                have v2 := conv_src _ (smp_src S5 HBr.out)
                clear O5 S5
                go_wp2_with fail
                go_roundg (gk - 1)
                case measure => have := HK.out; omega
                case rel => exact ⟨k + 1, by have := HK.out; omega, by go_num, HS5⟩
              · obtain rfl : reads = k := by omega
                clear hk
                go_wp2_with fail
                rw [← HAL.out]
                go_roundg (gq - 1)
                case measure => have := HI.out; have := HGQ.out; omega
                case rel => exact ⟨i + 1, r, [r.xs], by have := HI.out; omega, by go_num, rfl, HLa, HSk⟩
    · obtain rfl : L = i := by omega
      have HN := messages_p HSi.out.net 1 (ams1 (s := 8) (d := 2) (x := []) (y := y) (z := []))
      clear hi hgq
      go_wp2_with fail
      refine HN.mono ?_
      rintro e w4 ⟨rfl, -, C4⟩
      clear HN
      go_wp2_with fail
      go_ret
      exact ⟨rfl, (HSi.out.chg.trans (C4.mono (fun _ _ h => h.elim))).below (Nat.le_refl _) (fun k hk h => h hk)⟩

set_option maxRecDepth 100000 in
set_option maxHeartbeats 4000000 in
theorem sample_out {al : Option Addr} {L cl : Nat} (reads : Int) (W : World) (h : ¬ (L ≤ 50 ∧ 1 ≤ reads ∧ reads ≤ 20)) :
    Calls Try.prog 4 #[.slice al L cl, .int .i64 reads] W fun e w' => e = .returned (.bool true) ∧ Below W.heap.size W w' := by
  have hcase : (decide ((50 : Int) < (L : Int)) = true) ∨ (decide ((50 : Int) < (L : Int)) = false ∧ decide (reads < 1) = true) ∨ (decide ((50 : Int) < (L : Int)) = false ∧ decide (reads < 1) = false ∧ decide (20 < reads) = true) := by
    by_cases h1 : 50 < L
    · exact .inl (decide_eq_true (by omega))
    · refine .inr ?_
      by_cases h2 : reads < 1
      · exact .inl ⟨decide_eq_false (by omega), decide_eq_true h2⟩
      · exact .inr ⟨decide_eq_false (by omega), decide_eq_false h2, decide_eq_true (by omega)⟩
  clear h
  rcases hcase with e1 | ⟨e1, e2⟩ | ⟨e1, e2, e3⟩
  all_goals
    go_enter Try.func4, Try.ntmps4
    go_wp2_with fail
    refine (alive18 _).mono ?_
    rintro e w1 ⟨rfl, C1⟩
    go_wp2_with fail
    go_ret
    exact ⟨rfl, C1.below (Nat.le_refl _) (fun _ _ h => h)⟩
end Go.Proofs.Ytiedfglkjkaefaa

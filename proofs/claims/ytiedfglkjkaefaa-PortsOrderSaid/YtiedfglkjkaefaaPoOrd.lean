/- PortsOrder: the walk (printed by gen_portsorder.py). -/
import Derived.Test.YtiedfglkjkaefaaPoApart
import Derived.Test.YtiedfglkjkaefaaBits
import Derived.Deep.LoopGhost
import Derived.Deep.QuietTactic
import Derived.BigQuiet
namespace Go.Proofs.Ytiedfglkjkaefaa
open Go.RowKit Go.ChangeShapes Go.WideShapes Go.ChangeAt Go.Deep

def boCells (b : Bool) : List Value := [.bool b]
set_option maxRecDepth 100000 in
theorem open_bools {H : Type} {enc : TypeId × Value → H} {W : World} {base : Nat} {v : Value} {d : DataW H} {p : List MemPlace} (hv : Value.okWide Try.prog W .any base 44 v) (h : DataW.Trod enc Try.prog W 0 (fun _ => true) true 44 v d p) :
    ∃ (ao : Option Addr) (cap : Nat) (l : List Bool), v = .slice ao l.length cap ∧ Lst W ao l.length cap (l.flatMap boCells) 1 ∧ (∀ ad, ao = some ad → 0 < l.length → ad.block < W.heap.size) := by
  obtain ⟨fuel, hf⟩ := Trod_slice Try.underlying44 hv h
  obtain ⟨ao, cap, l, h1, h2, h3, -⟩ := read_slice boCells (fun _ => True) 1 (fun _ => rfl) (by decide) Try.underlying44 (by kernel_rfl) (fun fuel cs x hc ht => by
    match cs, hc with
    | [c0], _ =>
      obtain ⟨z, rfl⟩ := read_bool Try.underlying4 ht
      exact ⟨z, rfl, trivial⟩) hf
  exact ⟨ao, cap, l, h1, h2, h3⟩

def msgN (k : Nat) : List Int := [(k : Int) % 256, (k : Int) / 256]
/-- The messages that wait. -/
def msgs (a b : Nat) : List (List Int) := (List.range' b (a - b)).map msgN
theorem or_8 (x y : Int) (h0 : 0 ≤ x) (h1 : x < 256) (h2 : 0 ≤ y) (h3 : y < 256) : bits .or .i64 x (y * 256) = x + y * 256 := by
  have hb := (bits_nat .i64 62 (by decide) (fun n _ _ => by rw [IntKind.wrap_i64]; omega) x.toNat (y * 256).toNat (by omega) (by omega)).2
  have hb2 := (bits_nat .i64 62 (by decide) (fun n _ _ => by rw [IntKind.wrap_i64]; omega) (y * 256).toNat x.toNat (by omega) (by omega)).2
  rw [Int.toNat_of_nonneg h0, Int.toNat_of_nonneg (by omega)] at hb hb2
  rw [hb, Nat.or_comm, ← hb2, bits_join .i64 62 (by decide) (fun n _ _ => by rw [IntKind.wrap_i64]; omega) 8 (y * 256) x (by omega) (by omega) (by omega) h0 h1 (by omega)]
  omega
theorem msgs_len (a b : Nat) : (msgs a b).length = a - b := by simp [msgs]
theorem msgs_nil (b : Nat) : msgs b b = [] := by simp [msgs]
theorem msgs_add {a b : Nat} (h : b ≤ a) : msgs a b ++ [msgN a] = msgs (a + 1) b := by
  unfold msgs
  rw [show a + 1 - b = (a - b) + 1 by omega, List.range'_concat, List.map_append, List.map_cons, List.map_nil, show b + 1 * (a - b) = a by omega]
theorem msgs_take {a b : Nat} (h : b < a) : msgs a b = msgN b :: msgs a (b + 1) := by
  unfold msgs
  rw [show a - b = (a - (b + 1)) + 1 by omega, List.range'_succ, List.map_cons]
theorem msg_byte {k : Nat} (h : k ≤ 300) : byteL (msgN k) := by
  intro x hx
  simp only [msgN, List.mem_cons, List.not_mem_nil, or_false] at hx
  rcases hx with rfl | rfl <;> omega

structure OrdAt (W : World) (n : Nat) (dp : Int) (a b : Nat) (wr : World) : Prop where
  net : NetP wr (fun k => k < W.heap.size) n (twoL 4 dp) (aq (msgs a b) [] [])
  chg : Chg W wr (fun k => ¬ k < W.heap.size)
theorem OrdAt.keep {W wr w' : World} {n a b : Nat} {dp : Int} (S : OrdAt W n dp a b wr) (C : Chg wr w' (fun _ => False)) : OrdAt W n dp a b w' := ⟨S.net.keep C, S.chg.trans (C.mono (fun _ _ h => h.elim))⟩
section
variable {W wr : World} {n a b : Nat} {dp : Int}
theorem ord_write (S : OrdAt W n dp a b wr) {ad : Addr} (hs : Src wr (some ad) 2 2 (u8s (msgN a)) 1) (hb : b ≤ a) (ha : a ≤ 300) (hd : (a : Int) - b < dp) : Calls Try.prog 13 #[.pointer (some ⟨n, 0, none⟩), .int .i64 0, .int .i64 0, .slice (some ad) 2 2] wr fun e w' => e = .returned (.int .i64 0) ∧ OrdAt W n dp (a + 1) b w' := by
  have e1 := awr0 (s := 4) (d := dp) (xs := msgN a) (x := msgs a b) (y := []) (z := []) (by show 0 < 2; omega) (by show ((2 : Nat) : Int) ≤ 4; omega) (by rw [msgs_len]; omega)
  rw [msgs_add hb] at e1
  refine (write_p S.net 0 0 (by decide) (by decide) 2 rfl hs (msg_byte ha) (by decide) e1.1 e1.2).mono ?_
  rintro e w' ⟨rfl, N, C⟩
  exact ⟨rfl, ⟨N, S.chg.trans C⟩⟩
theorem ord_full (S : OrdAt W n dp a b wr) {ad : Addr} (hs : Src wr (some ad) 2 2 (u8s (msgN a)) 1) (hb : b ≤ a) (ha : a ≤ 300) (hd : dp ≤ (a : Int) - b) : Calls Try.prog 13 #[.pointer (some ⟨n, 0, none⟩), .int .i64 0, .int .i64 0, .slice (some ad) 2 2] wr fun e w' => e = .returned (.int .i64 4294967293) ∧ OrdAt W n dp a b w' := by
  have e1 := awr0f (s := 4) (d := dp) (xs := msgN a) (x := msgs a b) (y := []) (z := []) (by show 0 < 2; omega) (by show ((2 : Nat) : Int) ≤ 4; omega) (by rw [msgs_len]; omega)
  refine (write_p S.net 0 0 (by decide) (by decide) 2 rfl hs (msg_byte ha) (by decide) e1.1 e1.2).mono ?_
  rintro e w' ⟨rfl, N, C⟩
  exact ⟨rfl, ⟨N, S.chg.trans C⟩⟩
def OrdRead (W : World) (n : Nat) (dp : Int) (a b : Nat) (wr w' : World) (xs : List Int) (m : Nat) (r : Int) (e : Ending) : Prop := ∃ (ao : Option Addr) (cap : Nat), e = .returned (.tuple #[.slice ao m cap, .int .i64 r]) ∧ w'.ownsRow wr.heap.size 5 1 (.slice ao m cap) m (u8s xs) ∧ OrdAt W n dp a b w'
theorem ord_read (S : OrdAt W n dp a b wr) (h : b < a) : Calls Try.prog 15 #[.pointer (some ⟨n, 0, none⟩), .int .i64 1, .int .i64 0, .int .i64 4] wr fun e w' => OrdRead W n dp a (b + 1) wr w' (msgN b) 2 2 e := by
  have e1 := ard0 (s := 4) (d := dp) (m := msgN b) (r := msgs a (b + 1)) (y := []) (z := []) (most := 4) (by show ((2 : Nat) : Int) ≤ 4; omega)
  have N0 := S.net
  rw [msgs_take h] at N0
  refine (read_p N0 1 0 4 (by decide) (by decide) e1.1 e1.2.1 e1.2.2).mono ?_
  rintro e w' ⟨ao, c, P, rfl, O, N, C, hP, hPO⟩
  exact ⟨ao, c, rfl, O, ⟨N.mono hP, S.chg.trans C⟩⟩
theorem ord_empty (S : OrdAt W n dp a a wr) : Calls Try.prog 15 #[.pointer (some ⟨n, 0, none⟩), .int .i64 1, .int .i64 0, .int .i64 4] wr fun e w' => OrdRead W n dp a a wr w' [] 0 4294967293 e := by
  have e1 := ard0e (s := 4) (d := dp) (y := []) (z := []) (most := 4)
  have N0 := S.net
  rw [msgs_nil] at N0
  refine (read_p N0 1 0 4 (by decide) (by decide) e1.1 e1.2.1 e1.2.2).mono ?_
  rintro e w' ⟨ao, c, P, rfl, O, N, C, hP, hPO⟩
  refine ⟨ao, c, rfl, O, ⟨?_, S.chg.trans C⟩⟩
  rw [msgs_nil]
  exact N.mono hP
theorem ord_ms1 (S : OrdAt W n dp a b wr) (hb : b ≤ a) {r : Int} (hr : (a : Int) - b = r) : Calls Try.prog 14 #[.pointer (some ⟨n, 0, none⟩), .int .i64 1] wr fun e w' => e = .returned (.int .i64 r) ∧ OrdAt W n dp a b w' :=
  (messages_p S.net 1 (by rw [ams1, msgs_len]; omega)).mono fun e w' ⟨h1, h2, h3⟩ => ⟨h1, S.keep h3⟩
theorem ord_ms0 (S : OrdAt W n dp a b wr) : Calls Try.prog 14 #[.pointer (some ⟨n, 0, none⟩), .int .i64 0] wr fun e w' => e = .returned (.int .i64 0) ∧ OrdAt W n dp a b w' :=
  (messages_p S.net 0 (ams0 (z := []))).mono fun e w' ⟨h1, h2, h3⟩ => ⟨h1, S.keep h3⟩
theorem ord_st (S : OrdAt W n dp a b wr) (hb : b ≤ a) {r : Int} (hr : (a : Int) - b = r) : Calls Try.prog 16 #[.pointer (some ⟨n, 0, none⟩), .int .i64 0, .int .i64 0] wr fun e w' => e = .returned (.int .i64 r) ∧ OrdAt W n dp a b w' :=
  (status_p S.net 0 0 (by decide) (by decide) (by rw [ast0, msgs_len]; omega)).mono fun e w' ⟨h1, h2, h3⟩ => ⟨h1, S.keep h3⟩
end

set_option maxRecDepth 100000 in
set_option maxHeartbeats 8000000 in
theorem order_in {al : Option Addr} {L cl : Nat} {l : List Bool} (dp : Int) (W : World) (hL : l.length = L) (hl : Lst W al L cl (l.flatMap boCells) 1) (hold : ∀ ad, al = some ad → 0 < L → ad.block < W.heap.size) (h : L ≤ 300 ∧ 1 ≤ dp ∧ dp ≤ 16) :
    Calls Try.prog 6 #[.int .i64 dp, .slice al L cl] W fun e w' => e = .returned (.bool true) ∧ Below W.heap.size W w' := by
  obtain ⟨h1, h2, h3⟩ := h
  have b1 : decide ((300 : Int) < (L : Int)) = false := decide_eq_false (by omega)
  have b2 : decide (dp < 1) = false := decide_eq_false (by omega)
  have b3 : decide (16 < dp) = false := decide_eq_false (by omega)
  have HLL := Lib.hid hL
  have HL := Lib.hid hl
  have HOLD := Lib.hid hold
  clear hL hl hold
  go_enter Try.func6, Try.ntmps6
  go_wp2_with fail
  refine (alive18 _).mono ?_
  rintro e w1 ⟨rfl, C1⟩
  go_wp2_with fail
  refine (two_any 4 dp _).mono ?_
  rintro e w2 ⟨b, z, q, cap, rfl, A2, C2⟩
  have HN := new_p A2 (two_chk (by decide) ⟨h2, h3⟩) rfl rfl rfl rfl rfl rfl
  clear A2
  go_wp2_with fail
  refine HN.mono ?_
  clear HN
  rintro e w3 ⟨n, rfl, N3, C3⟩
  have hs2 := (C1.trans C2).size
  rw [aq_none] at N3
  have HS3 : Hid (OrdAt W n dp 0 0 w3) := ⟨N3.mono (fun k hk => Nat.lt_of_lt_of_le hk hs2), ((C1.trans C2).trans C3).mono (fun _ _ h => h.elim)⟩
  clear N3 C1 C2 C3 hs2 b1 b2 b3
  go_wp2_with (go_at_call 12; refine (num18_any _ _).mono ?_; rintro e w' ⟨rfl, rfl⟩)
  go_loopg [8, 9, 10] L (fun g s8 s9 s10 wr => ∃ i a b : Nat, g + i = L ∧ s10 = .int .i64 i ∧ s8 = .int .i64 a ∧ s9 = .int .i64 b ∧ b ≤ a ∧ a ≤ i ∧ Hid (OrdAt W n dp a b wr))
  case atStart => exact ⟨0, 0, 0, rfl, rfl, rfl, rfl, Nat.le_refl _, Nat.le_refl _, HS3⟩
  case round =>
    obtain ⟨i, a, b, hi, rfl, rfl, rfl, hab, hai, HSi⟩ := hrel
    have HI := Lib.hid hi
    by_cases hlt : i < L
    · have hlt2 : i < l.length := by rw [HLL.out]; exact hlt
      have S0 := HL.out.chg HSi.out.chg (fun ad e hn => hn (HOLD.out ad e (by omega)))
      obtain ⟨gl, ol, hal⟩ := HL.out.pos (by omega)
      have HAL := Lib.hid hal
      rw [hal] at S0
      have c0 := Lst.cell0 (n := 1) (l := l) (f := boCells) (fun _ => rfl) S0 i (by decide) hlt2 rfl
      rw [Nat.mul_one] at c0
      obtain ⟨x, hx⟩ : ∃ x, l[i] = x := ⟨_, rfl⟩
      rw [hx] at c0
      rw [hal]
      have ha3 : a ≤ 300 := by omega
      have hd1 : (0 : Int) ≤ (a : Int) - b := by omega
      clear S0 hal hx hi
      cases x
      · by_cases hab2 : b < a
        · have d1 : decide ((b : Int) < (a : Int)) = true := decide_eq_true (by omega)
          have d2 : decide (b < a) = true := decide_eq_true hab2
          go_wp2_with fail
          refine (ord_read HSi.out hab2).mono ?_
          rintro e w4 ⟨ao, cap4, rfl, O4, S4⟩
          have HS4 := Lib.hid S4
          obtain ⟨g4, c4, hv4, -, -, hc4, -⟩ := own_block O4 (by decide)
          injection hv4 with hv4 _ hc4'
          subst hv4 hc4'
          have e0 := own_cells O4 0 (.int .u8 ((b : Int) % 256)) rfl
          have e1 := own_cells O4 1 (.int .u8 ((b : Int) / 256)) rfl
          have hor : bits .or .i64 ((b : Int) % 256) ((b : Int) / 256 * 256) = b := by rw [or_8 _ _ (by omega) (by omega) (by omega) (by omega)]; omega
          have hwr : IntKind.i64.wrap ((b : Int) / 256 * 256) = (b : Int) / 256 * 256 := IntWalk.i64_in _ (by omega)
          clear S4 O4
          go_wp2_with fail
          go_quiet (fail)
          clear hwr
          go_wp2_with fail
          replace HS4 := Lib.hid (HS4.out.keep ((Chg.refl w4 _).drewN nq))
          refine (ord_ms1 HS4.out (by omega) (show ((a : Nat) : Int) - ((b + 1 : Nat) : Int) = (a : Int) - ((b : Int) + 1) by omega)).mono ?_
          rintro e w5 ⟨rfl, S5⟩
          have HS5 := Lib.hid S5
          clear S5 HS4
          go_wp2_with fail
          refine (ord_st HS5.out (by omega) (show ((a : Nat) : Int) - ((b + 1 : Nat) : Int) = (a : Int) - ((b : Int) + 1) by omega)).mono ?_
          rintro e w6 ⟨rfl, S6⟩
          have HS6 := Lib.hid S6
          clear S6 HS5
          go_wp2_with fail
          refine (ord_ms0 HS6.out).mono ?_
          rintro e w7 ⟨rfl, S7⟩
          have HS7 := Lib.hid S7
          clear S7 HS6
          go_wp2_with fail
          rw [← HAL.out]
          go_roundg (gk - 1)
          case measure => have := HI.out; omega
          case rel => exact ⟨i + 1, a, b + 1, by have := HI.out; omega, by go_num, by first | rfl | go_num, by first | rfl | go_num, by omega, by omega, HS7⟩
        · obtain rfl : a = b := by omega
          have d1 : decide ((a : Int) < (a : Int)) = false := decide_eq_false (by omega)
          have d2 : decide (a < a) = false := decide_eq_false (by omega)
          go_wp2_with fail
          refine (ord_empty HSi.out).mono ?_
          rintro e w4 ⟨ao, cap4, rfl, O4, S4⟩
          have HS4 := Lib.hid S4
          clear S4 O4
          go_wp2_with fail
          refine (ord_ms1 HS4.out (by omega) (show ((a : Nat) : Int) - ((a : Nat) : Int) = (a : Int) - a by omega)).mono ?_
          rintro e w5 ⟨rfl, S5⟩
          have HS5 := Lib.hid S5
          clear S5 HS4
          go_wp2_with fail
          refine (ord_st HS5.out (by omega) (show ((a : Nat) : Int) - ((a : Nat) : Int) = (a : Int) - a by omega)).mono ?_
          rintro e w6 ⟨rfl, S6⟩
          have HS6 := Lib.hid S6
          clear S6 HS5
          go_wp2_with fail
          refine (ord_ms0 HS6.out).mono ?_
          rintro e w7 ⟨rfl, S7⟩
          have HS7 := Lib.hid S7
          clear S7 HS6
          go_wp2_with fail
          rw [← HAL.out]
          go_roundg (gk - 1)
          case measure => have := HI.out; omega
          case rel => exact ⟨i + 1, a, a, by have := HI.out; omega, by go_num, by first | rfl | go_num, by first | rfl | go_num, by omega, by omega, HS7⟩
      · have he := and255 (a : Int)
        have CA : Chg wr (wr.alloc (.cells #[.int .u8 ((a : Int) % 256), .int .u8 ((a : Int) / 256)] 5)) (fun _ => False) := (Chg.refl wr _).alloc _
        have SA : Src (wr.alloc (.cells #[.int .u8 ((a : Int) % 256), .int .u8 ((a : Int) / 256)] 5)) (some ⟨wr.heap.size, 0, none⟩) 2 2 (u8s (msgN a)) 1 := (Box.new wr 5 #[.int .u8 ((a : Int) % 256), .int .u8 ((a : Int) / 256)]).src 2 2 1 _ rfl rfl
        have HSA := Lib.hid SA
        have HSK := Lib.hid (HSi.out.keep CA)
        clear CA SA
        by_cases hfree : (a : Int) - b < dp
        · go_wp2_with fail
          refine (ord_write HSK.out HSA.out hab ha3 hfree).mono ?_
          rintro e w4 ⟨rfl, S4⟩
          have HS4 := Lib.hid S4
          clear S4
          go_wp2_with fail
          refine (ord_ms1 HS4.out (by omega) (show ((a + 1 : Nat) : Int) - ((b : Nat) : Int) = (a : Int) + 1 - b by omega)).mono ?_
          rintro e w5 ⟨rfl, S5⟩
          have HS5 := Lib.hid S5
          clear S5 HS4
          go_wp2_with fail
          refine (ord_st HS5.out (by omega) (show ((a + 1 : Nat) : Int) - ((b : Nat) : Int) = (a : Int) + 1 - b by omega)).mono ?_
          rintro e w6 ⟨rfl, S6⟩
          have HS6 := Lib.hid S6
          clear S6 HS5
          go_wp2_with fail
          refine (ord_ms0 HS6.out).mono ?_
          rintro e w7 ⟨rfl, S7⟩
          have HS7 := Lib.hid S7
          clear S7 HS6
          go_wp2_with fail
          rw [← HAL.out]
          go_roundg (gk - 1)
          case measure => have := HI.out; omega
          case rel => exact ⟨i + 1, a + 1, b, by have := HI.out; omega, by go_num, by first | rfl | go_num, by first | rfl | go_num, by omega, by omega, HS7⟩
        · have hfull : dp ≤ (a : Int) - b := by omega
          go_wp2_with fail
          refine (ord_full HSK.out HSA.out hab ha3 hfull).mono ?_
          rintro e w4 ⟨rfl, S4⟩
          have HS4 := Lib.hid S4
          clear S4
          go_wp2_with fail
          refine (ord_ms1 HS4.out (by omega) (show ((a : Nat) : Int) - ((b : Nat) : Int) = (a : Int) - b by omega)).mono ?_
          rintro e w5 ⟨rfl, S5⟩
          have HS5 := Lib.hid S5
          clear S5 HS4
          go_wp2_with fail
          refine (ord_st HS5.out (by omega) (show ((a : Nat) : Int) - ((b : Nat) : Int) = (a : Int) - b by omega)).mono ?_
          rintro e w6 ⟨rfl, S6⟩
          have HS6 := Lib.hid S6
          clear S6 HS5
          go_wp2_with fail
          refine (ord_ms0 HS6.out).mono ?_
          rintro e w7 ⟨rfl, S7⟩
          have HS7 := Lib.hid S7
          clear S7 HS6
          go_wp2_with fail
          rw [← HAL.out]
          go_roundg (gk - 1)
          case measure => have := HI.out; omega
          case rel => exact ⟨i + 1, a, b, by have := HI.out; omega, by go_num, by first | rfl | go_num, by first | rfl | go_num, by omega, by omega, HS7⟩
    · obtain rfl : L = i := by omega
      clear hi
      go_wp2_with fail
      go_ret
      exact ⟨rfl, HSi.out.chg.below (Nat.le_refl _) (fun k hk h => h hk)⟩

set_option maxRecDepth 100000 in
set_option maxHeartbeats 4000000 in
theorem order_out {al : Option Addr} {L cl : Nat} (dp : Int) (W : World) (h : ¬ (L ≤ 300 ∧ 1 ≤ dp ∧ dp ≤ 16)) :
    Calls Try.prog 6 #[.int .i64 dp, .slice al L cl] W fun e w' => e = .returned (.bool true) ∧ Below W.heap.size W w' := by
  have hcase : (decide (dp < 1) = true) ∨ (decide (dp < 1) = false ∧ decide (16 < dp) = true) ∨ (decide (dp < 1) = false ∧ decide (16 < dp) = false ∧ decide ((300 : Int) < (L : Int)) = true) := by
    by_cases h1 : dp < 1
    · exact .inl (decide_eq_true h1)
    · refine .inr ?_
      by_cases h2 : 16 < dp
      · exact .inl ⟨decide_eq_false h1, decide_eq_true h2⟩
      · exact .inr ⟨decide_eq_false h1, decide_eq_false h2, decide_eq_true (by omega)⟩
  clear h
  rcases hcase with e1 | ⟨e1, e2⟩ | ⟨e1, e2, e3⟩
  all_goals
    go_enter Try.func6, Try.ntmps6
    go_wp2_with fail
    refine (alive18 _).mono ?_
    rintro e w1 ⟨rfl, C1⟩
    go_wp2_with fail
    go_ret
    exact ⟨rfl, C1.below (Nat.le_refl _) (fun _ _ h => h)⟩
end Go.Proofs.Ytiedfglkjkaefaa

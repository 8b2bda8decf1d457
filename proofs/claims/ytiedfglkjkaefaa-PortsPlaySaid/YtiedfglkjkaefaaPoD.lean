/- ports: contracts on a Net whose insides nobody names. -/
import Derived.Test.YtiedfglkjkaefaaPoC
import Derived.Test.YtiedfglkjkaefaaStay
import Derived.Lib.SlBytesConst
namespace Go.Proofs.Ytiedfglkjkaefaa
open Go.RowKit

/-- A Net at block n, with channels l and messages Q; the blocks of P are others'. -/
def NetP (w : World) (P : Nat → Prop) (n : Nat) (l : List ChanD) (Q : Que) : Prop := ∃ (D : NetD) (F : Nat → Prop) (vs : Nat → Value), D.n = n ∧ D.l = l ∧ NetAt w F D Q vs ∧ ∀ k, P k → k < w.heap.size ∧ ¬ F k

section
variable {w w' : World} {P P' R : Nat → Prop} {n : Nat} {l : List ChanD} {Q : Que}
theorem NetP.keep (h : NetP w P n l Q) (c : Chg w w' (fun _ => False)) : NetP w' P n l Q := by
  obtain ⟨D, F, vs, h1, h2, N, h3⟩ := h
  exact ⟨D, F, vs, h1, h2, N.chg c (fun _ _ h => h), fun k hk => ⟨Nat.lt_of_lt_of_le (h3 k hk).1 c.size, (h3 k hk).2⟩⟩
theorem NetP.far (h : NetP w P n l Q) (c : Chg w w' R) (hR : ∀ k, R k → P k) : NetP w' P n l Q := by
  obtain ⟨D, F, vs, h1, h2, N, h3⟩ := h
  exact ⟨D, F, vs, h1, h2, N.chg c (fun k hk hr => (h3 k (hR k hr)).2 hk), fun k hk => ⟨Nat.lt_of_lt_of_le (h3 k hk).1 c.size, (h3 k hk).2⟩⟩
theorem NetP.mono (h : NetP w P n l Q) (hP : ∀ k, P' k → P k) : NetP w P' n l Q := by
  obtain ⟨D, F, vs, h1, h2, N, h3⟩ := h
  exact ⟨D, F, vs, h1, h2, N, fun k hk => h3 k (hP k hk)⟩
/-- What is made behind it is others'. -/
theorem NetP.adopt (h : NetP w P n l Q) (c : Chg w w' R) (hR : ∀ k, R k → P k) (hP : ∀ k, P' k → P k ∨ (w.heap.size ≤ k ∧ k < w'.heap.size)) : NetP w' P' n l Q := by
  obtain ⟨D, F, vs, h1, h2, N, h3⟩ := h
  refine ⟨D, F, vs, h1, h2, N.chg c (fun k hk hr => (h3 k (hR k hr)).2 hk), fun k hk => ?_⟩
  rcases hP k hk with h | h
  · exact ⟨Nat.lt_of_lt_of_le (h3 k h).1 c.size, (h3 k h).2⟩
  · exact ⟨h.2, fun hf => by have := N.lt k hf; omega⟩
theorem NetP.lt (h : NetP w P n l Q) : n < w.heap.size := by
  obtain ⟨D, F, vs, h1, h2, N, h3⟩ := h
  rw [← h1]
  exact N.box.lt
theorem NetP.ok (h : NetP w P n l Q) : l.length ≤ 16 ∧ ∀ i, (hi : i < l.length) → ChOk l[i] ∧ QuOk l[i] (Q i) := by
  obtain ⟨D, F, vs, h1, h2, N, h3⟩ := h
  subst h2
  exact ⟨N.max, fun i hi => ⟨(N.ch i hi).ok, (N.ch i hi).qk⟩⟩

/-- What New leaves, for its caller. -/
def NewP (w w' : World) (l : List ChanD) (e : Ending) : Prop := ∃ n, e = .returned (.tuple #[.pointer (some ⟨n, 0, none⟩), .int .i64 0]) ∧ NetP w' (fun k => k < w.heap.size) n l (fun _ => []) ∧ Chg w w' (fun _ => False)
theorem new_p {C : Cfg} {ap ac aw : Option Addr} {cp cc cw : Nat} (h : CfgAt w C ap ac aw cp cc cw) {pg mj sw : Int} {np nc nw : Nat} (hv : chk C = 0) (h1 : C.pages = pg) (h2 : C.major = mj) (h3 : C.switch = sw) (ha : C.parts.length = np) (hb : C.chans.length = nc) (hc : C.wins.length = nw) :
    Calls Try.prog 10 #[.agg #[.int .i64 pg, .int .i64 mj, .int .i64 sw, .slice ap np cp, .slice ac nc cc, .slice aw nw cw]] w fun e w' => NewP w w' C.chans e := by
  refine (new_yes h hv h1 h2 h3 ha hb hc).mono ?_
  rintro e w' ⟨F, D, hl, rfl, N, C', hF⟩
  exact ⟨D.n, rfl, ⟨D, F, _, rfl, hl, N, fun k hk => ⟨Nat.lt_of_lt_of_le hk C'.size, fun hf => by have := hF k hf; omega⟩⟩, C'⟩

theorem write_p (h : NetP w P n l Q) (part port : Int) (h1 : -9223372036854775808 ≤ port) (h2 : port ≤ 9223372036854775807) {ao : Option Addr} {c : Nat} {xs : List Int} (m : Nat) (hl : xs.length = m) (hS : Src w ao m c (u8s xs) 1) (hb : byteL xs) (hm : m ≤ 9223372036854775807) {r : Int} {Q' : Que} (hr : wrC l Q part port xs.length = r) (hq : wrQ l Q part port xs = Q') :
    Calls Try.prog 13 #[.pointer (some ⟨n, 0, none⟩), .int .i64 part, .int .i64 port, .slice ao m c] w fun e w' => e = .returned (.int .i64 r) ∧ NetP w' P n l Q' ∧ Chg w w' (fun k => ¬ P k) := by
  obtain ⟨D, F, vs, rfl, rfl, N, h3⟩ := h
  refine (write_any N part port h1 h2 m hl hS hb hm).mono ?_
  rintro e w' ⟨rfl, ⟨F', vs', N', hF⟩, C⟩
  subst hr hq
  refine ⟨rfl, ⟨D, F', vs', rfl, rfl, N', fun k hk => ⟨Nat.lt_of_lt_of_le (h3 k hk).1 C.size, fun hf => ?_⟩⟩, C.mono (fun k _ hf hp => (h3 k hp).2 hf)⟩
  rcases hF k hf with h | h
  · exact (h3 k hk).2 h
  · have := (h3 k hk).1; omega

/-- What Read leaves, for its caller. -/
def ReadP (w w' : World) (P : Nat → Prop) (n : Nat) (l : List ChanD) (Q' : Que) (xs : List Int) (r : Int) (e : Ending) : Prop := ∃ (ao : Option Addr) (cap : Nat) (P' : Nat → Prop), e = .returned (.tuple #[.slice ao xs.length cap, .int .i64 r]) ∧ w'.ownsRow w.heap.size 5 1 (.slice ao xs.length cap) xs.length (u8s xs) ∧
  NetP w' P' n l Q' ∧ Chg w w' (fun k => ¬ P k) ∧ (∀ k, P k → P' k) ∧ (∀ k, (Value.slice ao xs.length cap).ownBlock = some k → P' k)
theorem read_p (h : NetP w P n l Q) (part port most : Int) (h1 : -9223372036854775808 ≤ port) (h2 : port ≤ 9223372036854775807) {r : Int} {Q' : Que} {xs : List Int} (hr : rdC l Q part port most = r) (hq : rdQ l Q part port most = Q') (hx : rdB l Q part port most = xs) :
    Calls Try.prog 15 #[.pointer (some ⟨n, 0, none⟩), .int .i64 part, .int .i64 port, .int .i64 most] w fun e w' => ReadP w w' P n l Q' xs r e := by
  obtain ⟨D, F, vs, rfl, rfl, N, h3⟩ := h
  refine (read_any N part port most h1 h2).mono ?_
  rintro e w' ⟨ao, cap, rfl, O, ⟨vs', N'⟩, C⟩
  subst hr hq hx
  refine ⟨ao, cap, fun k => P k ∨ (Value.slice ao (rdB D.l Q part port most).length cap).ownBlock = some k, rfl, O, ⟨D, F, vs', rfl, rfl, N', fun k hk => ?_⟩, C.mono (fun k _ hf hp => (h3 k hp).2 hf), fun k hk => .inl hk, fun k hk => .inr hk⟩
  rcases hk with hk | hk
  · exact ⟨Nat.lt_of_lt_of_le (h3 k hk).1 C.size, (h3 k hk).2⟩
  · exact ⟨(O.lt k hk).2, fun hf => by have := N.lt k hf; have := (O.lt k hk).1; omega⟩

theorem status_p (h : NetP w P n l Q) (part port : Int) (h1 : -9223372036854775808 ≤ port) (h2 : port ≤ 9223372036854775807) {r : Int} (hr : stC l Q part port = r) :
    Calls Try.prog 16 #[.pointer (some ⟨n, 0, none⟩), .int .i64 part, .int .i64 port] w fun e w' => e = .returned (.int .i64 r) ∧ NetP w' P n l Q ∧ Chg w w' (fun _ => False) := by
  have h0 := h
  obtain ⟨D, F, vs, rfl, rfl, N, h3⟩ := h
  subst hr
  exact (status_any N part port h1 h2).mono fun e w' ⟨he, C⟩ => ⟨he, h0.keep C, C⟩
theorem messages_p (h : NetP w P n l Q) (part : Int) {r : Int} (hr : msK l Q part l.length = r) :
    Calls Try.prog 14 #[.pointer (some ⟨n, 0, none⟩), .int .i64 part] w fun e w' => e = .returned (.int .i64 r) ∧ NetP w' P n l Q ∧ Chg w w' (fun _ => False) := by
  have h0 := h
  obtain ⟨D, F, vs, rfl, rfl, N, h3⟩ := h
  subst hr
  exact (messages_any N part).mono fun e w' ⟨he, C⟩ => ⟨he, h0.keep C, C⟩
end

theorem num18_any (n : Int) (w : World) : Calls Try.prog 12 #[.int .i64 n] w fun e w' => e = .returned (.int .i64 n) ∧ w = w' := by
  go_enter Try.func12, Try.ntmps12
  go_wp2
  go_ret
  exact ⟨rfl, rfl⟩

/-- What a write to a channel of Two does. -/
theorem two_wrQ {s d : Int} {Q : Que} {xs : List Int} {i : Nat} {part port : Int} (hp : portV (twoL s d) part port = i) (hi : i < (twoL s d).length) (hs : (twoL s d)[i].src = part) (hz : (twoL s d)[i].size = s) (hk : (twoL s d)[i].kind = 1) (hd : (twoL s d)[i].depth = d) (h0 : 0 < xs.length) (h1 : (xs.length : Int) ≤ s) :
    (d ≤ ((Q i).length : Int) → wrC (twoL s d) Q part port xs.length = 4294967293 ∧ wrQ (twoL s d) Q part port xs = Q) ∧ (((Q i).length : Int) < d → wrC (twoL s d) Q part port xs.length = 0 ∧ wrQ (twoL s d) Q part port xs = qSet Q i (Q i ++ [xs])) := by
  have := ((wr_at (Q := Q) (xs := xs) hp hi hs).2 (by rw [hz]; omega)).2 hk
  rw [hd] at this
  exact this
theorem two_wr0 {s d : Int} {Q : Que} {xs : List Int} (h0 : 0 < xs.length) (h1 : (xs.length : Int) ≤ s) (h2 : ((Q 0).length : Int) < d) : wrC (twoL s d) Q 0 0 xs.length = 0 ∧ wrQ (twoL s d) Q 0 0 xs = qSet Q 0 (Q 0 ++ [xs]) :=
  (two_wrQ (i := 0) (part := 0) (port := 0) rfl (show 0 < 3 by decide) rfl rfl rfl rfl h0 h1).2 h2
theorem two_wr0f {s d : Int} {Q : Que} {xs : List Int} (h0 : 0 < xs.length) (h1 : (xs.length : Int) ≤ s) (h2 : d ≤ ((Q 0).length : Int)) : wrC (twoL s d) Q 0 0 xs.length = 4294967293 ∧ wrQ (twoL s d) Q 0 0 xs = Q :=
  (two_wrQ (i := 0) (part := 0) (port := 0) rfl (show 0 < 3 by decide) rfl rfl rfl rfl h0 h1).1 h2
theorem two_wr2 {s d : Int} {Q : Que} {xs : List Int} (h0 : 0 < xs.length) (h1 : (xs.length : Int) ≤ s) (h2 : ((Q 2).length : Int) < d) : wrC (twoL s d) Q 1 2 xs.length = 0 ∧ wrQ (twoL s d) Q 1 2 xs = qSet Q 2 (Q 2 ++ [xs]) :=
  (two_wrQ (i := 2) (part := 1) (port := 2) rfl (show 2 < 3 by decide) rfl rfl rfl rfl h0 h1).2 h2
theorem two_wr1 {s d : Int} {Q : Que} {xs : List Int} (h0 : 0 < xs.length) (h1 : (xs.length : Int) ≤ s) : wrC (twoL s d) Q 0 1 xs.length = 0 ∧ wrQ (twoL s d) Q 0 1 xs = qSet Q 1 [xs] :=
  ((wr_at (l := twoL s d) (Q := Q) (xs := xs) (i := 1) (part := 0) (port := 1) rfl (show 1 < 3 by decide) rfl).2 (by show ¬ (_ ∨ s < _); omega)).1 rfl
theorem two_bad {s d : Int} {Q : Que} {xs : List Int} {i : Nat} {part port : Int} (hp : portV (twoL s d) part port = i) (hi : i < (twoL s d).length) (hs : (twoL s d)[i].src = part) (hz : (twoL s d)[i].size = s) (h : xs.length = 0 ∨ s < (xs.length : Int)) : wrC (twoL s d) Q part port xs.length = 4294967294 ∧ wrQ (twoL s d) Q part port xs = Q :=
  (wr_at (Q := Q) (xs := xs) hp hi hs).1 (by rw [hz]; exact h)
theorem two_ms0 (s d : Int) (Q : Que) : msK (twoL s d) Q 0 (twoL s d).length = ((Q 2).length : Int) := by
  show ((((0 : Int) + if (chD (twoL s d) 0).dst = 0 ∧ (chD (twoL s d) 0).kind = 1 then ((Q 0).length : Int) else 0) + if (chD (twoL s d) 1).dst = 0 ∧ (chD (twoL s d) 1).kind = 1 then ((Q 1).length : Int) else 0) + if (chD (twoL s d) 2).dst = 0 ∧ (chD (twoL s d) 2).kind = 1 then ((Q 2).length : Int) else 0) = _
  rw [if_neg (by show ¬ ((1 : Int) = 0 ∧ (1 : Int) = 1); decide), if_neg (by show ¬ ((1 : Int) = 0 ∧ (0 : Int) = 1); decide), if_pos (by show ((0 : Int) = 0 ∧ (1 : Int) = 1); decide)]
  omega
theorem two_ms1 (s d : Int) (Q : Que) : msK (twoL s d) Q 1 (twoL s d).length = ((Q 0).length : Int) := by
  show ((((0 : Int) + if (chD (twoL s d) 0).dst = 1 ∧ (chD (twoL s d) 0).kind = 1 then ((Q 0).length : Int) else 0) + if (chD (twoL s d) 1).dst = 1 ∧ (chD (twoL s d) 1).kind = 1 then ((Q 1).length : Int) else 0) + if (chD (twoL s d) 2).dst = 1 ∧ (chD (twoL s d) 2).kind = 1 then ((Q 2).length : Int) else 0) = _
  rw [if_pos (by show ((1 : Int) = 1 ∧ (1 : Int) = 1); decide), if_neg (by show ¬ ((1 : Int) = 1 ∧ (0 : Int) = 1); decide), if_neg (by show ¬ ((0 : Int) = 1 ∧ (1 : Int) = 1); decide)]
  omega

/-- A constant's bytes. -/
theorem src_const (w : World) (xs : List Int) (m : Nat) (mk : Nat × Nat) (h : xs.length = m) : Src (w.alloc (.cells (u8s xs).toArray 5 mk)) (some ⟨w.heap.size, 0, none⟩) m m (u8s xs) 1 :=
  row_src (heap_alloc_new w _) m m 1 _ (by simp) (by simp [u8s, h])
theorem conv_const1 (b : Int) (w : World) : (convert 22 22 (.slice (some ⟨w.heap.size, 0, none⟩) 1 1)).run Try.prog (w.alloc (.cells #[.int .u8 b] 5)) = .ok (.slice (some ⟨w.heap.size, 0, none⟩) 1 1) (w.alloc (.cells #[.int .u8 b] 5 (1, 2))) :=
  Lib.run_convert_bytes_const w 22 5 #[.int .u8 b] 1 1 Try.underlying22 Try.underlying5
def q0 : Que := fun _ => []

set_option maxRecDepth 100000 in
set_option maxHeartbeats 1000000 in
theorem alive18 (w : World) : Calls Try.prog 9 #[] w fun e w' => e = .returned (.bool true) ∧ Chg w w' (fun _ => False) := by
  go_enter Try.func9, Try.ntmps9
  go_wp2_with fail
  refine (two_any 4 1 _).mono ?_
  rintro e w1 ⟨b, z, q, cap, rfl, A1, C1⟩
  have HN := new_p A1 (two_chk (by decide) (by decide)) rfl rfl rfl rfl rfl rfl
  go_wp2_with fail
  refine HN.mono ?_
  clear HN A1
  rintro e w2 ⟨n, rfl, N2, C2⟩
  have HN2 := Lib.hid (N2.keep ((Chg.refl w2 _).alloc (.cells #[.int .u8 97] 5 (1, 2))))
  have HS := Lib.hid (src_const w2 [97] 1 (1, 2) rfl)
  have hcv := conv_const1 97 w2
  have HC2 := Lib.hid (C1.trans C2)
  have hsz := C1.size
  clear N2 C1 C2
  go_wp2_with (go_at_call 12; refine (num18_any _ _).mono ?_; rintro e w' ⟨rfl, rfl⟩)
  have e1 := two_wr0 (s := 4) (d := 1) (Q := fun _ => []) (xs := [97]) (by decide) (by decide) (by decide)
  refine (write_p HN2.out 0 0 (by decide) (by decide) 1 rfl HS.out (by intro x hx; rw [List.mem_singleton] at hx; subst hx; decide) (by decide) e1.1 e1.2).mono ?_
  rintro e w3 ⟨rfl, N3, C3⟩
  have HC3 := Lib.hid ((HC2.out.alloc (.cells #[.int .u8 97] 5 (1, 2))).trans' C3 (fun k hk h => h (Nat.lt_of_lt_of_le hk hsz)))
  have HN3 := Lib.hid (N3.keep ((Chg.refl w3 _).alloc (.cells #[.int .u8 98] 5 (1, 2))))
  have HS3 := Lib.hid (src_const w3 [98] 1 (1, 2) rfl)
  have hcv3 := conv_const1 98 w3
  clear N3 C3 e1
  go_wp2_with fail
  have e2 := two_wr0f (s := 4) (d := 1) (Q := qSet (fun _ => []) 0 ([] ++ [[97]])) (xs := [98]) (by decide) (by decide) (by decide)
  refine (write_p HN3.out 0 0 (by decide) (by decide) 1 rfl HS3.out (by intro x hx; rw [List.mem_singleton] at hx; subst hx; decide) (by decide) e2.1 e2.2).mono ?_
  rintro e w4 ⟨rfl, N4, C4⟩
  have HC4 := Lib.hid ((HC3.out.alloc (.cells #[.int .u8 98] 5 (1, 2))).trans' C4 (fun k hk h => h (Nat.lt_of_lt_of_le hk hsz)))
  have HN4 := Lib.hid N4
  clear N4 C4 e2
  go_wp2_with fail
  refine (messages_p HN4.out 1 (two_ms1 4 1 _)).mono ?_
  rintro e w5 ⟨rfl, -, C5⟩
  go_wp2_with fail
  go_ret
  exact ⟨rfl, HC4.out.trans C5⟩
end Go.Proofs.Ytiedfglkjkaefaa

/- HealthSees: the walk. -/
import Derived.Test.YtdhkbephofnfdaaHRSee
import Derived.Test.YtdhkbephofnfdaaHMany
import Derived.Test.YtdhkbephofnfdaaBig
namespace Go.Proofs.Ytdhkbephofnfdaa
open Go.RowKit

structure LookD where
  tick : Int
  part : Int
  halt : Bool
  stuck : Bool
instance : Inhabited LookD := ⟨⟨0, 0, false, false⟩⟩
def lookCells (x : LookD) : List Value := [.int .i64 x.tick, .int .i64 x.part, .bool x.halt, .bool x.stuck]

theorem RAt.lt {w : World} {B : Nat → Prop} {h : Nat} {C : Cfg} {ap ac aw : Option Addr} {cp cc cw : Nat} {S : HS} (r : RAt w B h C ap ac aw cp cc cw S) : RAt w (fun k => B k ∧ k < w.heap.size) h C ap ac aw cp cc cw S := by
  obtain ⟨al, an, ag, cl, cn, cg, r⟩ := r
  exact ⟨al, an, ag, cl, cn, cg, r.box, r.evs, r.cnt, r.gone, ⟨r.bh, r.box.lt⟩, fun b e => ⟨r.be b e, (r.evs.lt b e).2⟩, fun b e => ⟨r.bn b e, (r.cnt.lt b e).2⟩, fun b e => ⟨r.bg b e, (r.gone.lt b e).2⟩, r.le, r.act⟩

/-- Both monitors, apart. -/
structure Two (w0 w : World) (B1 B2 : Nat → Prop) (g h : Nat) (C : Cfg) (ap ac aw : Option Addr) (cp cc cw : Nat) (S : HS) : Prop where
  m : MonAt w B1 g S
  r : RAt w B2 h C ap ac aw cp cc cw S
  apart : ∀ k, B1 k → ¬ B2 k
  lt1 : ∀ k, B1 k → w0.heap.size ≤ k ∧ k < w.heap.size
  lt2 : ∀ k, B2 k → w0.heap.size ≤ k ∧ k < w.heap.size
theorem Two.chg {w0 w w' : World} {B1 B2 P : Nat → Prop} {g h : Nat} {C : Cfg} {ap ac aw : Option Addr} {cp cc cw : Nat} {S : HS} (t : Two w0 w B1 B2 g h C ap ac aw cp cc cw S) (c : Chg w w' P) (hp : ∀ k, P k → w.heap.size ≤ k) : Two w0 w' B1 B2 g h C ap ac aw cp cc cw S :=
  ⟨t.m.chg c (fun k hk hb => by have := hp k hk; have := t.lt1 k hb; omega), t.r.chg c (fun k hk hb => by have := hp k hk; have := t.lt2 k hb; omega), t.apart, fun k hk => by have := t.lt1 k hk; have := c.size; omega, fun k hk => by have := t.lt2 k hk; have := c.size; omega⟩
/-- The program's monitor has seen. -/
theorem Two.see1 {w0 w w' : World} {B1 B2 : Nat → Prop} {g h : Nat} {C : Cfg} {ap ac aw : Option Addr} {cp cc cw : Nat} {S S' : HS} (t : Two w0 w B1 B2 g h C ap ac aw cp cc cw S) (hw : w0.heap.size ≤ w.heap.size) (c : Chg w w' B1) (m : MonAt w' (fun k => B1 k ∨ w.heap.size ≤ k) g S') :
    MonAt w' (fun k => (B1 k ∨ w.heap.size ≤ k) ∧ k < w'.heap.size) g S' ∧ RAt w' B2 h C ap ac aw cp cc cw S ∧ (∀ k, (B1 k ∨ w.heap.size ≤ k) ∧ k < w'.heap.size → ¬ B2 k) ∧ (∀ k, (B1 k ∨ w.heap.size ≤ k) ∧ k < w'.heap.size → w0.heap.size ≤ k) :=
  ⟨m.lt, t.r.chg c t.apart, fun k hk hb => by
    rcases hk.1 with h1 | h1
    · exact t.apart k h1 hb
    · have := t.lt2 k hb; omega, fun k hk => by
    rcases hk.1 with h1 | h1
    · exact (t.lt1 k h1).1
    · omega⟩

set_option maxRecDepth 100000 in
set_option maxHeartbeats 1600000 in
theorem sees_out {C : Cfg} {ap ac aw : Option Addr} {cp cc cw : Nat} (w : World) (hC : CfgAt w C ap ac aw cp cc cw) (lo : Option Addr) (m c : Nat) (ho : bigV C = true ∨ 3000 < m) :
    Calls Try.prog 9 #[.agg (cfgCells C ap ac aw cp cc cw), .slice lo m c] w fun r w' => r = .returned (.bool true) ∧ Below w.heap.size w w' := by
  have HB := Box.new w 27 (cfgCells C ap ac aw cp cc cw)
  have C0 : Chg w (w.alloc (.cells (cfgCells C ap ac aw cp cc cw) 27)) (fun _ => False) := (Chg.refl w _).alloc _
  have HA := hC.keep C0
  have HO := Lib.hid ho
  unfold cfgCells at *
  obtain ⟨w0, hw0⟩ : ∃ W, w.alloc (.cells #[.int .i64 C.pages, .int .i64 C.major, .int .i64 C.switch, .slice ap C.parts.length cp, .slice ac C.chans.length cc, .slice aw C.wins.length cw] 27) = W := ⟨_, rfl⟩
  rw [hw0] at HB HA C0
  clear ho
  go_enter Try.func9, Try.ntmps9
  go_wp2_with fail
  clear hw0
  refine (alive21 _).mono ?_
  rintro r w1 ⟨rfl, C1⟩
  have B1 := HB.chg C1 (fun h => h)
  have x0 := B1.cell 0
  have x1 := B1.cell 1
  have x2 := B1.cell 2
  have x3 := B1.cell 3
  have x4 := B1.cell 4
  have x5 := B1.cell 5
  go_wp2_with fail
  refine (big_any _ (HA.keep C1)).mono ?_
  rintro r w2 ⟨rfl, C2⟩
  cases hb : bigV C with
  | true =>
    clear hb
    go_wp2_with fail
    go_ret
    exact ⟨rfl, ((C0.trans C1).trans C2).below (Nat.le_refl _) (fun _ _ h => h)⟩
  | false =>
    have hm : 3000 < m := by rcases HO.out with h | h; rw [hb] at h; cases h; exact h
    have d1 : decide ((3000 : Int) < (m : Int)) = true := decide_eq_true (by omega)
    clear hb hm
    go_wp2_with fail
    go_ret
    exact ⟨rfl, ((C0.trans C1).trans C2).below (Nat.le_refl _) (fun _ _ h => h)⟩

set_option maxRecDepth 100000 in
set_option maxHeartbeats 6400000 in
theorem sees_in {C : Cfg} {ap ac aw : Option Addr} {cp cc cw : Nat} (w : World) (hC : CfgAt w C ap ac aw cp cc cw) (lo : Option Addr) (m c : Nat) (ls : List LookD) (hL : Lst w lo m c (ls.flatMap lookCells) 4) (hbig : bigV C = false) (hm : m ≤ 3000) :
    Calls Try.prog 9 #[.agg (cfgCells C ap ac aw cp cc cw), .slice lo m c] w fun r w' => r = .returned (.bool true) ∧ Below w.heap.size w w' := by
  have HB := Box.new w 27 (cfgCells C ap ac aw cp cc cw)
  have C0 : Chg w (w.alloc (.cells (cfgCells C ap ac aw cp cc cw) 27)) (fun _ => False) := (Chg.refl w _).alloc _
  have HA := hC.keep C0
  have HC := Lib.hid hC
  have HL := Lib.hid hL
  have hll : ls.length = m := by
    have := hL.src.len
    rw [flat_length lookCells 4 (fun _ => rfl)] at this
    omega
  have HLL := Lib.hid hll
  have HBIG := Lib.hid hbig
  have d1 : decide ((3000 : Int) < (m : Int)) = false := decide_eq_false (by omega)
  unfold cfgCells at *
  obtain ⟨w0, hw0⟩ : ∃ W, w.alloc (.cells #[.int .i64 C.pages, .int .i64 C.major, .int .i64 C.switch, .slice ap C.parts.length cp, .slice ac C.chans.length cc, .slice aw C.wins.length cw] 27) = W := ⟨_, rfl⟩
  rw [hw0] at HB HA C0
  clear hbig hL hll hC
  go_enter Try.func9, Try.ntmps9
  go_wp2_with fail
  clear hw0
  refine (alive21 _).mono ?_
  rintro r w1 ⟨rfl, C1⟩
  have B1 := HB.chg C1 (fun h => h)
  have x0 := B1.cell 0
  have x1 := B1.cell 1
  have x2 := B1.cell 2
  have x3 := B1.cell 3
  have x4 := B1.cell 4
  have x5 := B1.cell 5
  go_wp2_with fail
  refine (big_any _ (HA.keep C1)).mono ?_
  rintro r w2 ⟨rfl, C2⟩
  rw [HBIG.out]
  have B2 := B1.chg C2 (fun h => h)
  have H2 := (HA.keep C1).keep C2
  have x0 := B2.cell 0
  have x1 := B2.cell 1
  have x2 := B2.cell 2
  have x3 := B2.cell 3
  have x4 := B2.cell 4
  have x5 := B2.cell 5
  go_wp2_with fail
  refine (hnew_any w2 H2).mono ?_
  rintro r w3 ⟨g, rfl, M3, C3⟩
  have B3 := B2.chg C3 (fun h => h)
  have x0 := B3.cell 0
  have x1 := B3.cell 1
  have x2 := B3.cell 2
  have x3 := B3.cell 3
  have x4 := B3.cell 4
  have x5 := B3.cell 5
  go_wp2_with fail
  refine (rnew_any w3 (H2.keep C3)).mono ?_
  rintro r w4 ⟨h, rfl, R4, C4⟩
  have C02 := (C0.trans C1).trans C2
  have C04 := (C02.trans C3).trans C4
  have hs3 := C3.size
  have hs4 := C4.size
  have hs2 := C02.size
  have T4 : Two w w4 (fun k => w2.heap.size ≤ k ∧ k < w3.heap.size) (fun k => w3.heap.size ≤ k ∧ k < w4.heap.size) g h C ap ac aw cp cc cw (newS C) :=
    ⟨(M3.lt).keep C4, R4.lt, fun k h1 h2 => by omega, fun k hk => by omega, fun k hk => by omega⟩
  have O4 := newS_ok C
  generalize newS C = S0 at T4 O4
  clear M3 R4 x0 x1 x2 x3 x4 x5 B1 B2 B3 HB HA H2 C0 C1 C2 C3 C4 C02
  go_wp2_with fail
  go_loopw [9] (fun i wx => ∃ (j : Nat) (S : HS) (B1 B2 : Nat → Prop), j ≤ m ∧ i = .int .i64 j ∧ Two w wx B1 B2 g h C ap ac aw cp cc cw S ∧ HOk S j ∧ Chg w wx (fun _ => False)) (fun i _ => m - (intOf i).toNat)
  case atStart => exact ⟨0, _, _, _, by omega, rfl, T4, O4, C04⟩
  case round =>
    obtain ⟨j, S, B1, B2, hj, rfl, TJ, OJ, CJ⟩ := hrel
    by_cases hlt : j < m
    · obtain ⟨b, o, rfl⟩ := HL.out.pos (by omega)
      have hLj := HL.out.chg CJ (fun _ _ h => h)
      have hjl : j < ls.length := by rw [HLL.out]; exact hlt
      have c0 := Lst.cell0 (n := 4) (fun _ => rfl) hLj j (by decide) hjl rfl
      have c1 := Lst.cell (n := 4) (fun _ => rfl) hLj j 1 (by decide) hjl rfl
      have c2 := Lst.cell (n := 4) (fun _ => rfl) hLj j 2 (by decide) hjl rfl
      have c3 := Lst.cell (n := 4) (fun _ => rfl) hLj j 3 (by decide) hjl rfl
      obtain ⟨lk, hlk⟩ : ∃ x, ls[j] = x := ⟨_, rfl⟩
      rw [hlk] at c0 c1 c2 c3
      have j0 : (0 : Int) ≤ (j : Int) := by omega
      have j1 : (j : Int) < (m : Int) := by omega
      have HTJ := Lib.hid TJ
      have HOJ := Lib.hid OJ
      clear hLj hlk TJ OJ
      go_wp2_with fail
      refine wp_region_noPanic ?_
      refine wp_region_L 12 (fun w' => w'.cell? ⟨b, o + j * 4 + 2, none⟩ = some (.bool lk.halt) ∧ w'.cell? ⟨b, o + j * 4 + 3, none⟩ = some (.bool lk.stuck)) (by kernel_rfl) (⟨c2, c3⟩) (fun hHeld => ?_)
      refine wpAnyL_take (i := 0) (oi := ?oia0) (v := ?va0) ?hia0 (by kernel_rfl) (by kernel_rfl) (by kernel_rfl) (by kernel_rfl) (fun _ _ _ h => h) (Or.inl ⟨?hwa0, ?hya0⟩) (by assumption) ?hra0
      case hia0 => simp only [List.getElem?_toArray, List.getElem?_cons_succ, List.getElem?_cons_zero]; rfl
      case hwa0 => rfl
      case hya0 => intro wq hSq; (try dsimp only at hSq); go_simp; (try with_reducible rfl)
      try simp only [Act.put, List.setIfInBounds_toArray, List.set_cons_zero, List.set_cons_succ]
      refine wpAnyL_take (i := 1) (oi := ?oia1) (v := ?va1) ?hia1 (by kernel_rfl) (by kernel_rfl) (by kernel_rfl) (by kernel_rfl) (fun _ _ _ h => h) (Or.inl ⟨?hwa1, ?hya1⟩) (by assumption) ?hra1
      case hia1 => simp only [List.getElem?_toArray, List.getElem?_cons_succ, List.getElem?_cons_zero]; rfl
      case hwa1 => rfl
      case hya1 => intro wq hSq; (try dsimp only at hSq); go_simp; (try with_reducible rfl)
      try simp only [Act.put, List.setIfInBounds_toArray, List.set_cons_zero, List.set_cons_succ]
      refine wpAnyL_take (i := 2) (oi := ?oia2) (v := ?va2) ?hia2 (by kernel_rfl) (by kernel_rfl) (by kernel_rfl) (by kernel_rfl) (fun _ _ _ h => h) (Or.inl ⟨?hwa2, ?hya2⟩) (by assumption) ?hra2
      case hia2 => simp only [List.getElem?_toArray, List.getElem?_cons_succ, List.getElem?_cons_zero]; rfl
      case hwa2 => rfl
      case hya2 => intro wq hSq; (try dsimp only at hSq); go_simp; (try with_reducible rfl)
      try simp only [Act.put, List.setIfInBounds_toArray, List.set_cons_zero, List.set_cons_succ]
      refine wpAnyL_take (i := 3) (oi := ?oia3) (v := ?va3) ?hia3 (by kernel_rfl) (by kernel_rfl) (by kernel_rfl) (by kernel_rfl) (fun _ _ _ h => h) (Or.inl ⟨?hwa3, ?hya3⟩) (by assumption) ?hra3
      case hia3 => simp only [List.getElem?_toArray, List.getElem?_cons_succ, List.getElem?_cons_zero]; rfl
      case hwa3 => rfl
      case hya3 => intro wq hSq; (try dsimp only at hSq); go_simp; (try with_reducible rfl)
      try simp only [Act.put, List.setIfInBounds_toArray, List.set_cons_zero, List.set_cons_succ]
      refine wpAnyL_take (i := 4) (oi := ?oia4) (v := ?va4) ?hia4 (by kernel_rfl) (by kernel_rfl) (by kernel_rfl) (by kernel_rfl) (fun _ _ _ h => h) (Or.inl ⟨?hwa4, ?hya4⟩) (by assumption) ?hra4
      case hia4 => simp only [List.getElem?_toArray, List.getElem?_cons_succ, List.getElem?_cons_zero]; rfl
      case hwa4 => rfl
      case hya4 => intro wq hSq; (try dsimp only at hSq); go_simp; (try with_reducible rfl)
      try simp only [Act.put, List.setIfInBounds_toArray, List.set_cons_zero, List.set_cons_succ]
      refine wpAnyL_take (i := 5) (oi := ?oia5) (v := ?va5) ?hia5 (by kernel_rfl) (by kernel_rfl) (by kernel_rfl) (by kernel_rfl) (fun _ _ _ h => h) (Or.inl ⟨?hwa5, ?hya5⟩) (by assumption) ?hra5
      case hia5 => simp only [List.getElem?_toArray, List.getElem?_cons_succ, List.getElem?_cons_zero]; rfl
      case hwa5 => rfl
      case hya5 => intro wq hSq; (try dsimp only at hSq); go_simp; (try with_reducible rfl)
      try simp only [Act.put, List.setIfInBounds_toArray, List.set_cons_zero, List.set_cons_succ]
      refine wpAnyL_take (i := 6) (oi := ?oia6) (v := ?va6) ?hia6 (by kernel_rfl) (by kernel_rfl) (by kernel_rfl) (by kernel_rfl) (fun _ _ _ h => h) (Or.inl ⟨?hwa6, ?hya6⟩) (by assumption) ?hra6
      case hia6 => simp only [List.getElem?_toArray, List.getElem?_cons_succ, List.getElem?_cons_zero]; rfl
      case hwa6 => rfl
      case hya6 => intro wq hSq; (try dsimp only at hSq); go_simp; (try with_reducible rfl)
      try simp only [Act.put, List.setIfInBounds_toArray, List.set_cons_zero, List.set_cons_succ]
      refine wpAnyL_take (i := 7) (oi := ?oia7) (v := ?va7) ?hia7 (by kernel_rfl) (by kernel_rfl) (by kernel_rfl) (by kernel_rfl) (fun _ _ _ h => h) (Or.inl ⟨?hwa7, ?hya7⟩) (by assumption) ?hra7
      case hia7 => simp only [List.getElem?_toArray, List.getElem?_cons_succ, List.getElem?_cons_zero]; rfl
      case hwa7 => rfl
      case hya7 => intro wq hSq; (try dsimp only at hSq); go_simp; (try with_reducible rfl)
      try simp only [Act.put, List.setIfInBounds_toArray, List.set_cons_zero, List.set_cons_succ]
      refine wpAnyL_take (i := 8) (oi := ?oia8) (v := ?va8) ?hia8 (by kernel_rfl) (by kernel_rfl) (by kernel_rfl) (by kernel_rfl) (fun _ _ _ h => h) (Or.inl ⟨?hwa8, ?hya8⟩) (by assumption) ?hra8
      case hia8 => simp only [List.getElem?_toArray, List.getElem?_cons_succ, List.getElem?_cons_zero]; rfl
      case hwa8 => rfl
      case hya8 => intro wq hSq; (try dsimp only at hSq); go_simp; (try with_reducible rfl)
      try simp only [Act.put, List.setIfInBounds_toArray, List.set_cons_zero, List.set_cons_succ]
      refine wpAnyL_take (i := 9) (oi := ?oia9) (v := ?va9) ?hia9 (by kernel_rfl) (by kernel_rfl) (by kernel_rfl) (by kernel_rfl) (fun _ _ _ h => h) (Or.inl ⟨?hwa9, ?hya9⟩) (by assumption) ?hra9
      case hia9 => simp only [List.getElem?_toArray, List.getElem?_cons_succ, List.getElem?_cons_zero]; rfl
      case hwa9 => rfl
      case hya9 => intro wq hSq; (try dsimp only at hSq); go_simp; (try with_reducible rfl)
      try simp only [Act.put, List.setIfInBounds_toArray, List.set_cons_zero, List.set_cons_succ]
      refine wpAnyL_take (i := 10) (oi := ?oia10) (v := ?va10) ?hia10 (by kernel_rfl) (by kernel_rfl) (by kernel_rfl) (by kernel_rfl) (fun _ _ _ h => h) (Or.inl ⟨?hwa10, ?hya10⟩) (by assumption) ?hra10
      case hia10 => simp only [List.getElem?_toArray, List.getElem?_cons_succ, List.getElem?_cons_zero]; rfl
      case hwa10 => rfl
      case hya10 => intro wq hSq; (try dsimp only at hSq); go_simp; (try with_reducible rfl)
      try simp only [Act.put, List.setIfInBounds_toArray, List.set_cons_zero, List.set_cons_succ]
      refine wpAnyL_ready (rs := [11]) (by kernel_rfl) (by simp) ?_
      refine AllReadyL.cons rfl (fun K hK => ?_) AllReadyL.nil
      go_simp
      have CA : Chg wr (wr.alloc (.cells #[.slice none 0 0, .int .i64 0, .slice none 0 0, .bool false, .bool false, .slice none 0 0] 61)) (fun _ => False) := (Chg.refl wr _).alloc _
      refine hK.out _ _ (.inl (⟨CA.cell c2 (fun h => h), CA.cell c3 (fun h => h)⟩)) (fun hHeld => ?_)
      replace hHeld := SOr.stands hHeld (by kernel_rfl)
      clear hK K
      try simp only [Act.put, List.setIfInBounds_toArray, List.set_cons_zero, List.set_cons_succ]
      refine wpAnyL_ready (rs := [12]) (by kernel_rfl) (by simp) ?_
      refine AllReadyL.cons rfl (fun K hK => ?_) AllReadyL.nil
      go_simp
      refine hK.out _ _ (.inr (by kernel_rfl)) (fun _ => ?_)
      clear hK K
      try simp only [Act.put, List.setIfInBounds_toArray, List.set_cons_zero, List.set_cons_succ]
      refine wpAnyL_done (by kernel_rfl) ?_ _
      refine NoPanic.normal ?_
      obtain ⟨q, hq⟩ : ∃ q, wr.heap.size = q := ⟨_, rfl⟩
      have CS : Chg wr (wr.alloc (.cells #[.slice none 0 0, .int .i64 0, .slice none 0 0, .bool lk.halt, .bool lk.stuck, .slice none 0 0] 61)) (fun _ => False) := (Chg.refl wr _).alloc _
      have BS := Box.new wr 61 #[.slice none 0 0, .int .i64 0, .slice none 0 0, .bool lk.halt, .bool lk.stuck, .slice none 0 0]
      rw [hq] at BS
      obtain ⟨W0, hW0⟩ : ∃ W, wr.alloc (.cells #[.slice none 0 0, .int .i64 0, .slice none 0 0, .bool lk.halt, .bool lk.stuck, .slice none 0 0] 61) = W := ⟨_, rfl⟩
      rw [hW0] at CS BS ⊢
      clear hW0
      have TW : Two w W0.drew.drew B1 B2 g h C ap ac aw cp cc cw S := HTJ.out.chg CS.drew.drew (fun _ h => h.elim)
      have CW : Chg w W0.drew.drew (fun _ => False) := (CJ.trans CS).drew.drew
      have e0 := CS.cell c0 (fun h => h)
      have e1 := CS.cell c1 (fun h => h)
      have s0 := BS.cell 0
      have s1 := BS.cell 1
      have s2 := BS.cell 2
      have s3 := BS.cell 3
      have s4 := BS.cell 4
      have s5 := BS.cell 5
      have hq1 : ∀ k, B1 k → k ≠ q := fun k hk e => by have := HTJ.out.lt1 k hk; omega
      have hq2 : ∀ k, B2 k → k ≠ q := fun k hk e => by have := HTJ.out.lt2 k hk; omega
      have hbl : b < w.heap.size := by
        have := HL.out.src.get _ rfl 0 (.int .i64 (ls[0]'(by omega)).tick) (by
          have := flat_get lookCells 4 (fun _ => rfl) ls 0 0 (by decide) (by omega)
          rw [show 0 * 4 + 0 = 0 from rfl] at this
          rw [this]; rfl)
        have hb := World.block_lt_of_cell? w _ this
        rwa [Addr.add_lit] at hb
      have hb1 : ∀ k, B1 k → k ≠ b := fun k hk e => by have := HTJ.out.lt1 k hk; omega
      have hb2 : ∀ k, B2 k → k ≠ b := fun k hk e => by have := HTJ.out.lt2 k hk; omega
      have SEE := Lib.hid (see_any W0.drew.drew B1 g S lk.tick lk.part lk.halt lk.stuck j TW.m HOJ.out (by omega))
      have OS := seeS_ok HOJ.out lk.tick lk.part lk.halt lk.stuck
      have RSEE := Lib.hid (fun (w5 : World) (r5 : RAt w5 B2 h C ap ac aw cp cc cw S) (c5 : Chg w w5 (fun _ => False)) => rsee_any w5 B2 h C ap ac aw cp cc cw S lk.tick lk.part lk.halt lk.stuck j r5 (HC.out.keep c5) HOJ.out (by omega))
      generalize seeS S lk.tick lk.part lk.halt lk.stuck = rr at SEE RSEE OS
      obtain ⟨S', rv⟩ := rr
      have HOS := Lib.hid OS
      have HTW := Lib.hid TW
      unfold stV at SEE RSEE
      clear TW OS HTJ c0 c1 c2 c3
      go_wp2_with fail
      refine wp_region_noPanic ?_
      refine wp_region_held_drew (S := fun w' => w'.cell? ⟨b, o + j * 4, none⟩ = some (.int .i64 lk.tick) ∧ w'.cell? ⟨b, o + j * 4 + 1, none⟩ = some (.int .i64 lk.part) ∧ w'.cell? ⟨q, 0, none⟩ = some (.slice none 0 0) ∧ w'.cell? ⟨q, 1, none⟩ = some (.int .i64 0) ∧ w'.cell? ⟨q, 2, none⟩ = some (.slice none 0 0) ∧ w'.cell? ⟨q, 3, none⟩ = some (.bool lk.halt) ∧ w'.cell? ⟨q, 4, none⟩ = some (.bool lk.stuck) ∧ w'.cell? ⟨q, 5, none⟩ = some (.slice none 0 0)) (by kernel_rfl) (⟨e0, e1, s0, s1, s2, s3, s4, s5⟩) (fun hHeld => ?_)
      refine wpAnyH_take (i := 0) (oi := ?oib0) (v := ?vb0) ?hib0 (by kernel_rfl) (by kernel_rfl) (by kernel_rfl) (fun _ _ _ h => h) (Or.inl ⟨?hwb0, ?hyb0⟩) (by assumption) ?hrb0
      case hib0 => simp only [List.getElem?_toArray, List.getElem?_cons_succ, List.getElem?_cons_zero]; rfl
      case hwb0 => rfl
      case hyb0 => intro wq hSq; (try dsimp only at hSq); go_simp; (try with_reducible rfl)
      try simp only [Act.put, List.setIfInBounds_toArray, List.set_cons_zero, List.set_cons_succ]
      refine wpAnyH_take (i := 1) (oi := ?oib1) (v := ?vb1) ?hib1 (by kernel_rfl) (by kernel_rfl) (by kernel_rfl) (fun _ _ _ h => h) (Or.inl ⟨?hwb1, ?hyb1⟩) (by assumption) ?hrb1
      case hib1 => simp only [List.getElem?_toArray, List.getElem?_cons_succ, List.getElem?_cons_zero]; rfl
      case hwb1 => rfl
      case hyb1 => intro wq hSq; (try dsimp only at hSq); go_simp; (try with_reducible rfl)
      try simp only [Act.put, List.setIfInBounds_toArray, List.set_cons_zero, List.set_cons_succ]
      refine wpAnyH_take (i := 2) (oi := ?oib2) (v := ?vb2) ?hib2 (by kernel_rfl) (by kernel_rfl) (by kernel_rfl) (fun _ _ _ h => h) (Or.inl ⟨?hwb2, ?hyb2⟩) (by assumption) ?hrb2
      case hib2 => simp only [List.getElem?_toArray, List.getElem?_cons_succ, List.getElem?_cons_zero]; rfl
      case hwb2 => rfl
      case hyb2 => intro wq hSq; (try dsimp only at hSq); go_simp; (try with_reducible rfl)
      try simp only [Act.put, List.setIfInBounds_toArray, List.set_cons_zero, List.set_cons_succ]
      refine wpAnyH_take (i := 3) (oi := ?oib3) (v := ?vb3) ?hib3 (by kernel_rfl) (by kernel_rfl) (by kernel_rfl) (fun _ _ _ h => h) (Or.inl ⟨?hwb3, ?hyb3⟩) (by assumption) ?hrb3
      case hib3 => simp only [List.getElem?_toArray, List.getElem?_cons_succ, List.getElem?_cons_zero]; rfl
      case hwb3 => rfl
      case hyb3 => intro wq hSq; (try dsimp only at hSq); go_simp; (try with_reducible rfl)
      try simp only [Act.put, List.setIfInBounds_toArray, List.set_cons_zero, List.set_cons_succ]
      refine wpAnyH_take (i := 4) (oi := ?oib4) (v := ?vb4) ?hib4 (by kernel_rfl) (by kernel_rfl) (by kernel_rfl) (fun _ _ _ h => h) (Or.inl ⟨?hwb4, ?hyb4⟩) (by assumption) ?hrb4
      case hib4 => simp only [List.getElem?_toArray, List.getElem?_cons_succ, List.getElem?_cons_zero]; rfl
      case hwb4 => rfl
      case hyb4 => intro wq hSq; (try dsimp only at hSq); go_simp; (try with_reducible rfl)
      try simp only [Act.put, List.setIfInBounds_toArray, List.set_cons_zero, List.set_cons_succ]
      refine wpAnyH_take (i := 5) (oi := ?oib5) (v := ?vb5) ?hib5 (by kernel_rfl) (by kernel_rfl) (by kernel_rfl) (fun _ _ _ h => h) (Or.inl ⟨?hwb5, ?hyb5⟩) (by assumption) ?hrb5
      case hib5 => simp only [List.getElem?_toArray, List.getElem?_cons_succ, List.getElem?_cons_zero]; rfl
      case hwb5 => rfl
      case hyb5 => intro wq hSq; (try dsimp only at hSq); go_simp; (try with_reducible rfl)
      try simp only [Act.put, List.setIfInBounds_toArray, List.set_cons_zero, List.set_cons_succ]
      refine wpAnyH_take (i := 6) (oi := ?oib6) (v := ?vb6) ?hib6 (by kernel_rfl) (by kernel_rfl) (by kernel_rfl) (fun _ _ _ h => h) (Or.inl ⟨?hwb6, ?hyb6⟩) (by assumption) ?hrb6
      case hib6 => simp only [List.getElem?_toArray, List.getElem?_cons_succ, List.getElem?_cons_zero]; rfl
      case hwb6 => rfl
      case hyb6 => intro wq hSq; (try dsimp only at hSq); go_simp; (try with_reducible rfl)
      try simp only [Act.put, List.setIfInBounds_toArray, List.set_cons_zero, List.set_cons_succ]
      refine wpAnyH_take (i := 7) (oi := ?oib7) (v := ?vb7) ?hib7 (by kernel_rfl) (by kernel_rfl) (by kernel_rfl) (fun _ _ _ h => h) (Or.inl ⟨?hwb7, ?hyb7⟩) (by assumption) ?hrb7
      case hib7 => simp only [List.getElem?_toArray, List.getElem?_cons_succ, List.getElem?_cons_zero]; rfl
      case hwb7 => rfl
      case hyb7 => intro wq hSq; (try dsimp only at hSq); go_simp; (try with_reducible rfl)
      try simp only [Act.put, List.setIfInBounds_toArray, List.set_cons_zero, List.set_cons_succ]
      refine wpAnyH_take (i := 8) (oi := ?oib8) (v := ?vb8) ?hib8 (by kernel_rfl) (by kernel_rfl) (by kernel_rfl) (fun _ _ _ h => h) (Or.inl ⟨?hwb8, ?hyb8⟩) (by assumption) ?hrb8
      case hib8 => simp only [List.getElem?_toArray, List.getElem?_cons_succ, List.getElem?_cons_zero]; rfl
      case hwb8 => rfl
      case hyb8 => intro wq hSq; (try dsimp only at hSq); go_simp; (try with_reducible rfl)
      try simp only [Act.put, List.setIfInBounds_toArray, List.set_cons_zero, List.set_cons_succ]
      refine wpAnyH_take (i := 9) (oi := ?oib9) (v := ?vb9) ?hib9 (by kernel_rfl) (by kernel_rfl) (by kernel_rfl) (fun _ _ _ h => h) (Or.inl ⟨?hwb9, ?hyb9⟩) (by assumption) ?hrb9
      case hib9 => simp only [List.getElem?_toArray, List.getElem?_cons_succ, List.getElem?_cons_zero]; rfl
      case hwb9 => rfl
      case hyb9 => intro wq hSq; (try dsimp only at hSq); go_simp; (try with_reducible rfl)
      try simp only [Act.put, List.setIfInBounds_toArray, List.set_cons_zero, List.set_cons_succ]
      refine wpAnyH_take (i := 10) (oi := ?oib10) (v := ?vb10) ?hib10 (by kernel_rfl) (by kernel_rfl) (by kernel_rfl) (fun _ _ _ h => h) (Or.inl ⟨?hwb10, ?hyb10⟩) (by assumption) ?hrb10
      case hib10 => simp only [List.getElem?_toArray, List.getElem?_cons_succ, List.getElem?_cons_zero]; rfl
      case hwb10 => rfl
      case hyb10 => intro wq hSq; (try dsimp only at hSq); go_simp; (try with_reducible rfl)
      try simp only [Act.put, List.setIfInBounds_toArray, List.set_cons_zero, List.set_cons_succ]
      refine wpAnyH_take (i := 11) (oi := ?oib11) (v := ?vb11) ?hib11 (by kernel_rfl) (by kernel_rfl) (by kernel_rfl) (fun _ _ _ h => h) (Or.inl ⟨?hwb11, ?hyb11⟩) (by assumption) ?hrb11
      case hib11 => simp only [List.getElem?_toArray, List.getElem?_cons_succ, List.getElem?_cons_zero]; rfl
      case hwb11 => rfl
      case hyb11 => intro wq hSq; (try dsimp only at hSq); go_simp; (try with_reducible rfl)
      try simp only [Act.put, List.setIfInBounds_toArray, List.set_cons_zero, List.set_cons_succ]
      refine wpAnyH_take (i := 13) (oi := ?oib13) (v := ?vb13) ?hib13 (by kernel_rfl) (by kernel_rfl) (by kernel_rfl) (fun _ _ _ h => h) (Or.inl ⟨?hwb13, ?hyb13⟩) (by assumption) ?hrb13
      case hib13 => simp only [List.getElem?_toArray, List.getElem?_cons_succ, List.getElem?_cons_zero]; rfl
      case hwb13 => rfl
      case hyb13 => intro wq hSq; (try dsimp only at hSq); go_simp; (try with_reducible rfl)
      try simp only [Act.put, List.setIfInBounds_toArray, List.set_cons_zero, List.set_cons_succ]
      refine wpAnyH_take (i := 14) (oi := ?oib14) (v := ?vb14) ?hib14 (by kernel_rfl) (by kernel_rfl) (by kernel_rfl) (fun _ _ _ h => h) (Or.inl ⟨?hwb14, ?hyb14⟩) (by assumption) ?hrb14
      case hib14 => simp only [List.getElem?_toArray, List.getElem?_cons_succ, List.getElem?_cons_zero]; rfl
      case hwb14 => rfl
      case hyb14 => intro wq hSq; (try dsimp only at hSq); go_simp; (try with_reducible rfl)
      try simp only [Act.put, List.setIfInBounds_toArray, List.set_cons_zero, List.set_cons_succ]
      refine wpAnyH_take (i := 15) (oi := ?oib15) (v := ?vb15) ?hib15 (by kernel_rfl) (by kernel_rfl) (by kernel_rfl) (fun _ _ _ h => h) (Or.inl ⟨?hwb15, ?hyb15⟩) (by assumption) ?hrb15
      case hib15 => simp only [List.getElem?_toArray, List.getElem?_cons_succ, List.getElem?_cons_zero]; rfl
      case hwb15 => rfl
      case hyb15 => intro wq hSq; (try dsimp only at hSq); go_simp; (try with_reducible rfl)
      try simp only [Act.put, List.setIfInBounds_toArray, List.set_cons_zero, List.set_cons_succ]
      refine wpAnyH_take (i := 16) (oi := ?oib16) (v := ?vb16) ?hib16 (by kernel_rfl) (by kernel_rfl) (by kernel_rfl) (fun _ _ _ h => h) (Or.inl ⟨?hwb16, ?hyb16⟩) (by assumption) ?hrb16
      case hib16 => simp only [List.getElem?_toArray, List.getElem?_cons_succ, List.getElem?_cons_zero]; rfl
      case hwb16 => rfl
      case hyb16 => intro wq hSq; (try dsimp only at hSq); go_simp; (try with_reducible rfl)
      try simp only [Act.put, List.setIfInBounds_toArray, List.set_cons_zero, List.set_cons_succ]
      refine wpAnyH_take (i := 17) (oi := ?oib17) (v := ?vb17) ?hib17 (by kernel_rfl) (by kernel_rfl) (by kernel_rfl) (fun _ _ _ h => h) (Or.inl ⟨?hwb17, ?hyb17⟩) (by assumption) ?hrb17
      case hib17 => simp only [List.getElem?_toArray, List.getElem?_cons_succ, List.getElem?_cons_zero]; rfl
      case hwb17 => rfl
      case hyb17 => intro wq hSq; (try dsimp only at hSq); go_simp; (try with_reducible rfl)
      try simp only [Act.put, List.setIfInBounds_toArray, List.set_cons_zero, List.set_cons_succ]
      refine wpAnyH_take (i := 18) (oi := ?oib18) (v := ?vb18) ?hib18 (by kernel_rfl) (by kernel_rfl) (by kernel_rfl) (fun _ _ _ h => h) (Or.inl ⟨?hwb18, ?hyb18⟩) (by assumption) ?hrb18
      case hib18 => simp only [List.getElem?_toArray, List.getElem?_cons_succ, List.getElem?_cons_zero]; rfl
      case hwb18 => rfl
      case hyb18 => intro wq hSq; (try dsimp only at hSq); go_simp; (try with_reducible rfl)
      try simp only [Act.put, List.setIfInBounds_toArray, List.set_cons_zero, List.set_cons_succ]
      refine wpAnyH_take (i := 19) (oi := ?oib19) (v := ?vb19) ?hib19 (by kernel_rfl) (by kernel_rfl) (by kernel_rfl) (fun _ _ _ h => h) (Or.inl ⟨?hwb19, ?hyb19⟩) (by assumption) ?hrb19
      case hib19 => simp only [List.getElem?_toArray, List.getElem?_cons_succ, List.getElem?_cons_zero]; rfl
      case hwb19 => rfl
      case hyb19 => intro wq hSq; (try dsimp only at hSq); go_simp; (try with_reducible rfl)
      try simp only [Act.put, List.setIfInBounds_toArray, List.set_cons_zero, List.set_cons_succ]
      refine wpAnyH_take (i := 20) (oi := ?oib20) (v := ?vb20) ?hib20 (by kernel_rfl) (by kernel_rfl) (by kernel_rfl) (fun _ _ _ h => h) (Or.inl ⟨?hwb20, ?hyb20⟩) (by assumption) ?hrb20
      case hib20 => simp only [List.getElem?_toArray, List.getElem?_cons_succ, List.getElem?_cons_zero]; rfl
      case hwb20 => rfl
      case hyb20 => intro wq hSq; (try dsimp only at hSq); go_simp; (try with_reducible rfl)
      try simp only [Act.put, List.setIfInBounds_toArray, List.set_cons_zero, List.set_cons_succ]
      refine wpAnyH_take (i := 21) (oi := ?oib21) (v := ?vb21) ?hib21 (by kernel_rfl) (by kernel_rfl) (by kernel_rfl) (fun _ _ _ h => h) (Or.inl ⟨?hwb21, ?hyb21⟩) (by assumption) ?hrb21
      case hib21 => simp only [List.getElem?_toArray, List.getElem?_cons_succ, List.getElem?_cons_zero]; rfl
      case hwb21 => rfl
      case hyb21 => intro wq hSq; (try dsimp only at hSq); go_simp; (try with_reducible rfl)
      try simp only [Act.put, List.setIfInBounds_toArray, List.set_cons_zero, List.set_cons_succ]
      refine wpAnyH_take (i := 22) (oi := ?oib22) (v := ?vb22) ?hib22 (by kernel_rfl) (by kernel_rfl) (by kernel_rfl) (fun _ _ _ h => h) (Or.inl ⟨?hwb22, ?hyb22⟩) (by assumption) ?hrb22
      case hib22 => simp only [List.getElem?_toArray, List.getElem?_cons_succ, List.getElem?_cons_zero]; rfl
      case hwb22 => rfl
      case hyb22 => intro wq hSq; (try dsimp only at hSq); go_simp; (try with_reducible rfl)
      try simp only [Act.put, List.setIfInBounds_toArray, List.set_cons_zero, List.set_cons_succ]
      refine wpAnyH_take (i := 23) (oi := ?oib23) (v := ?vb23) ?hib23 (by kernel_rfl) (by kernel_rfl) (by kernel_rfl) (fun _ _ _ h => h) (Or.inl ⟨?hwb23, ?hyb23⟩) (by assumption) ?hrb23
      case hib23 => simp only [List.getElem?_toArray, List.getElem?_cons_succ, List.getElem?_cons_zero]; rfl
      case hwb23 => rfl
      case hyb23 => intro wq hSq; (try dsimp only at hSq); go_simp; (try with_reducible rfl)
      try simp only [Act.put, List.setIfInBounds_toArray, List.set_cons_zero, List.set_cons_succ]
      refine wpAnyH_take (i := 24) (oi := ?oib24) (v := ?vb24) ?hib24 (by kernel_rfl) (by kernel_rfl) (by kernel_rfl) (fun _ _ _ h => h) (Or.inl ⟨?hwb24, ?hyb24⟩) (by assumption) ?hrb24
      case hib24 => simp only [List.getElem?_toArray, List.getElem?_cons_succ, List.getElem?_cons_zero]; rfl
      case hwb24 => rfl
      case hyb24 => intro wq hSq; (try dsimp only at hSq); go_simp; (try with_reducible rfl)
      try simp only [Act.put, List.setIfInBounds_toArray, List.set_cons_zero, List.set_cons_succ]
      refine wpAnyH_ready (rs := [12]) (by kernel_rfl) (by simp) ?_
      refine AllReadyH.cons rfl (fun K hK => ?_) AllReadyH.nil
      go_simp
      refine SEE.out.mono ?_
      rintro r w5 ⟨rfl, M5, C5⟩
      obtain ⟨M5', R5, ap5, lo5⟩ := HTW.out.see1 CW.size C5 M5
      have CW5 : Chg w w5 (fun _ => False) := CW.trans' C5 (fun k hk hb => by have := (HTW.out.lt1 k hb).1; omega)
      have e0' := C5.cell e0 (fun hh => hb1 _ hh rfl)
      have e1' := C5.cell e1 (fun hh => hb1 _ hh rfl)
      have s0' := C5.cell s0 (fun hh => hq1 _ hh rfl)
      have s1' := C5.cell s1 (fun hh => hq1 _ hh rfl)
      have s2' := C5.cell s2 (fun hh => hq1 _ hh rfl)
      have s3' := C5.cell s3 (fun hh => hq1 _ hh rfl)
      have s4' := C5.cell s4 (fun hh => hq1 _ hh rfl)
      have s5' := C5.cell s5 (fun hh => hq1 _ hh rfl)
      have hHeld2 : (fun w' : World => (w'.cell? ⟨b, o + j * 4, none⟩ = some (.int .i64 lk.tick) ∧ w'.cell? ⟨b, o + j * 4 + 1, none⟩ = some (.int .i64 lk.part) ∧ w'.cell? ⟨q, 0, none⟩ = some (.slice none 0 0) ∧ w'.cell? ⟨q, 1, none⟩ = some (.int .i64 0) ∧ w'.cell? ⟨q, 2, none⟩ = some (.slice none 0 0) ∧ w'.cell? ⟨q, 3, none⟩ = some (.bool lk.halt) ∧ w'.cell? ⟨q, 4, none⟩ = some (.bool lk.stuck) ∧ w'.cell? ⟨q, 5, none⟩ = some (.slice none 0 0)) ∧ True) _ := ⟨⟨e0', e1', s0', s1', s2', s3', s4', s5'⟩, trivial⟩
      refine hK.out _ _ hHeld2.1 (fun _ => wpAnyH_mono (S2 := fun w' : World => (w'.cell? ⟨b, o + j * 4, none⟩ = some (.int .i64 lk.tick) ∧ w'.cell? ⟨b, o + j * 4 + 1, none⟩ = some (.int .i64 lk.part) ∧ w'.cell? ⟨q, 0, none⟩ = some (.slice none 0 0) ∧ w'.cell? ⟨q, 1, none⟩ = some (.int .i64 0) ∧ w'.cell? ⟨q, 2, none⟩ = some (.slice none 0 0) ∧ w'.cell? ⟨q, 3, none⟩ = some (.bool lk.halt) ∧ w'.cell? ⟨q, 4, none⟩ = some (.bool lk.stuck) ∧ w'.cell? ⟨q, 5, none⟩ = some (.slice none 0 0)) ∧ True) (fun _ h => h.1) _ _ _ _ ?_)
      clear hK K hHeld
      try simp only [Act.put, List.setIfInBounds_toArray, List.set_cons_zero, List.set_cons_succ]
      refine wpAnyH_ready (rs := [25]) (by kernel_rfl) (by simp) ?_
      refine AllReadyH.cons rfl (fun K hK => ?_) AllReadyH.nil
      go_simp
      refine (RSEE.out w5 R5 CW5).mono ?_
      rintro r w6 ⟨rfl, R6, C6⟩
      have hHeld3 := hHeld2
      have hHeld2 : (fun w' : World => ((w'.cell? ⟨b, o + j * 4, none⟩ = some (.int .i64 lk.tick) ∧ w'.cell? ⟨b, o + j * 4 + 1, none⟩ = some (.int .i64 lk.part) ∧ w'.cell? ⟨q, 0, none⟩ = some (.slice none 0 0) ∧ w'.cell? ⟨q, 1, none⟩ = some (.int .i64 0) ∧ w'.cell? ⟨q, 2, none⟩ = some (.slice none 0 0) ∧ w'.cell? ⟨q, 3, none⟩ = some (.bool lk.halt) ∧ w'.cell? ⟨q, 4, none⟩ = some (.bool lk.stuck) ∧ w'.cell? ⟨q, 5, none⟩ = some (.slice none 0 0)) ∧ True) ∧ True) _ := ⟨⟨⟨C6.cell e0' (fun hh => hb2 _ hh rfl), C6.cell e1' (fun hh => hb2 _ hh rfl), C6.cell s0' (fun hh => hq2 _ hh rfl), C6.cell s1' (fun hh => hq2 _ hh rfl), C6.cell s2' (fun hh => hq2 _ hh rfl), C6.cell s3' (fun hh => hq2 _ hh rfl), C6.cell s4' (fun hh => hq2 _ hh rfl), C6.cell s5' (fun hh => hq2 _ hh rfl)⟩, trivial⟩, trivial⟩
      refine hK.out _ _ hHeld2.1 (fun _ => wpAnyH_mono (S2 := fun w' : World => ((w'.cell? ⟨b, o + j * 4, none⟩ = some (.int .i64 lk.tick) ∧ w'.cell? ⟨b, o + j * 4 + 1, none⟩ = some (.int .i64 lk.part) ∧ w'.cell? ⟨q, 0, none⟩ = some (.slice none 0 0) ∧ w'.cell? ⟨q, 1, none⟩ = some (.int .i64 0) ∧ w'.cell? ⟨q, 2, none⟩ = some (.slice none 0 0) ∧ w'.cell? ⟨q, 3, none⟩ = some (.bool lk.halt) ∧ w'.cell? ⟨q, 4, none⟩ = some (.bool lk.stuck) ∧ w'.cell? ⟨q, 5, none⟩ = some (.slice none 0 0)) ∧ True) ∧ True) (fun _ h => h.1) _ _ _ _ ?_)
      clear hK K hHeld
      try simp only [Act.put, List.setIfInBounds_toArray, List.set_cons_zero, List.set_cons_succ]
      refine wpAnyH_take (i := 26) (oi := ?oic26) (v := ?vc26) ?hic26 (by kernel_rfl) (by kernel_rfl) (by kernel_rfl) (fun _ _ _ h => h) (Or.inl ⟨?hwc26, ?hyc26⟩) (by assumption) ?hrc26
      case hic26 => simp only [List.getElem?_toArray, List.getElem?_cons_succ, List.getElem?_cons_zero]; rfl
      case hwc26 => rfl
      case hyc26 => intro wq hSq; (try dsimp only at hSq); go_simp; (try with_reducible rfl)
      try simp only [Act.put, List.setIfInBounds_toArray, List.set_cons_zero, List.set_cons_succ]
      refine wpAnyH_done (by kernel_rfl) ?_ _
      refine NoPanic.normal ?_
      have T6 : Two w w6 (fun k => (B1 k ∨ W0.drew.drew.heap.size ≤ k) ∧ k < w5.heap.size) (fun k => (B2 k ∨ w5.heap.size ≤ k) ∧ k < w6.heap.size) g h C ap ac aw cp cc cw S' :=
        ⟨M5'.chg C6 (fun k hk hb => ap5 k hb hk), R6.lt, fun k h1 h2 => by
          rcases h2.1 with h3 | h3
          · exact ap5 k h1 h3
          · omega, fun k hk => ⟨lo5 k hk, by have := C6.size; omega⟩, fun k hk => ⟨by
          rcases hk.1 with h3 | h3
          · exact (HTW.out.lt2 k h3).1
          · have := CW5.size; omega, hk.2⟩⟩
      have CW6 : Chg w w6 (fun _ => False) := CW5.trans' C6 (fun k hk hb => by have := (HTW.out.lt2 k hb).1; omega)
      clear M5 M5' R5 R6 ap5 lo5 e0' e1' s0' s1' s2' s3' s4' s5' hHeld2 hHeld3
      go_wp2_with fail
      go_roundw
      case rel => exact ⟨j + 1, S', _, _, by omega, by go_num, T6, HOS.out, CW6⟩
      case measure => simp [intOf]; omega
    · have hjm : j = m := by omega
      subst hjm
      clear HL HLL
      have hn1000 := OJ.le
      have hn8 := OJ.n8
      obtain ⟨n, hn⟩ : ∃ n, S.evs.length = n := ⟨_, rfl⟩
      have LI := list_any B1 g S wr (fun k hk => (TJ.lt1 k hk).2) TJ.m
      have HTJ := Lib.hid TJ
      have HN := Lib.hid hn
      clear TJ OJ hn
      go_wp2_with fail
      refine LI.mono ?_
      rintro r w5 ⟨v, rfl, O5, C5⟩
      rw [HN.out] at O5
      obtain ⟨a5, c5, rfl, hc5, _, _, _⟩ := own_form O5
      obtain ⟨al, an, ag, cl, cn, cg, R5⟩ := (HTJ.out.chg C5 (fun _ h => h.elim)).r
      have x6 : w5.cell? ⟨h, 6, none⟩ = some (.slice al S.evs.length cl) := R5.box.cell 6
      rw [HN.out] at x6
      have C5' : Chg wr w5 (fun k => wr.heap.size ≤ k) := C5.mono (fun _ _ h => h.elim)
      clear R5 LI
      go_wp2_with fail
      go_loopw [12] (fun i wx => ∃ (k : Nat) (E : List EvH), k ≤ n ∧ i = .int .i64 k ∧ E.length = n ∧ (∀ t, k ≤ t → E[t]? = S.evs[t]?) ∧ wx.ownsRow wr.heap.size 68 3 (.slice a5 n c5) n (E.flatMap evCells) ∧ Chg wr wx (fun k => wr.heap.size ≤ k)) (fun i _ => n - (intOf i).toNat)
      case atStart => exact ⟨0, S.evs, by omega, rfl, HN.out, fun _ _ => rfl, O5, C5'⟩
      case round =>
        obtain ⟨k, E, hk, rfl, hEl, hEg, OE, CE⟩ := hrel
        have TX := HTJ.out.chg CE (fun _ h => h)
        obtain ⟨al2, an2, ag2, cl2, cn2, cg2, RX⟩ := TX.r
        have z6 : wr.cell? ⟨h, 6, none⟩ = some (.slice al2 S.evs.length cl2) := RX.box.cell 6
        rw [HN.out] at z6
        by_cases hlt2 : k < n
        · obtain ⟨ge, ce, hv, hge, hgs, _, _⟩ := own_block OE (by omega)
          injection hv with e1 e2 e3
          subst e1 e3
          have hSl : k < S.evs.length := by rw [HN.out]; exact hlt2
          have OL := RX.evs
          obtain ⟨gl, cl3, hv2, _, hgls, _, _⟩ := own_block OL (by rw [HN.out]; omega)
          injection hv2 with e4 e5 e6
          subst e4 e6
          obtain ⟨ev, hev⟩ : ∃ ev, S.evs[k] = ev := ⟨_, rfl⟩
          have hEk : E[k]'(by omega) = ev := by
            have := hEg k (Nat.le_refl _)
            rw [List.getElem?_eq_getElem (by omega), List.getElem?_eq_getElem hSl] at this
            injection this with this
            rw [this, hev]
          obtain ⟨v0, v1, v2⟩ := ev
          have p0 := own_cell3 ev_len OE k 0 (by decide) (by omega) (v := .int .i64 v0) (by rw [hEk]; rfl)
          have p1 := own_cell3 ev_len OE k 1 (by decide) (by omega) (v := .int .i64 v1) (by rw [hEk]; rfl)
          have p2 := own_cell3 ev_len OE k 2 (by decide) (by omega) (v := .int .i64 v2) (by rw [hEk]; rfl)
          have q0 := own_cell3 ev_len OL k 0 (by decide) hSl (v := .int .i64 v0) (by rw [hev]; rfl)
          have q1 := own_cell3 ev_len OL k 1 (by decide) hSl (v := .int .i64 v1) (by rw [hev]; rfl)
          have q2 := own_cell3 ev_len OL k 2 (by decide) hSl (v := .int .i64 v2) (by rw [hev]; rfl)
          have f0 := own_frozen OE (k * 3)
          have f1 := own_frozen OE (k * 3 + 1)
          have f2 := own_frozen OE (k * 3 + 2)
          have k0 : (0 : Int) ≤ (k : Int) := by omega
          have k1 : (k : Int) < (n : Int) := by omega
          have HOE := Lib.hid OE
          have HEG := Lib.hid hEg
          have HEL := Lib.hid hEl
          have HEK := Lib.hid (show E[k]? = some ⟨v0, v1, v2⟩ by rw [List.getElem?_eq_getElem (by omega), hEk])
          have HCE := Lib.hid CE
          clear OE OL TX RX hev hEk hEg hEl
          go_wp2_with fail
          refine wp_region_noPanic ?_
          refine wp_region_held_drew (S := fun w' => w'.cell? ⟨ge, k * 3, none⟩ = some (.int .i64 v0) ∧ w'.cell? ⟨ge, k * 3 + 1, none⟩ = some (.int .i64 v1) ∧ w'.cell? ⟨ge, k * 3 + 2, none⟩ = some (.int .i64 v2) ∧ w'.cell? ⟨h, 6, none⟩ = some (.slice (some ⟨gl, 0, none⟩) n cl2) ∧ w'.cell? ⟨gl, k * 3, none⟩ = some (.int .i64 v0) ∧ w'.cell? ⟨gl, k * 3 + 1, none⟩ = some (.int .i64 v1) ∧ w'.cell? ⟨gl, k * 3 + 2, none⟩ = some (.int .i64 v2)) (by kernel_rfl) (⟨p0, p1, p2, z6, q0, q1, q2⟩) (fun hHeld => ?_)
          refine wpAnyH_take (i := 0) (oi := ?oid0) (v := ?vd0) ?hid0 (by kernel_rfl) (by kernel_rfl) (by kernel_rfl) (fun _ _ _ h => h) (Or.inl ⟨?hwd0, ?hyd0⟩) (by assumption) ?hrd0
          case hid0 => simp only [List.getElem?_toArray, List.getElem?_cons_succ, List.getElem?_cons_zero]; rfl
          case hwd0 => rfl
          case hyd0 => intro wq hSq; (try dsimp only at hSq); go_simp; (try with_reducible rfl)
          try simp only [Act.put, List.setIfInBounds_toArray, List.set_cons_zero, List.set_cons_succ]
          refine wpAnyH_take (i := 1) (oi := ?oid1) (v := ?vd1) ?hid1 (by kernel_rfl) (by kernel_rfl) (by kernel_rfl) (fun _ _ _ h => h) (Or.inl ⟨?hwd1, ?hyd1⟩) (by assumption) ?hrd1
          case hid1 => simp only [List.getElem?_toArray, List.getElem?_cons_succ, List.getElem?_cons_zero]; rfl
          case hwd1 => rfl
          case hyd1 => intro wq hSq; (try dsimp only at hSq); go_simp; (try with_reducible rfl)
          try simp only [Act.put, List.setIfInBounds_toArray, List.set_cons_zero, List.set_cons_succ]
          refine wpAnyH_take (i := 2) (oi := ?oid2) (v := ?vd2) ?hid2 (by kernel_rfl) (by kernel_rfl) (by kernel_rfl) (fun _ _ _ h => h) (Or.inl ⟨?hwd2, ?hyd2⟩) (by assumption) ?hrd2
          case hid2 => simp only [List.getElem?_toArray, List.getElem?_cons_succ, List.getElem?_cons_zero]; rfl
          case hwd2 => rfl
          case hyd2 => intro wq hSq; (try dsimp only at hSq); go_simp; (try with_reducible rfl)
          try simp only [Act.put, List.setIfInBounds_toArray, List.set_cons_zero, List.set_cons_succ]
          refine wpAnyH_take (i := 3) (oi := ?oid3) (v := ?vd3) ?hid3 (by kernel_rfl) (by kernel_rfl) (by kernel_rfl) (fun _ _ _ h => h) (Or.inl ⟨?hwd3, ?hyd3⟩) (by assumption) ?hrd3
          case hid3 => simp only [List.getElem?_toArray, List.getElem?_cons_succ, List.getElem?_cons_zero]; rfl
          case hwd3 => rfl
          case hyd3 => intro wq hSq; (try dsimp only at hSq); go_simp; (try with_reducible rfl)
          try simp only [Act.put, List.setIfInBounds_toArray, List.set_cons_zero, List.set_cons_succ]
          refine wpAnyH_take (i := 4) (oi := ?oid4) (v := ?vd4) ?hid4 (by kernel_rfl) (by kernel_rfl) (by kernel_rfl) (fun _ _ _ h => h) (Or.inl ⟨?hwd4, ?hyd4⟩) (by assumption) ?hrd4
          case hid4 => simp only [List.getElem?_toArray, List.getElem?_cons_succ, List.getElem?_cons_zero]; rfl
          case hwd4 => rfl
          case hyd4 => intro wq hSq; (try dsimp only at hSq); go_simp; (try with_reducible rfl)
          try simp only [Act.put, List.setIfInBounds_toArray, List.set_cons_zero, List.set_cons_succ]
          refine wpAnyH_take (i := 5) (oi := ?oid5) (v := ?vd5) ?hid5 (by kernel_rfl) (by kernel_rfl) (by kernel_rfl) (fun _ _ _ h => h) (Or.inl ⟨?hwd5, ?hyd5⟩) (by assumption) ?hrd5
          case hid5 => simp only [List.getElem?_toArray, List.getElem?_cons_succ, List.getElem?_cons_zero]; rfl
          case hwd5 => rfl
          case hyd5 => intro wq hSq; (try dsimp only at hSq); go_simp; (try with_reducible rfl)
          try simp only [Act.put, List.setIfInBounds_toArray, List.set_cons_zero, List.set_cons_succ]
          refine wpAnyH_take (i := 6) (oi := ?oid6) (v := ?vd6) ?hid6 (by kernel_rfl) (by kernel_rfl) (by kernel_rfl) (fun _ _ _ h => h) (Or.inl ⟨?hwd6, ?hyd6⟩) (by assumption) ?hrd6
          case hid6 => simp only [List.getElem?_toArray, List.getElem?_cons_succ, List.getElem?_cons_zero]; rfl
          case hwd6 => rfl
          case hyd6 => intro wq hSq; (try dsimp only at hSq); go_simp; (try with_reducible rfl)
          try simp only [Act.put, List.setIfInBounds_toArray, List.set_cons_zero, List.set_cons_succ]
          refine wpAnyH_take (i := 7) (oi := ?oid7) (v := ?vd7) ?hid7 (by kernel_rfl) (by kernel_rfl) (by kernel_rfl) (fun _ _ _ h => h) (Or.inl ⟨?hwd7, ?hyd7⟩) (by assumption) ?hrd7
          case hid7 => simp only [List.getElem?_toArray, List.getElem?_cons_succ, List.getElem?_cons_zero]; rfl
          case hwd7 => rfl
          case hyd7 => intro wq hSq; (try dsimp only at hSq); go_simp; (try with_reducible rfl)
          try simp only [Act.put, List.setIfInBounds_toArray, List.set_cons_zero, List.set_cons_succ]
          refine wpAnyH_take (i := 8) (oi := ?oid8) (v := ?vd8) ?hid8 (by kernel_rfl) (by kernel_rfl) (by kernel_rfl) (fun _ _ _ h => h) (Or.inl ⟨?hwd8, ?hyd8⟩) (by assumption) ?hrd8
          case hid8 => simp only [List.getElem?_toArray, List.getElem?_cons_succ, List.getElem?_cons_zero]; rfl
          case hwd8 => rfl
          case hyd8 => intro wq hSq; (try dsimp only at hSq); go_simp; (try with_reducible rfl)
          try simp only [Act.put, List.setIfInBounds_toArray, List.set_cons_zero, List.set_cons_succ]
          refine wpAnyH_take (i := 9) (oi := ?oid9) (v := ?vd9) ?hid9 (by kernel_rfl) (by kernel_rfl) (by kernel_rfl) (fun _ _ _ h => h) (Or.inl ⟨?hwd9, ?hyd9⟩) (by assumption) ?hrd9
          case hid9 => simp only [List.getElem?_toArray, List.getElem?_cons_succ, List.getElem?_cons_zero]; rfl
          case hwd9 => rfl
          case hyd9 => intro wq hSq; (try dsimp only at hSq); go_simp; (try with_reducible rfl)
          try simp only [Act.put, List.setIfInBounds_toArray, List.set_cons_zero, List.set_cons_succ]
          refine wpAnyH_take (i := 10) (oi := ?oid10) (v := ?vd10) ?hid10 (by kernel_rfl) (by kernel_rfl) (by kernel_rfl) (fun _ _ _ h => h) (Or.inl ⟨?hwd10, ?hyd10⟩) (by assumption) ?hrd10
          case hid10 => simp only [List.getElem?_toArray, List.getElem?_cons_succ, List.getElem?_cons_zero]; rfl
          case hwd10 => rfl
          case hyd10 => intro wq hSq; (try dsimp only at hSq); go_simp; (try with_reducible rfl)
          try simp only [Act.put, List.setIfInBounds_toArray, List.set_cons_zero, List.set_cons_succ]
          refine wpAnyH_take (i := 11) (oi := ?oid11) (v := ?vd11) ?hid11 (by kernel_rfl) (by kernel_rfl) (by kernel_rfl) (fun _ _ _ h => h) (Or.inl ⟨?hwd11, ?hyd11⟩) (by assumption) ?hrd11
          case hid11 => simp only [List.getElem?_toArray, List.getElem?_cons_succ, List.getElem?_cons_zero]; rfl
          case hwd11 => rfl
          case hyd11 => intro wq hSq; (try dsimp only at hSq); go_simp; (try with_reducible rfl)
          try simp only [Act.put, List.setIfInBounds_toArray, List.set_cons_zero, List.set_cons_succ]
          refine wpAnyH_done (by kernel_rfl) ?_ _
          refine NoPanic.normal ?_
          go_wp2_with fail
          have O2 := own_setB (own_setB (own_setB HOE.out (k * 3 + 0) (.int .i64 0)) (k * 3 + 1) (.int .i64 0)) (k * 3 + 2) (.int .i64 0)
          rw [flat_set1 evCells 3 ev_len (.int .i64 0) E k 0 ⟨0, v1, v2⟩ (by rw [HEL.out]; exact hlt2) (by decide) (by have hk9 : E[k]'(by rw [HEL.out]; exact hlt2) = ⟨v0, v1, v2⟩ := (by have := HEK.out; rw [List.getElem?_eq_getElem (by rw [HEL.out]; exact hlt2)] at this; injection this); rw [hk9]; rfl),
            flat_set1 evCells 3 ev_len (.int .i64 0) _ k 1 ⟨0, 0, v2⟩ (by simp [HEL.out]; exact hlt2) (by decide) (by simp [evCells]),
            flat_set1 evCells 3 ev_len (.int .i64 0) _ k 2 ⟨0, 0, 0⟩ (by simp [HEL.out]; exact hlt2) (by decide) (by simp [evCells]), List.set_set, List.set_set, Nat.add_zero] at O2
          have C2 := ((HCE.out.setCell (p := ⟨ge, k * 3, none⟩) (fun _ => hge) (.int .i64 0)).setCell (p := ⟨ge, k * 3 + 1, none⟩) (fun _ => hge) (.int .i64 0)).setCell (p := ⟨ge, k * 3 + 2, none⟩) (fun _ => hge) (.int .i64 0)
          refine ⟨?rel, ?meas⟩
          case rel => exact ⟨k + 1, E.set k ⟨0, 0, 0⟩, by omega, by simp, by simp [HEL.out], fun t ht => by rw [List.getElem?_set_ne (by omega)]; exact HEG.out t (by omega), O2, C2.drew⟩
          case meas => simp [intOf]; omega
        · have hkn : k = n := by omega
          subst hkn
          have HCE := Lib.hid CE
          have HTX := Lib.hid TX
          clear RX OE hEg hEl z6
          go_wp2_with fail
          obtain ⟨al3, an3, ag3, cl3, cn3, cg3, R3⟩ := HTX.out.r
          have n7 : wr.cell? ⟨h, 7, none⟩ = some (.slice an3 S.ps.length cn3) := R3.box.cell 7
          have n6 : wr.cell? ⟨h, 6, none⟩ = some (.slice al3 S.evs.length cl3) := R3.box.cell 6
          rw [HN.out] at n6
          have HR3 := Lib.hid R3
          have HCNT := Lib.hid (fun p => count_any wr B1 g S p HTX.out.m)
          clear R3
          obtain ⟨wl, hwl⟩ : ∃ wl, wr = wl := ⟨_, rfl⟩
          subst hwl
          go_loopw [13, 14] (fun p _ wx => ∃ t : Nat, t ≤ 11 ∧ p = .int .i64 ((t : Int) - 1) ∧ wx = wr) (fun p _ _ => 10 - (intOf p).toNat + (if intOf p < 0 then 1 else 0))
          case atStart => exact ⟨0, by omega, rfl, rfl⟩
          case round =>
            obtain ⟨t, ht, rfl, hw⟩ := hrel
            subst hw
            by_cases h0 : t = 0
            · subst h0
              have hc0 : cntS S (-1) = 0 := by unfold cntS; rw [if_pos (.inl (by omega))]
              have C1 := HCNT.out (-1)
              rw [hc0] at C1
              have HC1 := Lib.hid C1
              clear C1 hc0
              go_wp2_with fail
              refine HC1.out.mono ?_
              rintro r w8 ⟨rfl, rfl⟩
              go_wp2_with fail
              go_roundw
              case rel => exact ⟨1, by omega, by simp, by first | rfl | trivial⟩
              case measure => simp [intOf]
            obtain ⟨p, rfl⟩ : ∃ p, t = p + 1 := ⟨t - 1, by omega⟩
            have hp : (((p + 1 : Nat) : Int)) - 1 = (p : Int) := by omega
            rw [hp]
            by_cases h10 : p < 10
            · have p0 : (0 : Int) ≤ (p : Int) := by omega
              have p1 : (p : Int) < 10 := by omega
              have g1 : decide ((0 : Int) ≤ (p : Int)) = true := decide_eq_true p0
              by_cases hpl : p < S.ps.length
              · have OC := HR3.out.cnt
                obtain ⟨gn, cn4, hv3, _, _, _, _⟩ := own_block OC (by omega)
                injection hv3 with e7 e8 e9
                subst e7 e9
                have cc : wr.cell? ⟨gn, p, none⟩ = some (.int .i64 S.ps[p].cnt) := own_cells OC p _ (by simp [cntCells, hpl])
                have hcs : cntS S p = S.ps[p].cnt := by unfold cntS; rw [if_neg (by omega), Int.toNat_natCast, List.getD_eq_getElem?_getD, List.getElem?_eq_getElem hpl]; rfl
                have C1 := HCNT.out (p : Int)
                rw [hcs] at C1
                generalize S.ps[p].cnt = cv at cc C1
                have HC1 := Lib.hid C1
                have p2 : (p : Int) < (S.ps.length : Int) := by omega
                clear C1 hcs OC hp ht
                go_wp2_with fail
                refine HC1.out.mono ?_
                rintro r w8 ⟨rfl, rfl⟩
                go_wp2_with fail
                go_roundw
                case rel => exact ⟨p + 2, by omega, int_eq (by omega), by first | rfl | trivial⟩
                case measure =>
                  have q1 : ¬ ((p : Int) + 1 < 0) := by omega
                  have q2 : ¬ ((p : Int) < 0) := by omega
                  simp [intOf, q1, q2]; omega
              · have hcs : cntS S p = 0 := by unfold cntS; rw [if_pos (.inr (by omega))]
                have C1 := HCNT.out (p : Int)
                rw [hcs] at C1
                have HC1 := Lib.hid C1
                have p2 : decide ((p : Int) < (S.ps.length : Int)) = false := decide_eq_false (by omega)
                clear C1 hcs hp ht
                go_wp2_with fail
                refine HC1.out.mono ?_
                rintro r w8 ⟨rfl, rfl⟩
                go_wp2_with fail
                go_roundw
                case rel => exact ⟨p + 2, by omega, int_eq (by omega), by first | rfl | trivial⟩
                case measure =>
                  have q1 : ¬ ((p : Int) + 1 < 0) := by omega
                  have q2 : ¬ ((p : Int) < 0) := by omega
                  simp [intOf, q1, q2]; omega
            · have hp10 : p = 10 := by omega
              subst hp10
              have LI2 := Lib.hid (fun (wx : World) (c : Chg wr wx (fun _ => False)) => list_any B1 g S wx (fun k hk => Nat.lt_of_lt_of_le (HTX.out.lt1 k hk).2 c.size) (HTX.out.m.keep c))
              have CEnd := Lib.hid (CJ.trans' HCE.out (fun k hk e => by have := CJ.size; omega))
              clear ht hp h10 h0
              by_cases hz : k = 0
              · subst hz
                go_wp2_with fail
                refine wp_region_noPanic ?_
                refine wp_region_held_drew (S := fun w' => w'.cell? ⟨h, 6, none⟩ = some (.slice al3 0 cl3)) (by kernel_rfl) (n6) (fun hHeld => ?_)
                refine wpAnyH_take (i := 0) (oi := ?oig0) (v := ?vg0) ?hig0 (by kernel_rfl) (by kernel_rfl) (by kernel_rfl) (fun _ _ _ h => h) (Or.inl ⟨?hwg0, ?hyg0⟩) (by assumption) ?hrg0
                case hig0 => simp only [List.getElem?_toArray, List.getElem?_cons_succ, List.getElem?_cons_zero]; rfl
                case hwg0 => rfl
                case hyg0 => intro wq hSq; (try dsimp only at hSq); go_simp; (try with_reducible rfl)
                try simp only [Act.put, List.setIfInBounds_toArray, List.set_cons_zero, List.set_cons_succ]
                refine wpAnyH_take (i := 3) (oi := ?oig3) (v := ?vg3) ?hig3 (by kernel_rfl) (by kernel_rfl) (by kernel_rfl) (fun _ _ _ h => h) (Or.inl ⟨?hwg3, ?hyg3⟩) (by assumption) ?hrg3
                case hig3 => simp only [List.getElem?_toArray, List.getElem?_cons_succ, List.getElem?_cons_zero]; rfl
                case hwg3 => rfl
                case hyg3 => intro wq hSq; (try dsimp only at hSq); go_simp; (try with_reducible rfl)
                try simp only [Act.put, List.setIfInBounds_toArray, List.set_cons_zero, List.set_cons_succ]
                refine wpAnyH_take (i := 4) (oi := ?oig4) (v := ?vg4) ?hig4 (by kernel_rfl) (by kernel_rfl) (by kernel_rfl) (fun _ _ _ h => h) (Or.inl ⟨?hwg4, ?hyg4⟩) (by assumption) ?hrg4
                case hig4 => simp only [List.getElem?_toArray, List.getElem?_cons_succ, List.getElem?_cons_zero]; rfl
                case hwg4 => rfl
                case hyg4 => intro wq hSq; (try dsimp only at hSq); go_simp; (try with_reducible rfl)
                try simp only [Act.put, List.setIfInBounds_toArray, List.set_cons_zero, List.set_cons_succ]
                refine wpAnyH_take (i := 5) (oi := ?oig5) (v := ?vg5) ?hig5 (by kernel_rfl) (by kernel_rfl) (by kernel_rfl) (fun _ _ _ h => h) (Or.inl ⟨?hwg5, ?hyg5⟩) (by assumption) ?hrg5
                case hig5 => simp only [List.getElem?_toArray, List.getElem?_cons_succ, List.getElem?_cons_zero]; rfl
                case hwg5 => rfl
                case hyg5 => intro wq hSq; (try dsimp only at hSq); go_simp; (try with_reducible rfl)
                try simp only [Act.put, List.setIfInBounds_toArray, List.set_cons_zero, List.set_cons_succ]
                refine wpAnyH_take (i := 6) (oi := ?oig6) (v := ?vg6) ?hig6 (by kernel_rfl) (by kernel_rfl) (by kernel_rfl) (fun _ _ _ h => h) (Or.inl ⟨?hwg6, ?hyg6⟩) (by assumption) ?hrg6
                case hig6 => simp only [List.getElem?_toArray, List.getElem?_cons_succ, List.getElem?_cons_zero]; rfl
                case hwg6 => rfl
                case hyg6 => intro wq hSq; (try dsimp only at hSq); go_simp; (try with_reducible rfl)
                try simp only [Act.put, List.setIfInBounds_toArray, List.set_cons_zero, List.set_cons_succ]
                refine wpAnyH_take (i := 7) (oi := ?oig7) (v := ?vg7) ?hig7 (by kernel_rfl) (by kernel_rfl) (by kernel_rfl) (fun _ _ _ h => h) (Or.inl ⟨?hwg7, ?hyg7⟩) (by assumption) ?hrg7
                case hig7 => simp only [List.getElem?_toArray, List.getElem?_cons_succ, List.getElem?_cons_zero]; rfl
                case hwg7 => rfl
                case hyg7 => intro wq hSq; (try dsimp only at hSq); go_simp; (try with_reducible rfl)
                try simp only [Act.put, List.setIfInBounds_toArray, List.set_cons_zero, List.set_cons_succ]
                refine wpAnyH_ready (rs := [1]) (by kernel_rfl) (by simp) ?_
                refine AllReadyH.cons rfl (fun K hK => ?_) AllReadyH.nil
                go_simp
                refine (LI2.out _ ((Chg.refl wr _).drew)).mono ?_
                rintro r w8 ⟨v, rfl, O8, C8⟩
                rw [HN.out] at O8
                obtain ⟨a8, c8, rfl, _⟩ := own_form O8
                have hHeld2 : (fun w' : World => (w'.cell? ⟨h, 6, none⟩ = some (.slice al3 0 cl3)) ∧ True) _ := ⟨C8.cell n6 (fun hh => hh), trivial⟩
                refine hK.out _ _ hHeld2.1 (fun _ => wpAnyH_mono (S2 := fun w' : World => (w'.cell? ⟨h, 6, none⟩ = some (.slice al3 0 cl3)) ∧ True) (fun _ h => h.1) _ _ _ _ ?_)
                clear hK K hHeld
                try simp only [Act.put, List.setIfInBounds_toArray, List.set_cons_zero, List.set_cons_succ]
                refine wpAnyH_take (i := 2) (oi := ?oih2) (v := ?vh2) ?hih2 (by kernel_rfl) (by kernel_rfl) (by kernel_rfl) (fun _ _ _ h => h) (Or.inl ⟨?hwh2, ?hyh2⟩) (by assumption) ?hrh2
                case hih2 => simp only [List.getElem?_toArray, List.getElem?_cons_succ, List.getElem?_cons_zero]; rfl
                case hwh2 => rfl
                case hyh2 => intro wq hSq; (try dsimp only at hSq); go_simp; (try with_reducible rfl)
                try simp only [Act.put, List.setIfInBounds_toArray, List.set_cons_zero, List.set_cons_succ]
                refine wpAnyH_take (i := 8) (oi := ?oih8) (v := ?vh8) ?hih8 (by kernel_rfl) (by kernel_rfl) (by kernel_rfl) (fun _ _ _ h => h) (Or.inl ⟨?hwh8, ?hyh8⟩) (by assumption) ?hrh8
                case hih8 => simp only [List.getElem?_toArray, List.getElem?_cons_succ, List.getElem?_cons_zero]; rfl
                case hwh8 => rfl
                case hyh8 => intro wq hSq; (try dsimp only at hSq); go_simp; (try with_reducible rfl)
                try simp only [Act.put, List.setIfInBounds_toArray, List.set_cons_zero, List.set_cons_succ]
                refine wpAnyH_take (i := 9) (oi := ?oih9) (v := ?vh9) ?hih9 (by kernel_rfl) (by kernel_rfl) (by kernel_rfl) (fun _ _ _ h => h) (Or.inl ⟨?hwh9, ?hyh9⟩) (by assumption) ?hrh9
                case hih9 => simp only [List.getElem?_toArray, List.getElem?_cons_succ, List.getElem?_cons_zero]; rfl
                case hwh9 => rfl
                case hyh9 => intro wq hSq; (try dsimp only at hSq); go_simp; (try with_reducible rfl)
                try simp only [Act.put, List.setIfInBounds_toArray, List.set_cons_zero, List.set_cons_succ]
                refine wpAnyH_take (i := 10) (oi := ?oih10) (v := ?vh10) ?hih10 (by kernel_rfl) (by kernel_rfl) (by kernel_rfl) (fun _ _ _ h => h) (Or.inl ⟨?hwh10, ?hyh10⟩) (by assumption) ?hrh10
                case hih10 => simp only [List.getElem?_toArray, List.getElem?_cons_succ, List.getElem?_cons_zero]; rfl
                case hwh10 => rfl
                case hyh10 => intro wq hSq; (try dsimp only at hSq); go_simp; (try with_reducible rfl)
                try simp only [Act.put, List.setIfInBounds_toArray, List.set_cons_zero, List.set_cons_succ]
                refine wpAnyH_take (i := 11) (oi := ?oih11) (v := ?vh11) ?hih11 (by kernel_rfl) (by kernel_rfl) (by kernel_rfl) (fun _ _ _ h => h) (Or.inl ⟨?hwh11, ?hyh11⟩) (by assumption) ?hrh11
                case hih11 => simp only [List.getElem?_toArray, List.getElem?_cons_succ, List.getElem?_cons_zero]; rfl
                case hwh11 => rfl
                case hyh11 => intro wq hSq; (try dsimp only at hSq); go_simp; (try with_reducible rfl)
                try simp only [Act.put, List.setIfInBounds_toArray, List.set_cons_zero, List.set_cons_succ]
                refine wpAnyH_take (i := 12) (oi := ?oih12) (v := ?vh12) ?hih12 (by kernel_rfl) (by kernel_rfl) (by kernel_rfl) (fun _ _ _ h => h) (Or.inl ⟨?hwh12, ?hyh12⟩) (by assumption) ?hrh12
                case hih12 => simp only [List.getElem?_toArray, List.getElem?_cons_succ, List.getElem?_cons_zero]; rfl
                case hwh12 => rfl
                case hyh12 => intro wq hSq; (try dsimp only at hSq); go_simp; (try with_reducible rfl)
                try simp only [Act.put, List.setIfInBounds_toArray, List.set_cons_zero, List.set_cons_succ]
                refine wpAnyH_take (i := 13) (oi := ?oih13) (v := ?vh13) ?hih13 (by kernel_rfl) (by kernel_rfl) (by kernel_rfl) (fun _ _ _ h => h) (Or.inl ⟨?hwh13, ?hyh13⟩) (by assumption) ?hrh13
                case hih13 => simp only [List.getElem?_toArray, List.getElem?_cons_succ, List.getElem?_cons_zero]; rfl
                case hwh13 => rfl
                case hyh13 => intro wq hSq; (try dsimp only at hSq); go_simp; (try with_reducible rfl)
                try simp only [Act.put, List.setIfInBounds_toArray, List.set_cons_zero, List.set_cons_succ]
                refine wpAnyH_take (i := 14) (oi := ?oih14) (v := ?vh14) ?hih14 (by kernel_rfl) (by kernel_rfl) (by kernel_rfl) (fun _ _ _ h => h) (Or.inl ⟨?hwh14, ?hyh14⟩) (by assumption) ?hrh14
                case hih14 => simp only [List.getElem?_toArray, List.getElem?_cons_succ, List.getElem?_cons_zero]; rfl
                case hwh14 => rfl
                case hyh14 => intro wq hSq; (try dsimp only at hSq); go_simp; (try with_reducible rfl)
                try simp only [Act.put, List.setIfInBounds_toArray, List.set_cons_zero, List.set_cons_succ]
                refine wpAnyH_take (i := 15) (oi := ?oih15) (v := ?vh15) ?hih15 (by kernel_rfl) (by kernel_rfl) (by kernel_rfl) (fun _ _ _ h => h) (Or.inl ⟨?hwh15, ?hyh15⟩) (by assumption) ?hrh15
                case hih15 => simp only [List.getElem?_toArray, List.getElem?_cons_succ, List.getElem?_cons_zero]; rfl
                case hwh15 => rfl
                case hyh15 => intro wq hSq; (try dsimp only at hSq); go_simp; (try with_reducible rfl)
                try simp only [Act.put, List.setIfInBounds_toArray, List.set_cons_zero, List.set_cons_succ]
                refine wpAnyH_take (i := 16) (oi := ?oih16) (v := ?vh16) ?hih16 (by kernel_rfl) (by kernel_rfl) (by kernel_rfl) (fun _ _ _ h => h) (Or.inl ⟨?hwh16, ?hyh16⟩) (by assumption) ?hrh16
                case hih16 => simp only [List.getElem?_toArray, List.getElem?_cons_succ, List.getElem?_cons_zero]; rfl
                case hwh16 => rfl
                case hyh16 => intro wq hSq; (try dsimp only at hSq); go_simp; (try with_reducible rfl)
                try simp only [Act.put, List.setIfInBounds_toArray, List.set_cons_zero, List.set_cons_succ]
                refine wpAnyH_take (i := 17) (oi := ?oih17) (v := undef) ?hih17 (by kernel_rfl) (by kernel_rfl) (by kernel_rfl) (fun _ _ _ h => h) (Or.inr ⟨?hwh17, rfl⟩) (by assumption) ?hrh17
                case hih17 => simp only [List.getElem?_toArray, List.getElem?_cons_succ, List.getElem?_cons_zero]; rfl
                case hwh17 => rfl
                try simp only [Act.put, List.setIfInBounds_toArray, List.set_cons_zero, List.set_cons_succ]
                refine wpAnyH_take (i := 18) (oi := ?oih18) (v := undef) ?hih18 (by kernel_rfl) (by kernel_rfl) (by kernel_rfl) (fun _ _ _ h => h) (Or.inr ⟨?hwh18, rfl⟩) (by assumption) ?hrh18
                case hih18 => simp only [List.getElem?_toArray, List.getElem?_cons_succ, List.getElem?_cons_zero]; rfl
                case hwh18 => rfl
                try simp only [Act.put, List.setIfInBounds_toArray, List.set_cons_zero, List.set_cons_succ]
                refine wpAnyH_take (i := 19) (oi := ?oih19) (v := undef) ?hih19 (by kernel_rfl) (by kernel_rfl) (by kernel_rfl) (fun _ _ _ h => h) (Or.inr ⟨?hwh19, rfl⟩) (by assumption) ?hrh19
                case hih19 => simp only [List.getElem?_toArray, List.getElem?_cons_succ, List.getElem?_cons_zero]; rfl
                case hwh19 => rfl
                try simp only [Act.put, List.setIfInBounds_toArray, List.set_cons_zero, List.set_cons_succ]
                refine wpAnyH_take (i := 20) (oi := ?oih20) (v := undef) ?hih20 (by kernel_rfl) (by kernel_rfl) (by kernel_rfl) (fun _ _ _ h => h) (Or.inr ⟨?hwh20, rfl⟩) (by assumption) ?hrh20
                case hih20 => simp only [List.getElem?_toArray, List.getElem?_cons_succ, List.getElem?_cons_zero]; rfl
                case hwh20 => rfl
                try simp only [Act.put, List.setIfInBounds_toArray, List.set_cons_zero, List.set_cons_succ]
                refine wpAnyH_take (i := 21) (oi := ?oih21) (v := undef) ?hih21 (by kernel_rfl) (by kernel_rfl) (by kernel_rfl) (fun _ _ _ h => h) (Or.inr ⟨?hwh21, rfl⟩) (by assumption) ?hrh21
                case hih21 => simp only [List.getElem?_toArray, List.getElem?_cons_succ, List.getElem?_cons_zero]; rfl
                case hwh21 => rfl
                try simp only [Act.put, List.setIfInBounds_toArray, List.set_cons_zero, List.set_cons_succ]
                refine wpAnyH_take (i := 22) (oi := ?oih22) (v := undef) ?hih22 (by kernel_rfl) (by kernel_rfl) (by kernel_rfl) (fun _ _ _ h => h) (Or.inr ⟨?hwh22, rfl⟩) (by assumption) ?hrh22
                case hih22 => simp only [List.getElem?_toArray, List.getElem?_cons_succ, List.getElem?_cons_zero]; rfl
                case hwh22 => rfl
                try simp only [Act.put, List.setIfInBounds_toArray, List.set_cons_zero, List.set_cons_succ]
                refine wpAnyH_take (i := 23) (oi := ?oih23) (v := undef) ?hih23 (by kernel_rfl) (by kernel_rfl) (by kernel_rfl) (fun _ _ _ h => h) (Or.inr ⟨?hwh23, rfl⟩) (by assumption) ?hrh23
                case hih23 => simp only [List.getElem?_toArray, List.getElem?_cons_succ, List.getElem?_cons_zero]; rfl
                case hwh23 => rfl
                try simp only [Act.put, List.setIfInBounds_toArray, List.set_cons_zero, List.set_cons_succ]
                refine wpAnyH_take (i := 24) (oi := ?oih24) (v := undef) ?hih24 (by kernel_rfl) (by kernel_rfl) (by kernel_rfl) (fun _ _ _ h => h) (Or.inr ⟨?hwh24, rfl⟩) (by assumption) ?hrh24
                case hih24 => simp only [List.getElem?_toArray, List.getElem?_cons_succ, List.getElem?_cons_zero]; rfl
                case hwh24 => rfl
                try simp only [Act.put, List.setIfInBounds_toArray, List.set_cons_zero, List.set_cons_succ]
                refine wpAnyH_take (i := 25) (oi := ?oih25) (v := undef) ?hih25 (by kernel_rfl) (by kernel_rfl) (by kernel_rfl) (fun _ _ _ h => h) (Or.inr ⟨?hwh25, rfl⟩) (by assumption) ?hrh25
                case hih25 => simp only [List.getElem?_toArray, List.getElem?_cons_succ, List.getElem?_cons_zero]; rfl
                case hwh25 => rfl
                try simp only [Act.put, List.setIfInBounds_toArray, List.set_cons_zero, List.set_cons_succ]
                refine wpAnyH_take (i := 26) (oi := ?oih26) (v := undef) ?hih26 (by kernel_rfl) (by kernel_rfl) (by kernel_rfl) (fun _ _ _ h => h) (Or.inr ⟨?hwh26, rfl⟩) (by assumption) ?hrh26
                case hih26 => simp only [List.getElem?_toArray, List.getElem?_cons_succ, List.getElem?_cons_zero]; rfl
                case hwh26 => rfl
                try simp only [Act.put, List.setIfInBounds_toArray, List.set_cons_zero, List.set_cons_succ]
                refine wpAnyH_take (i := 27) (oi := ?oih27) (v := undef) ?hih27 (by kernel_rfl) (by kernel_rfl) (by kernel_rfl) (fun _ _ _ h => h) (Or.inr ⟨?hwh27, rfl⟩) (by assumption) ?hrh27
                case hih27 => simp only [List.getElem?_toArray, List.getElem?_cons_succ, List.getElem?_cons_zero]; rfl
                case hwh27 => rfl
                try simp only [Act.put, List.setIfInBounds_toArray, List.set_cons_zero, List.set_cons_succ]
                refine wpAnyH_take (i := 28) (oi := ?oih28) (v := ?vh28) ?hih28 (by kernel_rfl) (by kernel_rfl) (by kernel_rfl) (fun _ _ _ h => h) (Or.inl ⟨?hwh28, ?hyh28⟩) (by assumption) ?hrh28
                case hih28 => simp only [List.getElem?_toArray, List.getElem?_cons_succ, List.getElem?_cons_zero]; rfl
                case hwh28 => rfl
                case hyh28 => intro wq hSq; (try dsimp only at hSq); go_simp; (try with_reducible rfl)
                try simp only [Act.put, List.setIfInBounds_toArray, List.set_cons_zero, List.set_cons_succ]
                refine wpAnyH_take (i := 29) (oi := ?oih29) (v := ?vh29) ?hih29 (by kernel_rfl) (by kernel_rfl) (by kernel_rfl) (fun _ _ _ h => h) (Or.inl ⟨?hwh29, ?hyh29⟩) (by assumption) ?hrh29
                case hih29 => simp only [List.getElem?_toArray, List.getElem?_cons_succ, List.getElem?_cons_zero]; rfl
                case hwh29 => rfl
                case hyh29 => intro wq hSq; (try dsimp only at hSq); go_simp; (try with_reducible rfl)
                try simp only [Act.put, List.setIfInBounds_toArray, List.set_cons_zero, List.set_cons_succ]
                refine wpAnyH_take (i := 30) (oi := ?oih30) (v := ?vh30) ?hih30 (by kernel_rfl) (by kernel_rfl) (by kernel_rfl) (fun _ _ _ h => h) (Or.inl ⟨?hwh30, ?hyh30⟩) (by assumption) ?hrh30
                case hih30 => simp only [List.getElem?_toArray, List.getElem?_cons_succ, List.getElem?_cons_zero]; rfl
                case hwh30 => rfl
                case hyh30 => intro wq hSq; (try dsimp only at hSq); go_simp; (try with_reducible rfl)
                try simp only [Act.put, List.setIfInBounds_toArray, List.set_cons_zero, List.set_cons_succ]
                refine wpAnyH_done (by kernel_rfl) ?_ _
                refine NoPanic.normal ?_
                go_wp2_with fail
                go_ret
                exact ⟨rfl, (CEnd.out.trans (((Chg.refl wr _).drew).trans C8)).below (Nat.le_refl _) (fun _ _ h => h)⟩
              · have OL := HR3.out.evs
                obtain ⟨gl, cl5, hv2, _, hgls, _, _⟩ := own_block OL (by rw [HN.out]; omega)
                injection hv2 with e4 e5 e6
                subst e4 e6
                have hS0 : 0 < S.evs.length := by rw [HN.out]; omega
                obtain ⟨ev, hev⟩ : ∃ ev, S.evs[0] = ev := ⟨_, rfl⟩
                obtain ⟨v0, v1, v2⟩ := ev
                have r0 : wr.cell? ⟨gl, 0, none⟩ = some (.int .i64 v0) := own_cell3 ev_len OL 0 0 (by decide) hS0 (v := .int .i64 v0) (by rw [hev]; rfl)
                have r1 : wr.cell? ⟨gl, 1, none⟩ = some (.int .i64 v1) := own_cell3 ev_len OL 0 1 (by decide) hS0 (v := .int .i64 v1) (by rw [hev]; rfl)
                have r2 : wr.cell? ⟨gl, 2, none⟩ = some (.int .i64 v2) := own_cell3 ev_len OL 0 2 (by decide) hS0 (v := .int .i64 v2) (by rw [hev]; rfl)
                have HEV := Lib.hid hev
                have hk0 : ((k : Int) == 0) = false := beq_eq_false_iff_ne.2 (by omega)
                have hk1 : (0 : Int) < (k : Int) := by omega
                have hk2 : 0 < k := by omega
                clear OL hev
                go_wp2_with fail
                refine wp_region_noPanic ?_
                refine wp_region_held_drew (S := fun w' => w'.cell? ⟨h, 6, none⟩ = some (.slice (some ⟨gl, 0, none⟩) k cl3) ∧ w'.cell? ⟨gl, 0, none⟩ = some (.int .i64 v0) ∧ w'.cell? ⟨gl, 1, none⟩ = some (.int .i64 v1) ∧ w'.cell? ⟨gl, 2, none⟩ = some (.int .i64 v2)) (by kernel_rfl) (⟨n6, r0, r1, r2⟩) (fun hHeld => ?_)
                refine wpAnyH_take (i := 0) (oi := ?oim0) (v := ?vm0) ?him0 (by kernel_rfl) (by kernel_rfl) (by kernel_rfl) (fun _ _ _ h => h) (Or.inl ⟨?hwm0, ?hym0⟩) (by assumption) ?hrm0
                case him0 => simp only [List.getElem?_toArray, List.getElem?_cons_succ, List.getElem?_cons_zero]; rfl
                case hwm0 => rfl
                case hym0 => intro wq hSq; (try dsimp only at hSq); go_simp; (try with_reducible rfl)
                try simp only [Act.put, List.setIfInBounds_toArray, List.set_cons_zero, List.set_cons_succ]
                refine wpAnyH_take (i := 3) (oi := ?oim3) (v := ?vm3) ?him3 (by kernel_rfl) (by kernel_rfl) (by kernel_rfl) (fun _ _ _ h => h) (Or.inl ⟨?hwm3, ?hym3⟩) (by assumption) ?hrm3
                case him3 => simp only [List.getElem?_toArray, List.getElem?_cons_succ, List.getElem?_cons_zero]; rfl
                case hwm3 => rfl
                case hym3 => intro wq hSq; (try dsimp only at hSq); go_simp; (try with_reducible rfl)
                try simp only [Act.put, List.setIfInBounds_toArray, List.set_cons_zero, List.set_cons_succ]
                refine wpAnyH_take (i := 4) (oi := ?oim4) (v := ?vm4) ?him4 (by kernel_rfl) (by kernel_rfl) (by kernel_rfl) (fun _ _ _ h => h) (Or.inl ⟨?hwm4, ?hym4⟩) (by assumption) ?hrm4
                case him4 => simp only [List.getElem?_toArray, List.getElem?_cons_succ, List.getElem?_cons_zero]; rfl
                case hwm4 => rfl
                case hym4 => intro wq hSq; (try dsimp only at hSq); go_simp; (try with_reducible rfl)
                try simp only [Act.put, List.setIfInBounds_toArray, List.set_cons_zero, List.set_cons_succ]
                refine wpAnyH_take (i := 5) (oi := ?oim5) (v := ?vm5) ?him5 (by kernel_rfl) (by kernel_rfl) (by kernel_rfl) (fun _ _ _ h => h) (Or.inl ⟨?hwm5, ?hym5⟩) (by assumption) ?hrm5
                case him5 => simp only [List.getElem?_toArray, List.getElem?_cons_succ, List.getElem?_cons_zero]; rfl
                case hwm5 => rfl
                case hym5 => intro wq hSq; (try dsimp only at hSq); go_simp; (try with_reducible rfl)
                try simp only [Act.put, List.setIfInBounds_toArray, List.set_cons_zero, List.set_cons_succ]
                refine wpAnyH_take (i := 6) (oi := ?oim6) (v := ?vm6) ?him6 (by kernel_rfl) (by kernel_rfl) (by kernel_rfl) (fun _ _ _ h => h) (Or.inl ⟨?hwm6, ?hym6⟩) (by assumption) ?hrm6
                case him6 => simp only [List.getElem?_toArray, List.getElem?_cons_succ, List.getElem?_cons_zero]; rfl
                case hwm6 => rfl
                case hym6 => intro wq hSq; (try dsimp only at hSq); go_simp; (try with_reducible rfl)
                try simp only [Act.put, List.setIfInBounds_toArray, List.set_cons_zero, List.set_cons_succ]
                refine wpAnyH_take (i := 7) (oi := ?oim7) (v := ?vm7) ?him7 (by kernel_rfl) (by kernel_rfl) (by kernel_rfl) (fun _ _ _ h => h) (Or.inl ⟨?hwm7, ?hym7⟩) (by assumption) ?hrm7
                case him7 => simp only [List.getElem?_toArray, List.getElem?_cons_succ, List.getElem?_cons_zero]; rfl
                case hwm7 => rfl
                case hym7 => intro wq hSq; (try dsimp only at hSq); go_simp; (try with_reducible rfl)
                try simp only [Act.put, List.setIfInBounds_toArray, List.set_cons_zero, List.set_cons_succ]
                refine wpAnyH_ready (rs := [1]) (by kernel_rfl) (by simp) ?_
                refine AllReadyH.cons rfl (fun K hK => ?_) AllReadyH.nil
                go_simp
                refine (LI2.out _ ((Chg.refl wr _).drew)).mono ?_
                rintro r w8 ⟨v, rfl, O8, C8⟩
                rw [HN.out] at O8
                obtain ⟨a8, c8, rfl, _⟩ := own_form O8
                have n6' := C8.cell n6 (fun hh => hh)
                have r0' := C8.cell r0 (fun hh => hh)
                have r1' := C8.cell r1 (fun hh => hh)
                have r2' := C8.cell r2 (fun hh => hh)
                have hHeld2 : (fun w' : World => (w'.cell? ⟨h, 6, none⟩ = some (.slice (some ⟨gl, 0, none⟩) k cl3) ∧ w'.cell? ⟨gl, 0, none⟩ = some (.int .i64 v0) ∧ w'.cell? ⟨gl, 1, none⟩ = some (.int .i64 v1) ∧ w'.cell? ⟨gl, 2, none⟩ = some (.int .i64 v2)) ∧ True) _ := ⟨⟨n6', r0', r1', r2'⟩, trivial⟩
                refine hK.out _ _ hHeld2.1 (fun _ => wpAnyH_mono (S2 := fun w' : World => (w'.cell? ⟨h, 6, none⟩ = some (.slice (some ⟨gl, 0, none⟩) k cl3) ∧ w'.cell? ⟨gl, 0, none⟩ = some (.int .i64 v0) ∧ w'.cell? ⟨gl, 1, none⟩ = some (.int .i64 v1) ∧ w'.cell? ⟨gl, 2, none⟩ = some (.int .i64 v2)) ∧ True) (fun _ h => h.1) _ _ _ _ ?_)
                clear hK K hHeld
                try simp only [Act.put, List.setIfInBounds_toArray, List.set_cons_zero, List.set_cons_succ]
                refine wpAnyH_take (i := 2) (oi := ?oio2) (v := ?vo2) ?hio2 (by kernel_rfl) (by kernel_rfl) (by kernel_rfl) (fun _ _ _ h => h) (Or.inl ⟨?hwo2, ?hyo2⟩) (by assumption) ?hro2
                case hio2 => simp only [List.getElem?_toArray, List.getElem?_cons_succ, List.getElem?_cons_zero]; rfl
                case hwo2 => rfl
                case hyo2 => intro wq hSq; (try dsimp only at hSq); go_simp; (try with_reducible rfl)
                try simp only [Act.put, List.setIfInBounds_toArray, List.set_cons_zero, List.set_cons_succ]
                refine wpAnyH_take (i := 8) (oi := ?oio8) (v := ?vo8) ?hio8 (by kernel_rfl) (by kernel_rfl) (by kernel_rfl) (fun _ _ _ h => h) (Or.inl ⟨?hwo8, ?hyo8⟩) (by assumption) ?hro8
                case hio8 => simp only [List.getElem?_toArray, List.getElem?_cons_succ, List.getElem?_cons_zero]; rfl
                case hwo8 => rfl
                case hyo8 => intro wq hSq; (try dsimp only at hSq); go_simp; (try with_reducible rfl)
                try simp only [Act.put, List.setIfInBounds_toArray, List.set_cons_zero, List.set_cons_succ]
                refine wpAnyH_take (i := 9) (oi := ?oio9) (v := ?vo9) ?hio9 (by kernel_rfl) (by kernel_rfl) (by kernel_rfl) (fun _ _ _ h => h) (Or.inl ⟨?hwo9, ?hyo9⟩) (by assumption) ?hro9
                case hio9 => simp only [List.getElem?_toArray, List.getElem?_cons_succ, List.getElem?_cons_zero]; rfl
                case hwo9 => rfl
                case hyo9 => intro wq hSq; (try dsimp only at hSq); go_simp; (try with_reducible rfl)
                try simp only [Act.put, List.setIfInBounds_toArray, List.set_cons_zero, List.set_cons_succ]
                refine wpAnyH_take (i := 10) (oi := ?oio10) (v := ?vo10) ?hio10 (by kernel_rfl) (by kernel_rfl) (by kernel_rfl) (fun _ _ _ h => h) (Or.inl ⟨?hwo10, ?hyo10⟩) (by assumption) ?hro10
                case hio10 => simp only [List.getElem?_toArray, List.getElem?_cons_succ, List.getElem?_cons_zero]; rfl
                case hwo10 => rfl
                case hyo10 => intro wq hSq; (try dsimp only at hSq); go_simp; (try with_reducible rfl)
                try simp only [Act.put, List.setIfInBounds_toArray, List.set_cons_zero, List.set_cons_succ]
                refine wpAnyH_take (i := 11) (oi := ?oio11) (v := ?vo11) ?hio11 (by kernel_rfl) (by kernel_rfl) (by kernel_rfl) (fun _ _ _ h => h) (Or.inl ⟨?hwo11, ?hyo11⟩) (by assumption) ?hro11
                case hio11 => simp only [List.getElem?_toArray, List.getElem?_cons_succ, List.getElem?_cons_zero]; rfl
                case hwo11 => rfl
                case hyo11 => intro wq hSq; (try dsimp only at hSq); go_simp; (try with_reducible rfl)
                try simp only [Act.put, List.setIfInBounds_toArray, List.set_cons_zero, List.set_cons_succ]
                refine wpAnyH_take (i := 12) (oi := ?oio12) (v := ?vo12) ?hio12 (by kernel_rfl) (by kernel_rfl) (by kernel_rfl) (fun _ _ _ h => h) (Or.inl ⟨?hwo12, ?hyo12⟩) (by assumption) ?hro12
                case hio12 => simp only [List.getElem?_toArray, List.getElem?_cons_succ, List.getElem?_cons_zero]; rfl
                case hwo12 => rfl
                case hyo12 => intro wq hSq; (try dsimp only at hSq); go_simp; (try with_reducible rfl)
                try simp only [Act.put, List.setIfInBounds_toArray, List.set_cons_zero, List.set_cons_succ]
                refine wpAnyH_take (i := 13) (oi := ?oio13) (v := ?vo13) ?hio13 (by kernel_rfl) (by kernel_rfl) (by kernel_rfl) (fun _ _ _ h => h) (Or.inl ⟨?hwo13, ?hyo13⟩) (by assumption) ?hro13
                case hio13 => simp only [List.getElem?_toArray, List.getElem?_cons_succ, List.getElem?_cons_zero]; rfl
                case hwo13 => rfl
                case hyo13 => intro wq hSq; (try dsimp only at hSq); go_simp; (try with_reducible rfl)
                try simp only [Act.put, List.setIfInBounds_toArray, List.set_cons_zero, List.set_cons_succ]
                refine wpAnyH_take (i := 14) (oi := ?oio14) (v := ?vo14) ?hio14 (by kernel_rfl) (by kernel_rfl) (by kernel_rfl) (fun _ _ _ h => h) (Or.inl ⟨?hwo14, ?hyo14⟩) (by assumption) ?hro14
                case hio14 => simp only [List.getElem?_toArray, List.getElem?_cons_succ, List.getElem?_cons_zero]; rfl
                case hwo14 => rfl
                case hyo14 => intro wq hSq; (try dsimp only at hSq); go_simp; (try with_reducible rfl)
                try simp only [Act.put, List.setIfInBounds_toArray, List.set_cons_zero, List.set_cons_succ]
                refine wpAnyH_take (i := 15) (oi := ?oio15) (v := ?vo15) ?hio15 (by kernel_rfl) (by kernel_rfl) (by kernel_rfl) (fun _ _ _ h => h) (Or.inl ⟨?hwo15, ?hyo15⟩) (by assumption) ?hro15
                case hio15 => simp only [List.getElem?_toArray, List.getElem?_cons_succ, List.getElem?_cons_zero]; rfl
                case hwo15 => rfl
                case hyo15 => intro wq hSq; (try dsimp only at hSq); go_simp; (try with_reducible rfl)
                try simp only [Act.put, List.setIfInBounds_toArray, List.set_cons_zero, List.set_cons_succ]
                refine wpAnyH_take (i := 16) (oi := ?oio16) (v := ?vo16) ?hio16 (by kernel_rfl) (by kernel_rfl) (by kernel_rfl) (fun _ _ _ h => h) (Or.inl ⟨?hwo16, ?hyo16⟩) (by assumption) ?hro16
                case hio16 => simp only [List.getElem?_toArray, List.getElem?_cons_succ, List.getElem?_cons_zero]; rfl
                case hwo16 => rfl
                case hyo16 => intro wq hSq; (try dsimp only at hSq); go_simp; (try with_reducible rfl)
                try simp only [Act.put, List.setIfInBounds_toArray, List.set_cons_zero, List.set_cons_succ]
                refine wpAnyH_take (i := 17) (oi := ?oio17) (v := ?vo17) ?hio17 (by kernel_rfl) (by kernel_rfl) (by kernel_rfl) (fun _ _ _ h => h) (Or.inl ⟨?hwo17, ?hyo17⟩) (by assumption) ?hro17
                case hio17 => simp only [List.getElem?_toArray, List.getElem?_cons_succ, List.getElem?_cons_zero]; rfl
                case hwo17 => rfl
                case hyo17 => intro wq hSq; (try dsimp only at hSq); go_simp; (try with_reducible rfl)
                try simp only [Act.put, List.setIfInBounds_toArray, List.set_cons_zero, List.set_cons_succ]
                refine wpAnyH_take (i := 21) (oi := ?oio21) (v := ?vo21) ?hio21 (by kernel_rfl) (by kernel_rfl) (by kernel_rfl) (fun _ _ _ h => h) (Or.inl ⟨?hwo21, ?hyo21⟩) (by assumption) ?hro21
                case hio21 => simp only [List.getElem?_toArray, List.getElem?_cons_succ, List.getElem?_cons_zero]; rfl
                case hwo21 => rfl
                case hyo21 => intro wq hSq; (try dsimp only at hSq); go_simp; (try with_reducible rfl)
                try simp only [Act.put, List.setIfInBounds_toArray, List.set_cons_zero, List.set_cons_succ]
                refine wpAnyH_take (i := 22) (oi := ?oio22) (v := ?vo22) ?hio22 (by kernel_rfl) (by kernel_rfl) (by kernel_rfl) (fun _ _ _ h => h) (Or.inl ⟨?hwo22, ?hyo22⟩) (by assumption) ?hro22
                case hio22 => simp only [List.getElem?_toArray, List.getElem?_cons_succ, List.getElem?_cons_zero]; rfl
                case hwo22 => rfl
                case hyo22 => intro wq hSq; (try dsimp only at hSq); go_simp; (try with_reducible rfl)
                try simp only [Act.put, List.setIfInBounds_toArray, List.set_cons_zero, List.set_cons_succ]
                refine wpAnyH_take (i := 23) (oi := ?oio23) (v := ?vo23) ?hio23 (by kernel_rfl) (by kernel_rfl) (by kernel_rfl) (fun _ _ _ h => h) (Or.inl ⟨?hwo23, ?hyo23⟩) (by assumption) ?hro23
                case hio23 => simp only [List.getElem?_toArray, List.getElem?_cons_succ, List.getElem?_cons_zero]; rfl
                case hwo23 => rfl
                case hyo23 => intro wq hSq; (try dsimp only at hSq); go_simp; (try with_reducible rfl)
                try simp only [Act.put, List.setIfInBounds_toArray, List.set_cons_zero, List.set_cons_succ]
                refine wpAnyH_take (i := 24) (oi := ?oio24) (v := ?vo24) ?hio24 (by kernel_rfl) (by kernel_rfl) (by kernel_rfl) (fun _ _ _ h => h) (Or.inl ⟨?hwo24, ?hyo24⟩) (by assumption) ?hro24
                case hio24 => simp only [List.getElem?_toArray, List.getElem?_cons_succ, List.getElem?_cons_zero]; rfl
                case hwo24 => rfl
                case hyo24 => intro wq hSq; (try dsimp only at hSq); go_simp; (try with_reducible rfl)
                try simp only [Act.put, List.setIfInBounds_toArray, List.set_cons_zero, List.set_cons_succ]
                refine wpAnyH_take (i := 25) (oi := ?oio25) (v := ?vo25) ?hio25 (by kernel_rfl) (by kernel_rfl) (by kernel_rfl) (fun _ _ _ h => h) (Or.inl ⟨?hwo25, ?hyo25⟩) (by assumption) ?hro25
                case hio25 => simp only [List.getElem?_toArray, List.getElem?_cons_succ, List.getElem?_cons_zero]; rfl
                case hwo25 => rfl
                case hyo25 => intro wq hSq; (try dsimp only at hSq); go_simp; (try with_reducible rfl)
                try simp only [Act.put, List.setIfInBounds_toArray, List.set_cons_zero, List.set_cons_succ]
                refine wpAnyH_take (i := 26) (oi := ?oio26) (v := ?vo26) ?hio26 (by kernel_rfl) (by kernel_rfl) (by kernel_rfl) (fun _ _ _ h => h) (Or.inl ⟨?hwo26, ?hyo26⟩) (by assumption) ?hro26
                case hio26 => simp only [List.getElem?_toArray, List.getElem?_cons_succ, List.getElem?_cons_zero]; rfl
                case hwo26 => rfl
                case hyo26 => intro wq hSq; (try dsimp only at hSq); go_simp; (try with_reducible rfl)
                try simp only [Act.put, List.setIfInBounds_toArray, List.set_cons_zero, List.set_cons_succ]
                have hHeld := hHeld2
                refine wpAnyH_ready (rs := [18]) (by kernel_rfl) (by simp) ?_
                refine AllReadyH.cons rfl (fun K hK => ?_) AllReadyH.nil
                go_simp
                refine (LI2.out w8 (((Chg.refl wr _).drew).trans C8)).mono ?_
                rintro r w9 ⟨v, rfl, O9, C9⟩
                rw [HN.out] at O9
                obtain ⟨g9, c9, rfl, _, _, _, _⟩ := own_block O9 hk2
                have u0 : w9.cell? ⟨g9, 0, none⟩ = some (.int .i64 v0) := own_cell3 ev_len O9 0 0 (by decide) hS0 (v := .int .i64 v0) (by rw [HEV.out]; rfl)
                have u1 : w9.cell? ⟨g9, 1, none⟩ = some (.int .i64 v1) := own_cell3 ev_len O9 0 1 (by decide) hS0 (v := .int .i64 v1) (by rw [HEV.out]; rfl)
                have u2 : w9.cell? ⟨g9, 2, none⟩ = some (.int .i64 v2) := own_cell3 ev_len O9 0 2 (by decide) hS0 (v := .int .i64 v2) (by rw [HEV.out]; rfl)
                have hHeld2 : (fun w' : World => ((w'.cell? ⟨h, 6, none⟩ = some (.slice (some ⟨gl, 0, none⟩) k cl3) ∧ w'.cell? ⟨gl, 0, none⟩ = some (.int .i64 v0) ∧ w'.cell? ⟨gl, 1, none⟩ = some (.int .i64 v1) ∧ w'.cell? ⟨gl, 2, none⟩ = some (.int .i64 v2)) ∧ True) ∧ (w'.cell? ⟨g9, 0, none⟩ = some (.int .i64 v0) ∧ w'.cell? ⟨g9, 1, none⟩ = some (.int .i64 v1) ∧ w'.cell? ⟨g9, 2, none⟩ = some (.int .i64 v2))) _ := ⟨⟨⟨C9.cell n6' (fun hh => hh), C9.cell r0' (fun hh => hh), C9.cell r1' (fun hh => hh), C9.cell r2' (fun hh => hh)⟩, trivial⟩, ⟨u0, u1, u2⟩⟩
                refine hK.out _ _ hHeld2.1 (fun _ => wpAnyH_mono (S2 := fun w' : World => ((w'.cell? ⟨h, 6, none⟩ = some (.slice (some ⟨gl, 0, none⟩) k cl3) ∧ w'.cell? ⟨gl, 0, none⟩ = some (.int .i64 v0) ∧ w'.cell? ⟨gl, 1, none⟩ = some (.int .i64 v1) ∧ w'.cell? ⟨gl, 2, none⟩ = some (.int .i64 v2)) ∧ True) ∧ (w'.cell? ⟨g9, 0, none⟩ = some (.int .i64 v0) ∧ w'.cell? ⟨g9, 1, none⟩ = some (.int .i64 v1) ∧ w'.cell? ⟨g9, 2, none⟩ = some (.int .i64 v2))) (fun _ h => h.1) _ _ _ _ ?_)
                clear hK K hHeld
                try simp only [Act.put, List.setIfInBounds_toArray, List.set_cons_zero, List.set_cons_succ]
                refine wpAnyH_take (i := 19) (oi := ?oip19) (v := ?vp19) ?hip19 (by kernel_rfl) (by kernel_rfl) (by kernel_rfl) (fun _ _ _ h => h) (Or.inl ⟨?hwp19, ?hyp19⟩) (by assumption) ?hrp19
                case hip19 => simp only [List.getElem?_toArray, List.getElem?_cons_succ, List.getElem?_cons_zero]; rfl
                case hwp19 => rfl
                case hyp19 => intro wq hSq; (try dsimp only at hSq); go_simp; (try with_reducible rfl)
                try simp only [Act.put, List.setIfInBounds_toArray, List.set_cons_zero, List.set_cons_succ]
                refine wpAnyH_take (i := 20) (oi := ?oip20) (v := ?vp20) ?hip20 (by kernel_rfl) (by kernel_rfl) (by kernel_rfl) (fun _ _ _ h => h) (Or.inl ⟨?hwp20, ?hyp20⟩) (by assumption) ?hrp20
                case hip20 => simp only [List.getElem?_toArray, List.getElem?_cons_succ, List.getElem?_cons_zero]; rfl
                case hwp20 => rfl
                case hyp20 => intro wq hSq; (try dsimp only at hSq); go_simp; (try with_reducible rfl)
                try simp only [Act.put, List.setIfInBounds_toArray, List.set_cons_zero, List.set_cons_succ]
                refine wpAnyH_take (i := 27) (oi := ?oip27) (v := ?vp27) ?hip27 (by kernel_rfl) (by kernel_rfl) (by kernel_rfl) (fun _ _ _ h => h) (Or.inl ⟨?hwp27, ?hyp27⟩) (by assumption) ?hrp27
                case hip27 => simp only [List.getElem?_toArray, List.getElem?_cons_succ, List.getElem?_cons_zero]; rfl
                case hwp27 => rfl
                case hyp27 => intro wq hSq; (try dsimp only at hSq); go_simp; (try with_reducible rfl)
                try simp only [Act.put, List.setIfInBounds_toArray, List.set_cons_zero, List.set_cons_succ]
                refine wpAnyH_take (i := 28) (oi := ?oip28) (v := ?vp28) ?hip28 (by kernel_rfl) (by kernel_rfl) (by kernel_rfl) (fun _ _ _ h => h) (Or.inl ⟨?hwp28, ?hyp28⟩) (by assumption) ?hrp28
                case hip28 => simp only [List.getElem?_toArray, List.getElem?_cons_succ, List.getElem?_cons_zero]; rfl
                case hwp28 => rfl
                case hyp28 => intro wq hSq; (try dsimp only at hSq); go_simp; (try with_reducible rfl)
                try simp only [Act.put, List.setIfInBounds_toArray, List.set_cons_zero, List.set_cons_succ]
                refine wpAnyH_take (i := 29) (oi := ?oip29) (v := ?vp29) ?hip29 (by kernel_rfl) (by kernel_rfl) (by kernel_rfl) (fun _ _ _ h => h) (Or.inl ⟨?hwp29, ?hyp29⟩) (by assumption) ?hrp29
                case hip29 => simp only [List.getElem?_toArray, List.getElem?_cons_succ, List.getElem?_cons_zero]; rfl
                case hwp29 => rfl
                case hyp29 => intro wq hSq; (try dsimp only at hSq); go_simp; (try with_reducible rfl)
                try simp only [Act.put, List.setIfInBounds_toArray, List.set_cons_zero, List.set_cons_succ]
                refine wpAnyH_take (i := 30) (oi := ?oip30) (v := ?vp30) ?hip30 (by kernel_rfl) (by kernel_rfl) (by kernel_rfl) (fun _ _ _ h => h) (Or.inl ⟨?hwp30, ?hyp30⟩) (by assumption) ?hrp30
                case hip30 => simp only [List.getElem?_toArray, List.getElem?_cons_succ, List.getElem?_cons_zero]; rfl
                case hwp30 => rfl
                case hyp30 => intro wq hSq; (try dsimp only at hSq); go_simp; (try with_reducible rfl)
                try simp only [Act.put, List.setIfInBounds_toArray, List.set_cons_zero, List.set_cons_succ]
                refine wpAnyH_done (by kernel_rfl) ?_ _
                refine NoPanic.normal ?_
                go_wp2_with fail
                go_ret
                exact ⟨by simp, (CEnd.out.trans ((((Chg.refl wr _).drew).trans C8).trans C9)).below (Nat.le_refl _) (fun _ _ h => h)⟩
end Go.Proofs.Ytdhkbephofnfdaa

/- shadow: Build. -/
import Derived.Test.YtadcmelbcahecaaShC
import Derived.Test.YtadcmelbcahecaaOwn2
namespace Go.Proofs.Ytadcmelbcahecaa
open Go.RowKit Go.Shelf

attribute [local go_sem] Oper.semAt_some

theorem info_ent : (Try.prog.info? 35).map (fun i => (i.zero, i.size, i.bytes)) = some (some (.agg #[.int .i64 0, .int .i64 0, .int .i64 0]), 3, 24) := by kernel_rfl

/-- The bits of an entry, but that a frame that holds a table is not written. -/
def shBits (T : List Int) (e : Int) : Int := if T.contains (e / 4096) = true then e / 2 % 16 * 2 - e / 4 % 2 * 4 else e / 2 % 16 * 2
def shEnt (T : List Int) (first : Int) (x : Int × Int) : EntD := ⟨x.1, wrap64 (first + x.2 / 4096), shBits T x.2⟩

theorem andnot4 (e : Int) : bits .andNot .i64 (e / 2 % 16 * 2) 4 = e / 2 % 16 * 2 - e / 4 % 2 * 4 := by
  obtain ⟨m, hm⟩ : ∃ m : Nat, e / 2 % 16 = (m : Int) := ⟨(e / 2 % 16).toNat, by omega⟩
  have hm16 : m < 16 := by omega
  have h4 : e / 4 % 2 = (m : Int) / 2 % 2 := by omega
  rw [h4, hm]
  have : ∀ m : Nat, m < 16 → bits .andNot .i64 ((m : Int) * 2) 4 = (m : Int) * 2 - (m : Int) / 2 % 2 * 4 := by decide
  exact this m hm16

theorem own_ko {β : Type} {n ob B : Nat} {w₀ : World} (hn : n ≤ w₀.heap.size) (hB : n ≤ B) : OwnFrom B (fun (_ : β) W => KO n ob w₀ W) :=
  fun _ W W' row hs hg hr => ⟨Nat.le_trans hs.size hg.size, fun k hk ho => (hg.block k (by have := hs.size; omega) (fun e => by have := (hr k e.symm).1; omega)).trans (hs.blk k hk ho)⟩

theorem actE {F : Fence} {n : Nat} {P : Program} {c : Code} {Q : Exit → Act → World → Prop} {a : Act} {w : World} (h : ∀ A, A = a → c.wpIn F n P Q A w) : c.wpIn F n P Q a w := h a rfl

theorem Lst.ko {n ob : Nat} {A B : World} {ao : Option Addr} {len cap : Nat} {cells : List Value} {size : Nat} (h : Lst A ao len cap cells size) (k : KO n ob A B) (hb : ∀ ad, ao = some ad → 0 < cells.length → ad.block < n ∧ ad.block ≠ ob) : Lst B ao len cap cells size :=
  ⟨⟨h.src.len, h.src.nil, fun ad e j u hu => by
    have hj : j < cells.length := (List.getElem?_eq_some_iff.1 hu).1
    obtain ⟨b1, b2⟩ := hb ad e (by omega)
    have hbk : (ad.add j).block = ad.block := by unfold Addr.add; split <;> rfl
    exact k.cell (by rw [hbk]; exact b1) (by rw [hbk]; exact b2) (h.src.get ad e j u hu)⟩, h.pos, h.le, h.mx⟩

theorem KO.drewL {n ob q : Nat} {A B : World} (h : KO n ob (A.drewN q) B) : KO n ob A B := ⟨h.size, h.blk⟩
theorem below_drewL {n m q : Nat} {A B : World} (h : Below n (A.drewN q) B) (hm : m ≤ n) : Below m A B := ⟨h.os, h.tape, h.output, h.size, fun k hk => h.block k (by omega)⟩

theorem mpL_le (g : Int → Int × Bool) (pages lo : Int) : ∀ k, (mpL g pages lo k).length ≤ k
  | 0 => Nat.le_refl _
  | k + 1 => by
    have := mpL_le g pages lo k
    unfold mpL
    rw [List.length_append]
    split
    · simp; omega
    · simp; omega

theorem appended2 {W w1 : World} {n₀ B : Nat} {t e : TypeId} {size : Nat} {v v' : Value} {k m : Nat} {xs ys : List Value} {tmp : Obj}
    (hv : Boxed W B t v) (hte : t ≠ e) (hrow : W.ownsRow n₀ e size v k xs) (hn₀ : n₀ ≤ W.heap.size) (hB : B < n₀)
    (hown' : w1.ownsRow n₀ e size v' m ys) (hgrow : (W.alloc tmp).grownBy w1 v.ownBlock) :
    Boxed w1 B t v ∧ Boxed (w1.setCell ⟨B, 0, none⟩ v') B t v' ∧ (w1.setCell ⟨B, 0, none⟩ v').ownsRow n₀ e size v' m ys ∧ KeepsOthers W (w1.setCell ⟨B, 0, none⟩ v') ∧ Below B W (w1.setCell ⟨B, 0, none⟩ v') ∧ KO n₀ B W (w1.setCell ⟨B, 0, none⟩ v') := by
  obtain ⟨h1, h2, -, h4, h5⟩ := hv.appended hte (own_base hrow (by omega)) (by omega) (Nat.le_refl B) (own_base hown' (by omega)) hgrow
  refine ⟨h1, h2, hown'.kept (grownBy_setCell' w1 B v') (.inr (h1.not_row hte hown').symm), h4, h5, h5.size, fun j hj hne => ?_⟩
  refine (Below.heap_setCell w1 ⟨B, 0, none⟩ v' j hne).trans ((hgrow.block j (by simp; omega) (fun ej => ?_)).trans (Below.heap_alloc W tmp j (by omega)))
  rcases hrow.2 with ⟨rfl, _⟩ | ⟨g, cap, cur, rfl, hb, _, _⟩
  · simp [Value.ownBlock] at ej
  · simp [Value.ownBlock] at ej
    omega

set_option maxRecDepth 100000 in
set_option maxHeartbeats 4000000 in
theorem build_in (F : Fence) (n : Nat) (h1 : F.fn 15) (h2 : F.fn 17) (h3 : F.fn 28) (h4 : F.fn 29) (h5 : F.fn 39) (h6 : F.fn 40) (h7 : F.fn 30) (hro : F.round = none) (hn : 4 ≤ n)
    (a b nn : Nat) (f : Nat → Int) (ptbr pages first fr cnt : Int) (T : List Int)
    (hMap : ∀ m v wx, Mem 74 wx a b nn f → CallsIn F m Try.prog 40 #[.iface 24 (.pointer (some ⟨a, 0, none⟩)), .int .i64 ptbr, .int .i64 v] wx fun e w' => e = .returned (.tuple #[.int .i64 (mapV nn f ptbr v).1, .bool (mapV nn f ptbr v).2]) ∧ wx = w')
    (hTab : ∀ m wx, Mem 74 wx a b nn f → CallsIn F m Try.prog 17 #[.iface 24 (.pointer (some ⟨a, 0, none⟩)), .int .i64 ptbr, .int .i64 (max 0 pages)] wx fun e w' => ∃ ao cap, e = .returned (.slice ao T.length cap) ∧ Lst w' ao T.length cap (T.flatMap icell) 1 ∧ (∀ ad, ao = some ad → 0 < T.length → ad.block < w'.heap.size) ∧ Chg wx w' (fun _ => False))
    (hSpan : ∀ m wx, CallsIn F m Try.prog 28 #[.int .i64 fr, .int .i64 cnt] wx fun e w' => e = .returned (.tuple #[.int .i64 (shLo fr), .int .i64 (shHi fr cnt)]) ∧ wx = w')
    (hSearch : ∀ m wx ao cap x, Lst wx ao T.length cap (T.flatMap icell) 1 → CallsIn F m Try.prog 30 #[.slice ao T.length cap, .int .i64 x] wx fun e w' => (∃ i : Nat, e = .returned (.tuple #[.int .i64 (i : Int), .bool (T.contains x)])) ∧ ∃ q, w' = wx.drewN q)
    (w : World) (M : Mem 74 w a b nn f) (L : List EntD) (c : Nat) (hc : shHi fr cnt = shLo fr + c) (hL : L = (mpL (mvE nn f ptbr) (max 0 pages) (shLo fr) c).map (shEnt T first)) :
    CallsIn F n Try.prog 15 #[.iface 24 (.pointer (some ⟨a, 0, none⟩)), .int .i64 ptbr, .int .i64 pages, .int .i64 first, .int .i64 fr, .int .i64 cnt] w fun e W' => ∃ v, e = .returned v ∧ W'.ownsRow w.heap.size 35 3 v L.length (L.flatMap entCells) ∧ Chg w W' (fun _ => False) := by
  obtain ⟨i0, hi, hz0, hz1, hz2⟩ := info_parts info_ent
  obtain ⟨pp, hpp⟩ : ∃ pp, max 0 pages = pp := ⟨_, rfl⟩
  have hmx : (if 0 < pages then pages else 0) = pp := by rw [← hpp]; split <;> omega
  refine callsIn_of_wp_marks Try.func15 rfl h1 ?_ hro
  simp only [Try.ntmps15, List.size_toArray, List.length_cons, List.length_nil, Nat.reduceAdd, Nat.reduceSub, Array.replicate_succ, Array.replicate_zero, List.push_toArray, List.append_toArray, List.nil_append, List.cons_append]
  gi_wp2_with fail
  have bF0 := Box.new w 3 #[.int .i64 first]
  have bG0 := Box.new (w.alloc (.cells #[.int .i64 first] 3)) 60 #[.iface 24 (.pointer (some ⟨a, 0, none⟩)), .int .i64 ptbr, .int .i64 pp]
  have bF1 := bF0.alloc (.cells #[.iface 24 (.pointer (some ⟨a, 0, none⟩)), .int .i64 ptbr, .int .i64 pp] 60)
  have C1 := ((Chg.refl w (fun _ => False)).alloc (.cells #[.int .i64 first] 3)).alloc (.cells #[.iface 24 (.pointer (some ⟨a, 0, none⟩)), .int .i64 ptbr, .int .i64 pp] 60)
  have hs1 : ((w.alloc (.cells #[.int .i64 first] 3)).alloc (.cells #[.iface 24 (.pointer (some ⟨a, 0, none⟩)), .int .i64 ptbr, .int .i64 pp] 60)).heap.size = w.heap.size + 2 := by simp
  rw [World.size_alloc] at bG0
  obtain ⟨W1, hW1⟩ : ∃ W1, (w.alloc (.cells #[.int .i64 first] 3)).alloc (.cells #[.iface 24 (.pointer (some ⟨a, 0, none⟩)), .int .i64 ptbr, .int .i64 pp] 60) = W1 := ⟨_, rfl⟩
  rw [hW1] at bG0 bF1 C1 hs1 ⊢
  rw [hpp] at hTab
  have M1 := M.chg C1 (fun h => h) (fun h => h)
  clear hW1 bF0 hmx
  refine ⟨fun _ => by omega, (hTab _ _ M1).mono ?_⟩
  rintro e W2 ⟨ao, cap, rfl, hT2, hTb, C2⟩
  have C12 := C1.trans C2
  have M2 := M1.chg C2 (fun h => h) (fun h => h)
  have bF2 := bF1.chg C2 (fun h => h)
  have bG2 := bG0.chg C2 (fun h => h)
  have hs2 := C2.size
  clear hTab M1 bF1 bG0 C1
  have hn1 : 1 ≤ n := by omega
  gi_wp2_with fail
  have bT3 := (Box.new W2 36 #[.slice ao T.length cap]).alloc (.cells #[.slice none 0 0] 31)
  have bO3 := Boxed.new (W2.alloc (.cells #[.slice ao T.length cap] 36)) 31 (.slice none 0 0)
  have C3 := ((Chg.refl W2 (fun _ => False)).alloc (.cells #[.slice ao T.length cap] 36)).alloc (.cells #[.slice none 0 0] 31)
  have hs3 : ((W2.alloc (.cells #[.slice ao T.length cap] 36)).alloc (.cells #[.slice none 0 0] 31)).heap.size = W2.heap.size + 2 := by simp
  rw [World.size_alloc] at bO3
  obtain ⟨W3, hW3⟩ : ∃ W3, (W2.alloc (.cells #[.slice ao T.length cap] 36)).alloc (.cells #[.slice none 0 0] 31) = W3 := ⟨_, rfl⟩
  rw [hW3] at bT3 bO3 C3 hs3 ⊢
  have bF3 := bF2.chg C3 (fun h => h)
  have bG3 := bG2.chg C3 (fun h => h)
  have M3 := M2.chg C3 (fun h => h) (fun h => h)
  have hT3 := hT2.chg C3 (fun _ _ h => h)
  have C13 := C12.trans C3
  have g0 := bG3.cell 0
  have g1 := bG3.cell 1
  have g2 := bG3.cell 2
  clear hW3 bF2 bG2 M2 C12 hT2
  refine (hSpan _ _).mono ?_
  rintro e w' ⟨rfl, rfl⟩
  gi_wp2_with fail
  refine (mapped_in F (n - 1) h4 hro _ _ _ _ _ _).mono ?_
  rintro e W4 ⟨rfl, hW4⟩
  obtain ⟨s, hs⟩ : ∃ s, W2.heap.size = s := ⟨_, rfl⟩
  rw [hs] at hs3 hs2 bT3 bO3 ⊢
  rw [hs3]
  have bM4 := ((Box.new W3 60 #[.iface 24 (.pointer (some ⟨a, 0, none⟩)), .int .i64 ptbr, .int .i64 pp]).alloc (.cells #[.int .i64 (shLo fr)] 3)).alloc (.cells #[.int .i64 (shLo fr + c)] 3)
  have bL4 := (Box.new (W3.alloc (.cells #[.iface 24 (.pointer (some ⟨a, 0, none⟩)), .int .i64 ptbr, .int .i64 pp] 60)) 3 #[.int .i64 (shLo fr)]).alloc (.cells #[.int .i64 (shLo fr + c)] 3)
  have bE4 := Box.new ((W3.alloc (.cells #[.iface 24 (.pointer (some ⟨a, 0, none⟩)), .int .i64 ptbr, .int .i64 pp] 60)).alloc (.cells #[.int .i64 (shLo fr)] 3)) 3 #[.int .i64 (shLo fr + c)]
  have C4 := (((Chg.refl W3 (fun _ => False)).alloc (.cells #[.iface 24 (.pointer (some ⟨a, 0, none⟩)), .int .i64 ptbr, .int .i64 pp] 60)).alloc (.cells #[.int .i64 (shLo fr)] 3)).alloc (.cells #[.int .i64 (shLo fr + c)] 3)
  rw [World.size_alloc, World.size_alloc, hs3] at bE4
  rw [World.size_alloc, hs3] at bL4
  rw [hs3] at bM4
  rw [← hW4] at bM4 bL4 bE4 C4
  have hs4 : W4.heap.size = s + 5 := by rw [hW4]; simp [hs3]
  have bF4 := bF3.chg C4 (fun h => h)
  have bT4 := bT3.chg C4 (fun h => h)
  have M4 := M3.chg C4 (fun h => h) (fun h => h)
  have hT4 := hT3.chg C4 (fun _ _ h => h)
  have bO4 : Boxed W4 (s + 1) 31 (.slice none 0 0) := (C4.block (s + 1) bO3.lt (fun h => h)).trans bO3
  have hla := M.lta
  have hlb := M.ltb
  have C14 := C13.trans C4
  have hC14 := C14.size
  have hC13 := C13.size
  clear hW4 bF3 bG3 bT3 bO3 M3 hT3 C13 C4 C3 g0 g1 g2
  gi_wp2_with fail
  have hhi : shHi fr cnt ≤ 1048576 := by unfold shHi; omega
  have hlo0 : 0 ≤ shLo fr := by unfold shLo; split <;> omega
  refine actE (fun A hA => ?_)
  refine wpIn_rangeFunc_ownH hro hn1 (gf := 39) (lb := #[.pointer (some ⟨s + 2 + 1, 0, none⟩), .pointer (some ⟨s + 2 + 2, 0, none⟩), .pointer (some ⟨s + 2, 0, none⟩)]) (by rw [hA]; rfl) h5 (enters_of Try.func39 (by kernel_rfl) rfl)
    (mapped_stops F (n - 1) h5 h6 hro (by omega) (s + 5) (s + 1) (s + 2 + 1) (s + 2 + 2) (s + 2) a b nn f (shLo fr) ptbr pp c hlo0 (by omega)
      ⟨by omega, by omega, by omega, by omega, by omega, by omega, by omega, by omega, by omega, by omega⟩ (hMap (n - 1 - 1)) W4 (by omega) ⟨M4, bL4.cell 0, bE4.cell 0, bM4.cell 0, bM4.cell 1, bM4.cell 2⟩)
    KO.trans (fun W l o o' hl ho hc _ => ?kb) (Below.refl _ _) (fun _ => rfl)
    (fun pre W => ((∃ v, Boxed W (s + 1) 31 v ∧ W.ownsRow (s + 5) 35 3 v pre.length (pre.flatMap (fun x => entCells (shEnt T first x)))) ∧ KO (s + 5) (s + 1) W4 W) ∧ Below w.heap.size W4 W)
    (fun _ _ _ => False)
    (OwnFrom.and (OwnFrom.and (Own.from (by simpa using holdsRow_own (s + 5) (s + 1) 31 35 3 (fun pre : List (Int × Int) => pre.length) (fun pre => pre.flatMap (fun x => entCells (shEnt T first x))) (fun _ _ => True)) _) (own_ko (by omega) (by omega))) (ownFrom_below (by omega) (by omega)))
    (fun _ _ _ _ _ hs _ _ => hs)
    ⟨⟨⟨_, bO4, World.ownsRow_nil _ _ _ _⟩, KO.refl _ _ _⟩, Below.refl _ _⟩
    (fun x a' W => a' = { tmps := (((A.tmps.setIfInBounds 42 (.int .i64 x.1)).setIfInBounds 43 (.int .i64 x.2)).setIfInBounds 17 (.int .i64 x.1)).setIfInBounds 18 (.int .i64 x.2), defers := [] })
    (fun x a' _ X Y row hs hg hr => hs)
    ?assign ?body ?done ?stop
  case kb => exact ⟨by simp, fun k hk _ => World.putObj_heap_other (by omega)⟩
  case assign =>
    rintro l pre ⟨v, e⟩ W K ⟨⟨⟨sv, hv, hrow⟩, hK1⟩, hB1⟩ hK
    subst hA
    gi_wp2
    refine hK _ _ ?_ (KO.refl _ _ _) ⟨⟨⟨sv, hv, hrow⟩, hK1⟩, hB1⟩ ?_
    · exact (KeepsOthers.refl W).from _
    · rfl
  case body =>
    rintro l pre ⟨v, e⟩ a' W hl _ ⟨⟨⟨sv, hv, hrow⟩, hK1⟩, hB1⟩ rfl hlt
    subst hA
    simp only [List.setIfInBounds_toArray, List.set_cons_succ, List.set_cons_zero]
    have hc0 := hv.cell
    have hf0 := hv.frozen
    have t0 := hK1.cell (p := ⟨s, 0, none⟩) (by show s < s + 5; omega) (by show s ≠ s + 1; omega) (bT4.cell 0)
    have t1 := hK1.cell (p := ⟨w.heap.size, 0, none⟩) (by show w.heap.size < s + 5; omega) (by show w.heap.size ≠ s + 1; omega) (bF4.cell 0)
    have hT : Lst W ao T.length cap (T.flatMap icell) 1 := hT4.ko hK1 (fun ad e h0 => by have := hTb ad e (by have := hT4.src.len; omega); omega)
    have an := andnot4 e
    have b14 := bit14 e
    have hm1 : 1 ≤ n - 1 - 1 := by omega
    obtain ⟨cc, hcc⟩ : ∃ cc, T.contains (e / 4096) = cc := ⟨_, rfl⟩
    have HB : Hid (shBits T e = if cc = true then e / 2 % 16 * 2 - e / 4 % 2 * 4 else e / 2 % 16 * 2) := by show _ = _; unfold shBits; rw [hcc]
    have hSe := fun wx (h : Lst wx ao T.length cap (T.flatMap icell) 1) => hSearch (n - 1 - 1 - 1) wx ao cap (e / 4096) h
    rw [hcc] at hSe
    clear hcc
    have hN := fun (q : Nat) (bi : Int) => ((Box.new (W.drewN q) 35 #[.int .i64 v, .int .i64 (wrap64 (first + e / 4096)), .int .i64 bi]).src 1 1 3 [.int .i64 v, .int .i64 (wrap64 (first + e / 4096)), .int .i64 bi] rfl rfl).get _ rfl
    have hsW := hK1.size
    have hlen : pre.length ≤ 1048576 := by have := mpL_le (mvE nn f ptbr) pp (shLo fr) c; omega
    have HE : Hid ((pre ++ [(v, e)]).flatMap (fun x => entCells (shEnt T first x)) = pre.flatMap (fun x => entCells (shEnt T first x)) ++ [.int .i64 v, .int .i64 (wrap64 (first + e / 4096)), .int .i64 (shBits T e)]) := by
      show _ = _
      rw [List.flatMap_append]
      rfl
    cases cc
    · gi_wp2_with (first
        | (gi_at_call 30; refine (CallsIn.inRound l (hSe _ hT)).mono ?_; rintro e' w' ⟨⟨ix, rfl⟩, q, rfl⟩)
        | (gi_at_builtin; refine wpListIn_append_own _ rfl _ _ 31 rfl (s + 5) 35 i0 _ 3 24 Try.underlying31 hi hz0 hz1 hz2 rfl (by decide) _ _ _ rfl (own_alloc (show (W.drewN q).ownsRow _ _ _ _ _ _ from hrow) _) ⟨W.heap.size, 0, none⟩ 1 1 [.int .i64 v, .int .i64 (wrap64 (first + e / 4096)), .int .i64 (e / 2 % 16 * 2)] rfl rfl (hN q _) (by simp [Value.oneCell']) (by unfold maxLen; omega) (by omega) (by simp; omega) ?_; intro v' w1 hown' hgrow _; obtain ⟨g', cap', rfl⟩ := ownsRow_succ hown'; obtain ⟨hv1, hv2, hr2, hk2, hb2, hko⟩ := appended2 (show Boxed (W.drewN q) _ _ _ from hv) (by decide) (show (W.drewN q).ownsRow _ _ _ _ _ _ from hrow) (by show s + 5 ≤ W.heap.size; omega) (by omega) hown' hgrow; have hc1 := hv1.cell; have hf1 := hv1.frozen))
      refine ⟨KeepsOthers.from (show KeepsOthers W _ from ⟨hk2.size, hk2.same⟩) _, hko.drewL, ⟨⟨⟨_, hv2, ?_⟩, hK1.trans hko.drewL⟩, hB1.trans (below_drewL hb2 (by omega))⟩⟩
      have e1 : (pre ++ [(v, e)]).length = pre.length + 1 := by simp
      rw [e1, HE.out, HB.out]
      exact hr2
    · gi_wp2_with (first
        | (gi_at_call 30; refine (CallsIn.inRound l (hSe _ hT)).mono ?_; rintro e' w' ⟨⟨ix, rfl⟩, q, rfl⟩)
        | (gi_at_builtin; refine wpListIn_append_own _ rfl _ _ 31 rfl (s + 5) 35 i0 _ 3 24 Try.underlying31 hi hz0 hz1 hz2 rfl (by decide) _ _ _ rfl (own_alloc (show (W.drewN q).ownsRow _ _ _ _ _ _ from hrow) _) ⟨W.heap.size, 0, none⟩ 1 1 [.int .i64 v, .int .i64 (wrap64 (first + e / 4096)), .int .i64 (e / 2 % 16 * 2 - e / 4 % 2 * 4)] rfl rfl (hN q _) (by simp [Value.oneCell']) (by unfold maxLen; omega) (by omega) (by simp; omega) ?_; intro v' w1 hown' hgrow _; obtain ⟨g', cap', rfl⟩ := ownsRow_succ hown'; obtain ⟨hv1, hv2, hr2, hk2, hb2, hko⟩ := appended2 (show Boxed (W.drewN q) _ _ _ from hv) (by decide) (show (W.drewN q).ownsRow _ _ _ _ _ _ from hrow) (by show s + 5 ≤ W.heap.size; omega) (by omega) hown' hgrow; have hc1 := hv1.cell; have hf1 := hv1.frozen))
      refine ⟨KeepsOthers.from (show KeepsOthers W _ from ⟨hk2.size, hk2.same⟩) _, hko.drewL, ⟨⟨⟨_, hv2, ?_⟩, hK1.trans hko.drewL⟩, hB1.trans (below_drewL hb2 (by omega))⟩⟩
      have e1 : (pre ++ [(v, e)]).length = pre.length + 1 := by simp
      rw [e1, HE.out, HB.out]
      exact hr2
  case done =>
    rintro D ys W hD rfl ⟨⟨⟨v, hv, hrow⟩, hK1⟩, hB1⟩ hKd
    have hc := hv.cell
    gi_wp2
    refine ⟨by simp, .inl ⟨_, _, rfl, run_takeDeferred hKd, ?_⟩⟩
    have hle : L.length = (mpL (mvE nn f ptbr) pp (shLo fr) c).length := by rw [hL, List.length_map, hpp]
    have hfl : L.flatMap entCells = (mpL (mvE nn f ptbr) pp (shLo fr) c).flatMap (fun x => entCells (shEnt T first x)) := by rw [hL, List.flatMap_map, hpp]
    refine ⟨_, results_tmp rfl _ _ _, v, rfl, ?_, ?_⟩
    · rw [hle, hfl]
      exact own_base (ownsRow_putObj hrow _ hKd rfl) (by omega)
    · exact Chg.of_below (((C14.below (Nat.le_refl _) (fun _ _ h => h)).trans hB1).trans (belowK_b (w := w) (Nat.le_refl _) W D _ _ (by omega) hKd rfl rfl)) _
  case stop =>
    rintro D c' pre W _ _ h _
    exact h.elim
end Go.Proofs.Ytadcmelbcahecaa

/- trunnionref14.Pack. -/
import Derived.Test.YtdhkbephofnfdaaCPack
import Derived.Test.YtdhkbephofnfdaaTail
namespace Go.Proofs.Ytdhkbephofnfdaa
open Go.RowKit

section
variable {P : Program} {w : World}
theorem op_append_str {o : Oper} {a : Act} {K : Act → World → Prop} {Q : Exit → Act → World → Prop} (sl x : Operand) (t u : TypeId)
    (ho : o.op = .call { callee := .builtin .append, args := #[sl, x], argTypes := #[t, u] })
    (base : Nat) (e : TypeId) (i : TypeInfo) (ht : P.underlying t = some (.slice e)) (hu : P.underlying u = some .string) (hi : P.info? e = some i) (hz : i.zero = some (.int .u8 0))
    (hsize : i.size = 1) (hby : i.bytes = 1)
    (v : Value) (n : Nat) (xs : List Value) (hs : a.eval sl = v) (hown : w.ownsRow base e 1 v n xs) (s : ByteArray) (hx : a.eval x = .string s)
    (h63 : n + s.size ≤ maxLen) (hbytes : n + s.size ≤ 140737488355328) (hbase : base ≤ w.heap.size)
    (h : ∀ v' w', w'.ownsRow base e 1 v' (n + s.size) (xs ++ Go.Lib.strCells s) → w.grownBy w' v.ownBlock → K (a.put o.dst v') w') : o.wp P a w K Q := by
  obtain ⟨v', w', hr, h2, h3, h4⟩ := Go.Lib.run_append_own_string (P := P) w base t u o.type e i ht hu hi hz hsize hby v n xs hown s h63 hbytes hbase
  unfold Oper.wp execOp
  simp only [ho, resolve, invoke, builtin, Sem.run_bind, Sem.run_pure, Result.andThen_ok, List.map_toArray, List.map_cons, List.map_nil, hs, hx, hr]
  exact h v' w' h2 h3
end

/-- Where the reference's Pack is: its writer, too, in a box. -/
structure RkSt (w0 w : World) (B F : Nat) (cs : Array Value) (v : Value) (xs : List Int) : Prop where
  st : PkSt w0 w B cs v xs
  fb : Box w F 104 #[.pointer (some ⟨B, 0, none⟩)]
  fB : F ≠ B
theorem RkSt.keep {w0 w w1 : World} {B F : Nat} {cs : Array Value} {v : Value} {xs : List Int} (S : RkSt w0 w B F cs v xs) (c : Chg w w1 (fun _ => False)) : RkSt w0 w1 B F cs v xs := ⟨S.st.keep c, S.fb.chg c (fun h => h), S.fB⟩
theorem RkSt.grow {w0 w w4 : World} {B F : Nat} {cs : Array Value} {v v4 : Value} {xs ys : List Int} (S : RkSt w0 w B F cs v xs) (hg : w.grownBy w4 v.ownBlock) (O4 : w4.ownsRow (w0.heap.size + 1) 5 1 v4 ys.length (u8s ys)) :
    w4.cell? ⟨B, 0, none⟩ = some v ∧ w4.frozen? ⟨B, 0, none⟩ = false ∧ RkSt w0 (w4.setCell ⟨B, 0, none⟩ v4) B F cs v4 ys ∧ (w4.setCell ⟨B, 0, none⟩ v4).ownsRow (w0.heap.size + 1) 5 1 v4 ys.length (u8s ys) := by
  obtain ⟨h1, h2, h3, h4⟩ := S.st.grow hg O4
  have C4 : Chg w w4 (fun k => v.ownBlock = some k) := (Chg.refl w _).grown hg (fun k hk _ => hk)
  have hne := S.st.pa.bb.ne S.fb (by decide)
  exact ⟨h1, h2, ⟨h3, (S.fb.chg C4 (fun h => hne F h rfl)).far S.fB v4, S.fB⟩, h4⟩

/-- put, of numbers written out. -/
theorem put2_lit {w0 w : World} {B F : Nat} {cs : Array Value} {v : Value} {xs : List Int} (S : RkSt w0 w B F cs v xs) (hx : xs.length ≤ 2000000) (ns : List Int) (m : Nat) (arr : Array Value) (hm : ns.length = m) (harr : arr.toList = ns.flatMap icell) (h0 : 0 < m) (h8 : m ≤ 8) :
    Calls Try.prog 54 #[.agg #[.pointer (some ⟨B, 0, none⟩)], .slice (some ⟨w.heap.size, 0, none⟩) m m] (w.alloc (.cells arr 3)) fun e w' => e = .returned (.tuple #[]) ∧ ∃ v', RkSt w0 w' B F cs v' (xs ++ nums ns) ∧ w'.ownsRow (w0.heap.size + 1) 5 1 v' (xs ++ nums ns).length (u8s (xs ++ nums ns)) := by
  subst hm
  have CA : Chg w (w.alloc (.cells arr 3)) (fun _ => False) := (Chg.refl w _).alloc _
  have S1 := S.keep CA
  have hlen : (ns.flatMap icell).length = ns.length * 1 := by rw [flat_length icell 1 (fun _ => rfl)]
  have hl := (Box.new w 3 arr).lst ns.length ns.length 1 (ns.flatMap icell) harr hlen (Nat.le_refl _) (by unfold maxLen; omega)
  have hbl := S.st.pa.box.lt
  have hvl := S.st.pa.bb.lt
  have hne := S1.st.pa.bb.ne S1.fb (by decide)
  refine (put2_any ns (w.alloc (.cells arr 3)) S1.st.pa hl (fun ad e => ?_) (by have := S1.st.chg.size; rw [World.size_alloc] at this ⊢; have := S.st.chg.size; omega) hx h8 h0).mono ?_
  · cases e
    refine ⟨?_, by rw [World.size_alloc]; exact Nat.lt_succ_self _, fun e => ?_⟩
    · show w.heap.size ≠ B; omega
    · have := (hvl _ e).2
      exact absurd this (by show ¬ w.heap.size < w.heap.size; omega)
  · rintro e w' ⟨rfl, P⟩
    obtain ⟨v', h3, h4⟩ := S1.st.put P
    exact ⟨rfl, v', ⟨h3, S1.fb.chg P.chg (fun h => by
      rcases h with h | h
      · exact S.fB h
      · exact hne F h rfl), S.fB⟩, h4⟩


set_option maxRecDepth 100000 in
set_option maxHeartbeats 8000000 in
theorem rcpack_ok {C : Cfg} {ap ac aw : Option Addr} {cp cc cw : Nat} (w : World) (h : CfgAt w C ap ac aw cp cc cw) (hc : chk C = 0) :
    Calls Try.prog 37 #[.agg (cfgCells C ap ac aw cp cc cw)] w fun e w' => ∃ ao cap, e = .returned (.tuple #[.slice ao (packC C).length cap, .int .i64 0]) ∧ w'.ownsRow w.heap.size 5 1 (.slice ao (packC C).length cap) (packC C).length (u8s (packC C)) ∧ Chg w w' (fun _ => False) := by
  obtain ⟨s1, s2, s3, s4, s5⟩ := chk_small hc
  obtain ⟨i0, hi0, hz0, hz1, hz2⟩ := info_parts info_u8i
  have S3 := Lib.hid s3
  unfold cfgCells
  have hPL : ∀ k, ((C.parts.take k).flatMap partB).length ≤ 256 := fun k => by
    have := partsB_len (C.parts.take k) (fun p hp => s3 p (List.mem_of_mem_take hp))
    have := List.length_take_le' k C.parts
    omega
  have hCL : ∀ k, ((C.chans.take k).flatMap chanB).length ≤ 320 := fun k => by
    have := chansB_len (C.chans.take k)
    have := List.length_take_le' k C.chans
    omega
  have hWL : ∀ k, ((C.wins.take k).flatMap winB).length ≤ 384 := fun k => by
    have := winsB_len (C.wins.take k)
    have := List.length_take_le' k C.wins
    omega
  have HPL := Lib.hid hPL
  have HCL := Lib.hid hCL
  have HWL := Lib.hid hWL
  clear hPL hCL hWL
  obtain ⟨R, hR⟩ : ∃ R, packC C = R := ⟨_, rfl⟩
  have HR : Hid (R = summed (headC C)) := hR.symm
  rw [hR]
  clear hR
  obtain ⟨pg, hpg⟩ : ∃ x, C.pages = x := ⟨_, rfl⟩
  obtain ⟨mj, hmj⟩ : ∃ x, C.major = x := ⟨_, rfl⟩
  obtain ⟨sw, hsw⟩ : ∃ x, C.switch = x := ⟨_, rfl⟩
  obtain ⟨np, hnp⟩ : ∃ x, C.parts.length = x := ⟨_, rfl⟩
  obtain ⟨nc, hnc⟩ : ∃ x, C.chans.length = x := ⟨_, rfl⟩
  obtain ⟨nw, hnw⟩ : ∃ x, C.wins.length = x := ⟨_, rfl⟩
  have HH : Hid (headC C = (((magic ++ nums [pg, mj, sw, (np : Int)]) ++ C.parts.flatMap partB) ++ nums [(nc : Int)]) ++ C.chans.flatMap chanB ++ nums [(nw : Int)] ++ C.wins.flatMap winB) := by
    show _ = _
    unfold headC
    rw [hpg, hmj, hsw, hnp, hnc, hnw]
  rw [hpg, hmj, hsw, hnp, hnc, hnw]
  rw [hnp] at s1 s2
  rw [hnc] at s4
  rw [hnw] at s5
  obtain ⟨wb, hwb⟩ : ∃ wb, w.alloc (.cells #[.int .i64 pg, .int .i64 mj, .int .i64 sw, .slice ap np cp, .slice ac nc cc, .slice aw nw cw] 27) = wb := ⟨_, rfl⟩
  have Cb : Chg w wb (fun _ => False) := by rw [← hwb]; exact (Chg.refl w _).alloc _
  have BXb := Box.new w 27 #[.int .i64 pg, .int .i64 mj, .int .i64 sw, .slice ap np cp, .slice ac nc cc, .slice aw nw cw]
  rw [hwb] at BXb
  have hb := h.keep Cb
  have HCK := rcheck_at hb hc hpg hmj hsw hnp hnc hnw
  have hsz : wb.heap.size = w.heap.size + 1 := by rw [← hwb, World.size_alloc]
  have HNP := Lib.hid hnp
  have HNC := Lib.hid hnc
  have HNW := Lib.hid hnw
  have HCF := Lib.hid h
  have q0 := BXb.cell 0
  have q1 := BXb.cell 1
  have q2 := BXb.cell 2
  have q3 := BXb.cell 3
  have q4 := BXb.cell 4
  have q5 := BXb.cell 5
  clear hc hpg hmj hsw hnp hnc hnw hb h
  go_enter Try.func37, Try.ntmps37
  go_wp2_with fail
  refine HCK.mono ?_
  rintro e w1 ⟨rfl, C1⟩
  clear HCK hwb q0 q1 q2 q3 q4 q5
  have cv := Go.Lib.run_convert_bytes_const (P := Try.prog) w1 59 5 #[.int .u8 84, .int .u8 82, .int .u8 67, .int .u8 49] 4 4 Try.underlying59 Try.underlying5
  obtain ⟨wa0, hwa⟩ : ∃ wa0, (w1.alloc (.cells #[.int .u8 84, .int .u8 82, .int .u8 67, .int .u8 49] 5 (4, 5))).alloc (.cells #[.slice (some ⟨w1.heap.size, 0, none⟩) 4 4] 59) = wa0 := ⟨_, rfl⟩
  obtain ⟨wa, hwf⟩ : ∃ wa, wa0.alloc (.cells #[.pointer (some ⟨w1.heap.size + 1, 0, none⟩)] 104) = wa := ⟨_, rfl⟩
  have Cf : Chg wa0 wa (fun _ => False) := by rw [← hwf]; exact (Chg.refl wa0 _).alloc _
  have BF := Box.new wa0 104 #[.pointer (some ⟨w1.heap.size + 1, 0, none⟩)]
  rw [hwf] at BF
  have Ca : Chg w1 wa0 (fun _ => False) := by rw [← hwa]; exact ((Chg.refl w1 _).alloc _).alloc _
  have hs1 := C1.size
  have hcells : ∀ j u, (u8s magic)[j]? = some u → wa0.cell? ⟨w1.heap.size, j, none⟩ = some u := fun j u hu => by
    have hn : (w1.alloc (.cells #[.int .u8 84, .int .u8 82, .int .u8 67, .int .u8 49] 5 (4, 5))).cell? (Addr.add ⟨w1.heap.size, 0, none⟩ j) = some u := Go.World.news_of_block (B := w1.heap.size) (heap_alloc_new w1 _) j u hu
    rw [Addr.add_lit, Nat.zero_add] at hn
    rw [← hwa]
    exact ((Chg.refl _ (fun _ => False)).alloc _).cell hn (fun h => h)
  have S0 : PkSt w wa0 (w1.heap.size + 1) #[.int .i64 pg, .int .i64 mj, .int .i64 sw, .slice ap np cp, .slice ac nc cc, .slice aw nw cw] (.slice (some ⟨w1.heap.size, 0, none⟩) 4 4) magic := by
    refine ⟨⟨?_, .lit w1.heap.size rfl (by decide) (by omega) ?_ hcells ?_⟩, (BXb.chg C1 (fun h => h)).chg Ca (fun h => h), by omega, (Cb.trans C1).trans Ca⟩
    · have := Box.new (w1.alloc (.cells #[.int .u8 84, .int .u8 82, .int .u8 67, .int .u8 49] 5 (4, 5))) 59 #[.slice (some ⟨w1.heap.size, 0, none⟩) 4 4]
      rw [World.size_alloc, hwa] at this
      exact this
    · rw [← hwa, World.size_alloc, World.size_alloc]; omega
    · refine ⟨#[.int .u8 84, .int .u8 82, .int .u8 67, .int .u8 49], (4, 5), ?_⟩
      rw [← hwa]
      exact (Below.heap_alloc _ _ _ (by rw [World.size_alloc]; omega)).trans (heap_alloc_new w1 _)
  obtain ⟨B, hBd⟩ : ∃ B, w1.heap.size + 1 = B := ⟨_, rfl⟩
  have hF0 : wa0.heap.size = w1.heap.size + 2 := by rw [← hwa, World.size_alloc, World.size_alloc]
  obtain ⟨F, hFd⟩ : ∃ F, w1.heap.size + 2 = F := ⟨_, rfl⟩
  rw [hF0, hFd] at BF
  rw [hBd] at S0 BF hwf
  have S : RkSt w wa B F _ _ magic := ⟨S0.keep Cf, BF, by omega⟩
  go_upto_region 6 with fail
  try simp only [hFd, hBd]
  obtain ⟨vm, hvm⟩ : ∃ vm, Value.slice (some ⟨w1.heap.size, 0, none⟩) 4 4 = vm := ⟨_, rfl⟩
  rw [hvm] at S
  clear hvm
  have HP := put2_lit S (by decide) [pg, mj, sw, (np : Int)] 4 #[.int .i64 pg, .int .i64 mj, .int .i64 sw, .int .i64 np] rfl rfl (by decide) (by decide)
  have q0 := S.st.cfg.cell 0
  have q1 := S.st.cfg.cell 1
  have q2 := S.st.cfg.cell 2
  have q3 := S.st.cfg.cell 3
  have q4 := S.st.cfg.cell 4
  have q5 := S.st.cfg.cell 5
  have f0 := S.fb.cell 0
  clear hcells C1 Ca cv hwa BXb Cb S0 BF Cf hwf hF0
  go_wp2_with fail
  refine HP.mono ?_
  rintro e w2 ⟨rfl, v2, S2, O2⟩
  clear HP S q0 q1 q2 q3 q4 q5 f0
  obtain ⟨X1, hX1⟩ : ∃ X, magic ++ nums [pg, mj, sw, (np : Int)] = X := ⟨_, rfl⟩
  have l1 : X1.length = 20 := by rw [← hX1]; rfl
  rw [hX1] at S2 O2 HH
  clear hX1
  have q0 := S2.st.cfg.cell 0
  have q1 := S2.st.cfg.cell 1
  have q2 := S2.st.cfg.cell 2
  have q3 := S2.st.cfg.cell 3
  have q4 := S2.st.cfg.cell 4
  have q5 := S2.st.cfg.cell 5
  have f0 := S2.fb.cell 0
  go_wp2_with fail
  go_loopg [7] np (fun g s7 wr => ∃ k : Nat, ∃ v, g + k = np ∧ s7 = .int .i64 k ∧ RkSt w wr B F #[.int .i64 pg, .int .i64 mj, .int .i64 sw, .slice ap np cp, .slice ac nc cc, .slice aw nw cw] v (X1 ++ (C.parts.take k).flatMap partB) ∧ wr.ownsRow (w.heap.size + 1) 5 1 v (X1 ++ (C.parts.take k).flatMap partB).length (u8s (X1 ++ (C.parts.take k).flatMap partB)))
  case atStart => exact ⟨0, _, rfl, rfl, (by rw [List.take_zero, List.flatMap_nil, List.append_nil]; exact S2), (by rw [List.take_zero, List.flatMap_nil, List.append_nil]; exact O2)⟩
  case round =>
    obtain ⟨k, v, hk, rfl, S, O⟩ := hrel
    have HK := Lib.hid hk
    by_cases hlt : k < np
    · have hlt2 : k < C.parts.length := by rw [HNP.out]; exact hlt
      have CFk := HCF.out.keep S.st.chg
      obtain ⟨g0, o0, rfl⟩ := CFk.ps.pos (by omega)
      have c0 := Lst.cell0 (n := 3) (f := partCells) (fun _ => rfl) CFk.ps k (by decide) hlt2 rfl
      have c1 := Lst.cell (n := 3) (f := partCells) (fun _ => rfl) CFk.ps k 1 (by decide) hlt2 rfl
      have c2 := Lst.cell (n := 3) (f := partCells) (fun _ => rfl) CFk.ps k 2 (by decide) hlt2 rfl
      have HTK := Lib.hid (flat_take_succ partB C.parts k hlt2)
      have hxl : (X1 ++ (C.parts.take k).flatMap partB).length ≤ 276 := by have := HPL.out k; rw [List.length_append]; omega
      have CLst := Lib.hid CFk.ps
      have hns := S3.out _ (List.getElem_mem hlt2)
      obtain ⟨pd, hpd⟩ : ∃ pd, C.parts[k] = pd := ⟨_, rfl⟩
      have HPD := Lib.hid hpd
      have HG0 := Lib.hid (show g0 < w.heap.size from World.block_lt_of_cell? w _ (Lst.cell0 (n := 3) (f := partCells) (fun _ => rfl) HCF.out.ps k (by decide) hlt2 rfl))
      rw [hpd] at c0 c1 c2 HTK hns
      obtain ⟨ys, hys⟩ : ∃ ys, X1 ++ (C.parts.take k).flatMap partB = ys := ⟨_, rfl⟩
      rw [hys] at S O hxl
      have HYS := Lib.hid hys
      have hk0 : (0 : Int) ≤ (k : Int) := by omega
      have hk1 : (k : Int) < (np : Int) := by omega
      have q0 := S.st.cfg.cell 0
      have q1 := S.st.cfg.cell 1
      have q2 := S.st.cfg.cell 2
      have q3 := S.st.cfg.cell 3
      have q4 := S.st.cfg.cell 4
      have q5 := S.st.cfg.cell 5
      have f0 := S.fb.cell 0
      have HSw := Lib.hid S
      have HOw := Lib.hid O
      have hbb := S.st.pa.box.cell 0
      clear hys hk CFk hpd O
      clear S
      go_wp2_with fail
      refine wp_region_noPanic ?_
      refine wp_region_L 21 (fun w' => w'.cell? ⟨F, 0, none⟩ = some (.pointer (some ⟨B, 0, none⟩)) ∧ w'.cell? ⟨w.heap.size, 3, none⟩ = some (.slice (some ⟨g0, o0, none⟩) np cp) ∧ w'.cell? ⟨g0, o0 + k * 3, none⟩ = some (.string pd.name) ∧ w'.cell? ⟨g0, o0 + k * 3 + 1, none⟩ = some (.int .i64 pd.pages) ∧ w'.cell? ⟨g0, o0 + k * 3 + 2, none⟩ = some (.int .i64 pd.action)) (by kernel_rfl) (⟨f0, q3, c0, c1, c2⟩) (fun hHeld => ?_)
      refine wpAnyL_take (i := 0) (oi := ?oia0) (v := ?va0) ?hia0 (by kernel_rfl) (by kernel_rfl) (by kernel_rfl) (by kernel_rfl) (fun _ _ _ h => h) (Or.inl ⟨?hwa0, ?hya0⟩) (by assumption) ?hra0
      case hia0 => simp only [List.getElem?_toArray, List.getElem?_cons_succ, List.getElem?_cons_zero]; rfl
      case hwa0 => rfl
      case hya0 => intro wq hSq; (try dsimp only at hSq); go_simp; (try with_reducible rfl)
      try simp only [Act.put, List.setIfInBounds_toArray, List.set_cons_zero, List.set_cons_succ]
      refine wpAnyL_take (i := 1) (oi := ?oia1) (v := ?va1) ?hia1 (by kernel_rfl) (by kernel_rfl) (by kernel_rfl) (by kernel_rfl) (fun _ _ _ h => h) (Or.inl ⟨?hwa1, ?hya1⟩) (by assumption) ?hra1
      case hia1 => simp only [List.getElem?_toArray, List.getElem?_cons_succ, List.getElem?_cons_zero]; rfl
      case hwa1 => rfl
      case hya1 => intro wq hSq; (try dsimp only at hSq); go_simp; (try with_reducible rfl)
      try simp only [Act.put, List.setIfInBounds_toArray, List.set_cons_zero, List.set_cons_succ]
      refine wpAnyL_take (i := 2) (oi := ?oia2) (v := ?va2) ?hia2 (by kernel_rfl) (by kernel_rfl) (by kernel_rfl) (by kernel_rfl) (fun _ _ _ h => h) (Or.inl ⟨?hwa2, ?hya2⟩) (by assumption) ?hra2
      case hia2 => simp only [List.getElem?_toArray, List.getElem?_cons_succ, List.getElem?_cons_zero]; rfl
      case hwa2 => rfl
      case hya2 => intro wq hSq; (try dsimp only at hSq); go_simp; (try with_reducible rfl)
      try simp only [Act.put, List.setIfInBounds_toArray, List.set_cons_zero, List.set_cons_succ]
      refine wpAnyL_take (i := 3) (oi := ?oia3) (v := ?va3) ?hia3 (by kernel_rfl) (by kernel_rfl) (by kernel_rfl) (by kernel_rfl) (fun _ _ _ h => h) (Or.inl ⟨?hwa3, ?hya3⟩) (by assumption) ?hra3
      case hia3 => simp only [List.getElem?_toArray, List.getElem?_cons_succ, List.getElem?_cons_zero]; rfl
      case hwa3 => rfl
      case hya3 => intro wq hSq; (try dsimp only at hSq); go_simp; (try with_reducible rfl)
      try simp only [Act.put, List.setIfInBounds_toArray, List.set_cons_zero, List.set_cons_succ]
      refine wpAnyL_take (i := 4) (oi := ?oia4) (v := ?va4) ?hia4 (by kernel_rfl) (by kernel_rfl) (by kernel_rfl) (by kernel_rfl) (fun _ _ _ h => h) (Or.inl ⟨?hwa4, ?hya4⟩) (by assumption) ?hra4
      case hia4 => simp only [List.getElem?_toArray, List.getElem?_cons_succ, List.getElem?_cons_zero]; rfl
      case hwa4 => rfl
      case hya4 => intro wq hSq; (try dsimp only at hSq); go_simp; (try with_reducible rfl)
      try simp only [Act.put, List.setIfInBounds_toArray, List.set_cons_zero, List.set_cons_succ]
      refine wpAnyL_take (i := 5) (oi := ?oia5) (v := ?va5) ?hia5 (by kernel_rfl) (by kernel_rfl) (by kernel_rfl) (by kernel_rfl) (fun _ _ _ h => h) (Or.inl ⟨?hwa5, ?hya5⟩) (by assumption) ?hra5
      case hia5 => simp only [List.getElem?_toArray, List.getElem?_cons_succ, List.getElem?_cons_zero]; rfl
      case hwa5 => rfl
      case hya5 => intro wq hSq; (try dsimp only at hSq); go_simp; (try with_reducible rfl)
      try simp only [Act.put, List.setIfInBounds_toArray, List.set_cons_zero, List.set_cons_succ]
      refine wpAnyL_take (i := 6) (oi := ?oia6) (v := ?va6) ?hia6 (by kernel_rfl) (by kernel_rfl) (by kernel_rfl) (by kernel_rfl) (fun _ _ _ h => h) (Or.inl ⟨?hwa6, ?hya6⟩) (by assumption) ?hra6
      case hia6 => simp only [List.getElem?_toArray, List.getElem?_cons_succ, List.getElem?_cons_zero]; rfl
      case hwa6 => rfl
      case hya6 => intro wq hSq; (try dsimp only at hSq); go_simp; (try with_reducible rfl)
      try simp only [Act.put, List.setIfInBounds_toArray, List.set_cons_zero, List.set_cons_succ]
      refine wpAnyL_take (i := 7) (oi := ?oia7) (v := ?va7) ?hia7 (by kernel_rfl) (by kernel_rfl) (by kernel_rfl) (by kernel_rfl) (fun _ _ _ h => h) (Or.inl ⟨?hwa7, ?hya7⟩) (by assumption) ?hra7
      case hia7 => simp only [List.getElem?_toArray, List.getElem?_cons_succ, List.getElem?_cons_zero]; rfl
      case hwa7 => rfl
      case hya7 => intro wq hSq; (try dsimp only at hSq); go_simp; (try with_reducible rfl)
      try simp only [Act.put, List.setIfInBounds_toArray, List.set_cons_zero, List.set_cons_succ]
      refine wpAnyL_take (i := 8) (oi := ?oia8) (v := ?va8) ?hia8 (by kernel_rfl) (by kernel_rfl) (by kernel_rfl) (by kernel_rfl) (fun _ _ _ h => h) (Or.inl ⟨?hwa8, ?hya8⟩) (by assumption) ?hra8
      case hia8 => simp only [List.getElem?_toArray, List.getElem?_cons_succ, List.getElem?_cons_zero]; rfl
      case hwa8 => rfl
      case hya8 => intro wq hSq; (try dsimp only at hSq); go_simp; (try with_reducible rfl)
      try simp only [Act.put, List.setIfInBounds_toArray, List.set_cons_zero, List.set_cons_succ]
      refine wpAnyL_take (i := 9) (oi := ?oia9) (v := ?va9) ?hia9 (by kernel_rfl) (by kernel_rfl) (by kernel_rfl) (by kernel_rfl) (fun _ _ _ h => h) (Or.inl ⟨?hwa9, ?hya9⟩) (by assumption) ?hra9
      case hia9 => simp only [List.getElem?_toArray, List.getElem?_cons_succ, List.getElem?_cons_zero]; rfl
      case hwa9 => rfl
      case hya9 => intro wq hSq; (try dsimp only at hSq); go_simp; (try with_reducible rfl)
      try simp only [Act.put, List.setIfInBounds_toArray, List.set_cons_zero, List.set_cons_succ]
      refine wpAnyL_take (i := 10) (oi := ?oia10) (v := ?va10) ?hia10 (by kernel_rfl) (by kernel_rfl) (by kernel_rfl) (by kernel_rfl) (fun _ _ _ h => h) (Or.inl ⟨?hwa10, ?hya10⟩) (by assumption) ?hra10
      case hia10 => simp only [List.getElem?_toArray, List.getElem?_cons_succ, List.getElem?_cons_zero]; rfl
      case hwa10 => rfl
      case hya10 => intro wq hSq; (try dsimp only at hSq); go_simp; (try with_reducible rfl)
      try simp only [Act.put, List.setIfInBounds_toArray, List.set_cons_zero, List.set_cons_succ]
      refine wpAnyL_take (i := 11) (oi := ?oia11) (v := ?va11) ?hia11 (by kernel_rfl) (by kernel_rfl) (by kernel_rfl) (by kernel_rfl) (fun _ _ _ h => h) (Or.inl ⟨?hwa11, ?hya11⟩) (by assumption) ?hra11
      case hia11 => simp only [List.getElem?_toArray, List.getElem?_cons_succ, List.getElem?_cons_zero]; rfl
      case hwa11 => rfl
      case hya11 => intro wq hSq; (try dsimp only at hSq); go_simp; (try with_reducible rfl)
      try simp only [Act.put, List.setIfInBounds_toArray, List.set_cons_zero, List.set_cons_succ]
      refine wpAnyL_take (i := 12) (oi := ?oia12) (v := ?va12) ?hia12 (by kernel_rfl) (by kernel_rfl) (by kernel_rfl) (by kernel_rfl) (fun _ _ _ h => h) (Or.inl ⟨?hwa12, ?hya12⟩) (by assumption) ?hra12
      case hia12 => simp only [List.getElem?_toArray, List.getElem?_cons_succ, List.getElem?_cons_zero]; rfl
      case hwa12 => rfl
      case hya12 => intro wq hSq; (try dsimp only at hSq); go_simp; (try with_reducible rfl)
      try simp only [Act.put, List.setIfInBounds_toArray, List.set_cons_zero, List.set_cons_succ]
      refine wpAnyL_take (i := 13) (oi := ?oia13) (v := ?va13) ?hia13 (by kernel_rfl) (by kernel_rfl) (by kernel_rfl) (by kernel_rfl) (fun _ _ _ h => h) (Or.inl ⟨?hwa13, ?hya13⟩) (by assumption) ?hra13
      case hia13 => simp only [List.getElem?_toArray, List.getElem?_cons_succ, List.getElem?_cons_zero]; rfl
      case hwa13 => rfl
      case hya13 => intro wq hSq; (try dsimp only at hSq); go_simp; (try with_reducible rfl)
      try simp only [Act.put, List.setIfInBounds_toArray, List.set_cons_zero, List.set_cons_succ]
      refine wpAnyL_take (i := 14) (oi := ?oia14) (v := ?va14) ?hia14 (by kernel_rfl) (by kernel_rfl) (by kernel_rfl) (by kernel_rfl) (fun _ _ _ h => h) (Or.inl ⟨?hwa14, ?hya14⟩) (by assumption) ?hra14
      case hia14 => simp only [List.getElem?_toArray, List.getElem?_cons_succ, List.getElem?_cons_zero]; rfl
      case hwa14 => rfl
      case hya14 => intro wq hSq; (try dsimp only at hSq); go_simp; (try with_reducible rfl)
      try simp only [Act.put, List.setIfInBounds_toArray, List.set_cons_zero, List.set_cons_succ]
      refine wpAnyL_take (i := 15) (oi := ?oia15) (v := ?va15) ?hia15 (by kernel_rfl) (by kernel_rfl) (by kernel_rfl) (by kernel_rfl) (fun _ _ _ h => h) (Or.inl ⟨?hwa15, ?hya15⟩) (by assumption) ?hra15
      case hia15 => simp only [List.getElem?_toArray, List.getElem?_cons_succ, List.getElem?_cons_zero]; rfl
      case hwa15 => rfl
      case hya15 => intro wq hSq; (try dsimp only at hSq); go_simp; (try with_reducible rfl)
      try simp only [Act.put, List.setIfInBounds_toArray, List.set_cons_zero, List.set_cons_succ]
      refine wpAnyL_take (i := 16) (oi := ?oia16) (v := ?va16) ?hia16 (by kernel_rfl) (by kernel_rfl) (by kernel_rfl) (by kernel_rfl) (fun _ _ _ h => h) (Or.inl ⟨?hwa16, ?hya16⟩) (by assumption) ?hra16
      case hia16 => simp only [List.getElem?_toArray, List.getElem?_cons_succ, List.getElem?_cons_zero]; rfl
      case hwa16 => rfl
      case hya16 => intro wq hSq; (try dsimp only at hSq); go_simp; (try with_reducible rfl)
      try simp only [Act.put, List.setIfInBounds_toArray, List.set_cons_zero, List.set_cons_succ]
      refine wpAnyL_take (i := 17) (oi := ?oia17) (v := ?va17) ?hia17 (by kernel_rfl) (by kernel_rfl) (by kernel_rfl) (by kernel_rfl) (fun _ _ _ h => h) (Or.inl ⟨?hwa17, ?hya17⟩) (by assumption) ?hra17
      case hia17 => simp only [List.getElem?_toArray, List.getElem?_cons_succ, List.getElem?_cons_zero]; rfl
      case hwa17 => rfl
      case hya17 => intro wq hSq; (try dsimp only at hSq); go_simp; (try with_reducible rfl)
      try simp only [Act.put, List.setIfInBounds_toArray, List.set_cons_zero, List.set_cons_succ]
      refine wpAnyL_take (i := 18) (oi := ?oia18) (v := ?va18) ?hia18 (by kernel_rfl) (by kernel_rfl) (by kernel_rfl) (by kernel_rfl) (fun _ _ _ h => h) (Or.inl ⟨?hwa18, ?hya18⟩) (by assumption) ?hra18
      case hia18 => simp only [List.getElem?_toArray, List.getElem?_cons_succ, List.getElem?_cons_zero]; rfl
      case hwa18 => rfl
      case hya18 => intro wq hSq; (try dsimp only at hSq); go_simp; (try with_reducible rfl)
      try simp only [Act.put, List.setIfInBounds_toArray, List.set_cons_zero, List.set_cons_succ]
      refine wpAnyL_take (i := 19) (oi := ?oia19) (v := ?va19) ?hia19 (by kernel_rfl) (by kernel_rfl) (by kernel_rfl) (by kernel_rfl) (fun _ _ _ h => h) (Or.inl ⟨?hwa19, ?hya19⟩) (by assumption) ?hra19
      case hia19 => simp only [List.getElem?_toArray, List.getElem?_cons_succ, List.getElem?_cons_zero]; rfl
      case hwa19 => rfl
      case hya19 => intro wq hSq; (try dsimp only at hSq); go_simp; (try with_reducible rfl)
      try simp only [Act.put, List.setIfInBounds_toArray, List.set_cons_zero, List.set_cons_succ]
      refine wpAnyL_ready (rs := [20]) (by kernel_rfl) (by simp) ?_
      refine AllReadyL.cons rfl (fun K hK => ?_) AllReadyL.nil
      go_simp
      have CB : Chg wr (wr.drew.alloc (.cells #[.int .i64 pd.name.size, .int .i64 pd.pages, .int .i64 pd.action] 3)) (fun _ => False) := ((Chg.refl wr _).drew).alloc _
      refine hK.out _ _ (.inl (⟨CB.cell f0 (fun h => h), CB.cell q3 (fun h => h), CB.cell c0 (fun h => h), CB.cell c1 (fun h => h), CB.cell c2 (fun h => h)⟩)) (fun hHeld => ?_)
      replace hHeld := SOr.stands hHeld (by kernel_rfl)
      clear hK K
      try simp only [Act.put, List.setIfInBounds_toArray, List.set_cons_zero, List.set_cons_succ]
      refine wpAnyL_ready (rs := [21]) (by kernel_rfl) (by simp) ?_
      refine AllReadyL.cons rfl (fun K hK => ?_) AllReadyL.nil
      go_simp
      have HP := put2_lit (HSw.out.keep (Chg.refl wr _).drew) (by omega) [(pd.name.size : Int), pd.pages, pd.action] 3 #[.int .i64 pd.name.size, .int .i64 pd.pages, .int .i64 pd.action] rfl rfl (by decide) (by decide)
      refine HP.mono ?_
      rintro e w3 ⟨rfl, v3, S3', O3⟩
      clear HP
      refine hK.out _ _ (.inr (by kernel_rfl)) (fun _ => ?_)
      clear hK K
      try simp only [Act.put, List.setIfInBounds_toArray, List.set_cons_zero, List.set_cons_succ]
      refine wpAnyL_done (by kernel_rfl) ?_ _
      refine NoPanic.normal ?_
      obtain ⟨zs, hzs⟩ : ∃ zs, ys ++ nums [(pd.name.size : Int), pd.pages, pd.action] = zs := ⟨_, rfl⟩
      have hzl : zs.length ≤ 1000 := by rw [← hzs, List.length_append, nums_len]; simp; omega
      rw [hzs] at S3' O3
      have HZS := Lib.hid hzs
      have CF3 := HCF.out.keep S3'.st.chg
      have c0' := Lst.cell0 (n := 3) (f := partCells) (fun _ => rfl) CF3.ps k (by decide) hlt2 rfl
      rw [HPD.out] at c0'
      clear hzs CF3 q0 q1 q2 q3 q4 q5 f0 c0 c1 c2 hbb
      have q0 := S3'.st.cfg.cell 0
      have q1 := S3'.st.cfg.cell 1
      have q2 := S3'.st.cfg.cell 2
      have q3 := S3'.st.cfg.cell 3
      have q4 := S3'.st.cfg.cell 4
      have q5 := S3'.st.cfg.cell 5
      have f0 := S3'.fb.cell 0
      have b3 := S3'.st.pa.box.cell 0
      have hs3 := S3'.st.chg.size
      have hsB := S3'.st.pa.box.lt
      have hB2 := S3'.st.hB
      have HS3 := Lib.hid S3'
      have HO3 := Lib.hid O3
      clear S3' O3
      go_wp2_with fail
      refine wp_region_noPanic ?_
      refine wp_region_L 8 (fun w' => w'.cell? ⟨B, 0, none⟩ = some v3 ∧ w'.cell? ⟨w.heap.size, 3, none⟩ = some (.slice (some ⟨g0, o0, none⟩) np cp) ∧ w'.cell? ⟨g0, o0 + k * 3, none⟩ = some (.string pd.name)) (by kernel_rfl) (⟨b3, q3, c0'⟩) (fun hHeld => ?_)
      refine wpAnyL_take (i := 0) (oi := ?oid0) (v := ?vd0) ?hid0 (by kernel_rfl) (by kernel_rfl) (by kernel_rfl) (by kernel_rfl) (fun _ _ _ h => h) (Or.inl ⟨?hwd0, ?hyd0⟩) (by assumption) ?hrd0
      case hid0 => simp only [List.getElem?_toArray, List.getElem?_cons_succ, List.getElem?_cons_zero]; rfl
      case hwd0 => rfl
      case hyd0 => intro wq hSq; (try dsimp only at hSq); go_simp; (try with_reducible rfl)
      try simp only [Act.put, List.setIfInBounds_toArray, List.set_cons_zero, List.set_cons_succ]
      refine wpAnyL_take (i := 1) (oi := ?oid1) (v := ?vd1) ?hid1 (by kernel_rfl) (by kernel_rfl) (by kernel_rfl) (by kernel_rfl) (fun _ _ _ h => h) (Or.inl ⟨?hwd1, ?hyd1⟩) (by assumption) ?hrd1
      case hid1 => simp only [List.getElem?_toArray, List.getElem?_cons_succ, List.getElem?_cons_zero]; rfl
      case hwd1 => rfl
      case hyd1 => intro wq hSq; (try dsimp only at hSq); go_simp; (try with_reducible rfl)
      try simp only [Act.put, List.setIfInBounds_toArray, List.set_cons_zero, List.set_cons_succ]
      refine wpAnyL_take (i := 2) (oi := ?oid2) (v := ?vd2) ?hid2 (by kernel_rfl) (by kernel_rfl) (by kernel_rfl) (by kernel_rfl) (fun _ _ _ h => h) (Or.inl ⟨?hwd2, ?hyd2⟩) (by assumption) ?hrd2
      case hid2 => simp only [List.getElem?_toArray, List.getElem?_cons_succ, List.getElem?_cons_zero]; rfl
      case hwd2 => rfl
      case hyd2 => intro wq hSq; (try dsimp only at hSq); go_simp; (try with_reducible rfl)
      try simp only [Act.put, List.setIfInBounds_toArray, List.set_cons_zero, List.set_cons_succ]
      refine wpAnyL_take (i := 3) (oi := ?oid3) (v := ?vd3) ?hid3 (by kernel_rfl) (by kernel_rfl) (by kernel_rfl) (by kernel_rfl) (fun _ _ _ h => h) (Or.inl ⟨?hwd3, ?hyd3⟩) (by assumption) ?hrd3
      case hid3 => simp only [List.getElem?_toArray, List.getElem?_cons_succ, List.getElem?_cons_zero]; rfl
      case hwd3 => rfl
      case hyd3 => intro wq hSq; (try dsimp only at hSq); go_simp; (try with_reducible rfl)
      try simp only [Act.put, List.setIfInBounds_toArray, List.set_cons_zero, List.set_cons_succ]
      refine wpAnyL_take (i := 4) (oi := ?oid4) (v := ?vd4) ?hid4 (by kernel_rfl) (by kernel_rfl) (by kernel_rfl) (by kernel_rfl) (fun _ _ _ h => h) (Or.inl ⟨?hwd4, ?hyd4⟩) (by assumption) ?hrd4
      case hid4 => simp only [List.getElem?_toArray, List.getElem?_cons_succ, List.getElem?_cons_zero]; rfl
      case hwd4 => rfl
      case hyd4 => intro wq hSq; (try dsimp only at hSq); go_simp; (try with_reducible rfl)
      try simp only [Act.put, List.setIfInBounds_toArray, List.set_cons_zero, List.set_cons_succ]
      refine wpAnyL_take (i := 5) (oi := ?oid5) (v := ?vd5) ?hid5 (by kernel_rfl) (by kernel_rfl) (by kernel_rfl) (by kernel_rfl) (fun _ _ _ h => h) (Or.inl ⟨?hwd5, ?hyd5⟩) (by assumption) ?hrd5
      case hid5 => simp only [List.getElem?_toArray, List.getElem?_cons_succ, List.getElem?_cons_zero]; rfl
      case hwd5 => rfl
      case hyd5 => intro wq hSq; (try dsimp only at hSq); go_simp; (try with_reducible rfl)
      try simp only [Act.put, List.setIfInBounds_toArray, List.set_cons_zero, List.set_cons_succ]
      refine wpAnyL_take (i := 6) (oi := ?oid6) (v := ?vd6) ?hid6 (by kernel_rfl) (by kernel_rfl) (by kernel_rfl) (by kernel_rfl) (fun _ _ _ h => h) (Or.inl ⟨?hwd6, ?hyd6⟩) (by assumption) ?hrd6
      case hid6 => simp only [List.getElem?_toArray, List.getElem?_cons_succ, List.getElem?_cons_zero]; rfl
      case hwd6 => rfl
      case hyd6 => intro wq hSq; (try dsimp only at hSq); go_simp; (try with_reducible rfl)
      try simp only [Act.put, List.setIfInBounds_toArray, List.set_cons_zero, List.set_cons_succ]
      refine wpAnyL_ready (rs := [7]) (by kernel_rfl) (by simp) ?_
      refine AllReadyL.cons rfl (fun K hK => ?_) AllReadyL.nil
      refine op_append_str (.tmp 60) (.tmp 66) _ _ rfl (w.heap.size + 1) 5 i0 Try.underlying59 Try.underlying9 hi0 hz0 hz1 hz2 v3 _ _ rfl (own_drew HO3.out) pd.name rfl (by unfold maxLen; omega) (by omega) (by show _ ≤ w3.heap.size; omega) ?_
      intro v4 w4 O4 hgr4
      obtain ⟨ws, hws⟩ : ∃ ws, zs ++ nameL pd.name = ws := ⟨_, rfl⟩
      have hl4 : zs.length + pd.name.size = ws.length := by rw [← hws, List.length_append]; unfold nameL; rw [List.length_map]; simp
      have hc4 : u8s zs ++ Go.Lib.strCells pd.name = u8s ws := by rw [← hws, u8s_append, strCells_name]
      rw [hl4, hc4] at O4
      obtain ⟨a4, c4, rfl, -⟩ := own_form O4
      obtain ⟨b4, f4, S4, O4'⟩ := (HS3.out.keep (Chg.refl w3 _).drew).grow hgr4 O4
      have C4 : Chg w3.drew w4 (fun k => v3.ownBlock = some k) := (Chg.refl _ _).grown hgr4 (fun k hk _ => hk)
      have hne3 := HS3.out.st.pa.bb.ne HS3.out.st.cfg (by decide)
      have q3' : w4.cell? ⟨w.heap.size, 3, none⟩ = some (.slice (some ⟨g0, o0, none⟩) np cp) := C4.cell q3 (fun h => hne3 _ h rfl)
      have hg0l : g0 < w.heap.size := HG0.out
      have c0'' : w4.cell? ⟨g0, o0 + k * 3, none⟩ = some (.string pd.name) := C4.cell c0' (fun h => by have h5 := (HS3.out.st.pa.bb.lt _ h).1; have h6 : w.heap.size + 1 ≤ g0 := h5; omega)
      change K (Act.put _ (some 67) _) _
      simp only [Act.put, List.setIfInBounds_toArray, List.set_cons_zero, List.set_cons_succ]
      refine hK.out _ _ (.inl (⟨b4, q3', c0''⟩)) (fun hHeld => ?_)
      replace hHeld := SOr.stands hHeld (by kernel_rfl)
      clear hK K
      try simp only [Act.put, List.setIfInBounds_toArray, List.set_cons_zero, List.set_cons_succ]
      refine wpAnyL_ready (rs := [8]) (by kernel_rfl) (by simp) ?_
      refine AllReadyL.cons rfl (fun K hK => ?_) AllReadyL.nil
      go_simp
      refine hK.out _ _ (.inr (by kernel_rfl)) (fun _ => ?_)
      clear hK K
      try simp only [Act.put, List.setIfInBounds_toArray, List.set_cons_zero, List.set_cons_succ]
      refine wpAnyL_done (by kernel_rfl) ?_ _
      refine NoPanic.normal ?_
      have HS4 := Lib.hid S4
      have HO4 := Lib.hid O4'
      have hfin : X1 ++ (C.parts.take (k + 1)).flatMap partB = ws := by
        rw [HTK.out, ← hws, ← HZS.out, ← HYS.out]
        unfold partB
        simp only [List.append_assoc]
      have HFIN := Lib.hid hfin
      clear hfin
      clear hl4 hc4 hws O4 S4 O4' q0 q1 q2 q3 q4 q5 f0
      go_wp2_with fail
      go_roundg (gk - 1)
      case measure => have := HK.out; omega
      case rel => exact ⟨k + 1, _, by have := HK.out; omega, by go_num, by rw [HFIN.out]; exact HS4.out, by rw [HFIN.out]; exact HO4.out⟩
    · obtain rfl : np = k := by omega
      have hall : C.parts.take np = C.parts := by rw [← HNP.out, List.take_length]
      rw [hall] at S O
      clear hk hall
      have q0 := S.st.cfg.cell 0
      have q1 := S.st.cfg.cell 1
      have q2 := S.st.cfg.cell 2
      have q3 := S.st.cfg.cell 3
      have q4 := S.st.cfg.cell 4
      have q5 := S.st.cfg.cell 5
      have f0 := S.fb.cell 0
      obtain ⟨Y, hY⟩ : ∃ Y, X1 ++ C.parts.flatMap partB = Y := ⟨_, rfl⟩
      have ly : Y.length ≤ 276 := by
        rw [← hY, List.length_append]
        have := (by have := HPL.out C.parts.length; rw [List.take_length] at this; exact this : (C.parts.flatMap partB).length ≤ 256)
        omega
      rw [hY] at S O HH
      clear hY
      have HP := put2_lit S (by omega) [(nc : Int)] 1 #[.int .i64 nc] rfl rfl (by decide) (by decide)
      go_wp2_with fail
      refine HP.mono ?_
      rintro e w5 ⟨rfl, v5, S2, O2⟩
      clear HP S O q0 q1 q2 q3 q4 q5 f0
      obtain ⟨X3, hX⟩ : ∃ X, Y ++ nums [(nc : Int)] = X := ⟨_, rfl⟩
      have lX3 : X3.length ≤ 280 := by rw [← hX, List.length_append, nums_len]; simp; omega
      rw [hX] at S2 O2 HH
      clear hX
      have q0 := S2.st.cfg.cell 0
      have q1 := S2.st.cfg.cell 1
      have q2 := S2.st.cfg.cell 2
      have q3 := S2.st.cfg.cell 3
      have q4 := S2.st.cfg.cell 4
      have q5 := S2.st.cfg.cell 5
      have f0 := S2.fb.cell 0
      go_wp2_with fail
      go_loopg [8] nc (fun g s8 wr => ∃ k : Nat, ∃ v, g + k = nc ∧ s8 = .int .i64 k ∧ RkSt w wr B F #[.int .i64 pg, .int .i64 mj, .int .i64 sw, .slice ap np cp, .slice ac nc cc, .slice aw nw cw] v (X3 ++ (C.chans.take k).flatMap chanB) ∧ wr.ownsRow (w.heap.size + 1) 5 1 v (X3 ++ (C.chans.take k).flatMap chanB).length (u8s (X3 ++ (C.chans.take k).flatMap chanB)))
      case atStart => exact ⟨0, _, rfl, rfl, (by rw [List.take_zero, List.flatMap_nil, List.append_nil]; exact S2), (by rw [List.take_zero, List.flatMap_nil, List.append_nil]; exact O2)⟩
      case round =>
        obtain ⟨k, v, hk, rfl, S, O⟩ := hrel
        have HK := Lib.hid hk
        by_cases hlt : k < nc
        · have hlt2 : k < C.chans.length := by rw [HNC.out]; exact hlt
          have CFk := HCF.out.keep S.st.chg
          obtain ⟨g0, o0, rfl⟩ := CFk.cs.pos (by omega)
          have c0 := Lst.cell0 (n := 5) (f := chanCells) (fun _ => rfl) CFk.cs k (by decide) hlt2 rfl
          have c1 := Lst.cell (n := 5) (f := chanCells) (fun _ => rfl) CFk.cs k 1 (by decide) hlt2 rfl
          have c2 := Lst.cell (n := 5) (f := chanCells) (fun _ => rfl) CFk.cs k 2 (by decide) hlt2 rfl
          have c3 := Lst.cell (n := 5) (f := chanCells) (fun _ => rfl) CFk.cs k 3 (by decide) hlt2 rfl
          have c4 := Lst.cell (n := 5) (f := chanCells) (fun _ => rfl) CFk.cs k 4 (by decide) hlt2 rfl
          have HTK := Lib.hid (flat_take_succ chanB C.chans k hlt2)
          have hxl : (X3 ++ (C.chans.take k).flatMap chanB).length ≤ 600 := by have := HCL.out k; rw [List.length_append]; omega
          have CLst := Lib.hid CFk.cs
          obtain ⟨pd, hpd⟩ : ∃ pd, C.chans[k] = pd := ⟨_, rfl⟩
          have HPD := Lib.hid hpd
          have HG0 := Lib.hid (show g0 < w.heap.size from World.block_lt_of_cell? w _ (Lst.cell0 (n := 5) (f := chanCells) (fun _ => rfl) HCF.out.cs k (by decide) hlt2 rfl))
          rw [hpd] at c0 c1 c2 c3 c4 HTK
          obtain ⟨ys, hys⟩ : ∃ ys, X3 ++ (C.chans.take k).flatMap chanB = ys := ⟨_, rfl⟩
          rw [hys] at S O hxl
          have HYS := Lib.hid hys
          have hk0 : (0 : Int) ≤ (k : Int) := by omega
          have hk1 : (k : Int) < (nc : Int) := by omega
          have q0 := S.st.cfg.cell 0
          have q1 := S.st.cfg.cell 1
          have q2 := S.st.cfg.cell 2
          have q3 := S.st.cfg.cell 3
          have q4 := S.st.cfg.cell 4
          have q5 := S.st.cfg.cell 5
          have f0 := S.fb.cell 0
          have HSw := Lib.hid S
          have HOw := Lib.hid O
          have hbb := S.st.pa.box.cell 0
          clear hys hk CFk hpd O
          obtain ⟨wp, hwp⟩ : ∃ wp, wr.alloc (.cells #[.int .i64 pd.kind, .int .i64 pd.src, .int .i64 pd.dst, .int .i64 pd.size, .int .i64 pd.depth] 32) = wp := ⟨_, rfl⟩
          have Cp : Chg wr wp (fun _ => False) := by rw [← hwp]; exact (Chg.refl wr _).alloc _
          have BP := Box.new wr 32 #[.int .i64 pd.kind, .int .i64 pd.src, .int .i64 pd.dst, .int .i64 pd.size, .int .i64 pd.depth]
          rw [hwp] at BP
          have Sp := S.keep Cp
          clear q0 q1 q2 q3 q4 q5 f0
          have q0 := Sp.st.cfg.cell 0
          have q1 := Sp.st.cfg.cell 1
          have q2 := Sp.st.cfg.cell 2
          have q3 := Sp.st.cfg.cell 3
          have q4 := Sp.st.cfg.cell 4
          have q5 := Sp.st.cfg.cell 5
          have f0 := Sp.fb.cell 0
          have q4r := S.st.cfg.cell 4
          have HP := put2_lit Sp (by omega) [pd.kind, pd.src, pd.dst, pd.size, pd.depth] 5 #[.int .i64 pd.kind, .int .i64 pd.src, .int .i64 pd.dst, .int .i64 pd.size, .int .i64 pd.depth] rfl rfl (by decide) (by decide)
          have u0 := BP.cell 0
          have u1 := BP.cell 1
          have u2 := BP.cell 2
          have u3 := BP.cell 3
          have u4 := BP.cell 4
          clear S Sp
          go_wp2_with fail
          refine HP.mono ?_
          rintro e w3 ⟨rfl, v3, S3', O3⟩
          have hfin : X3 ++ (C.chans.take (k + 1)).flatMap chanB = ys ++ nums [pd.kind, pd.src, pd.dst, pd.size, pd.depth] := by
            rw [HTK.out, ← HYS.out, List.append_assoc]
            rfl
          have HFIN := Lib.hid hfin
          clear hfin
          have HS4 := Lib.hid S3'
          have HO4 := Lib.hid O3
          clear HP hwp u0 u1 u2 u3 u4 S3' O3 q0 q1 q2 q3 q4 q5 f0 q4r
          go_wp2_with fail
          go_roundg (gk - 1)
          case measure => have := HK.out; omega
          case rel => exact ⟨k + 1, v3, by have := HK.out; omega, by go_num, by rw [HFIN.out]; exact HS4.out, by rw [HFIN.out]; exact HO4.out⟩
        · obtain rfl : nc = k := by omega
          have hall : C.chans.take nc = C.chans := by rw [← HNC.out, List.take_length]
          rw [hall] at S O
          clear hk hall
          have q0 := S.st.cfg.cell 0
          have q1 := S.st.cfg.cell 1
          have q2 := S.st.cfg.cell 2
          have q3 := S.st.cfg.cell 3
          have q4 := S.st.cfg.cell 4
          have q5 := S.st.cfg.cell 5
          have f0 := S.fb.cell 0
          obtain ⟨Y, hY⟩ : ∃ Y, X3 ++ C.chans.flatMap chanB = Y := ⟨_, rfl⟩
          have ly : Y.length ≤ 600 := by
            rw [← hY, List.length_append]
            have := (by have := HCL.out C.chans.length; rw [List.take_length] at this; exact this : (C.chans.flatMap chanB).length ≤ 320)
            omega
          rw [hY] at S O HH
          clear hY
          have HP := put2_lit S (by omega) [(nw : Int)] 1 #[.int .i64 nw] rfl rfl (by decide) (by decide)
          go_wp2_with fail
          refine HP.mono ?_
          rintro e w5 ⟨rfl, v5, S2, O2⟩
          clear HP S O q0 q1 q2 q3 q4 q5 f0
          obtain ⟨X5, hX⟩ : ∃ X, Y ++ nums [(nw : Int)] = X := ⟨_, rfl⟩
          have lX5 : X5.length ≤ 604 := by rw [← hX, List.length_append, nums_len]; simp; omega
          rw [hX] at S2 O2 HH
          clear hX
          have q0 := S2.st.cfg.cell 0
          have q1 := S2.st.cfg.cell 1
          have q2 := S2.st.cfg.cell 2
          have q3 := S2.st.cfg.cell 3
          have q4 := S2.st.cfg.cell 4
          have q5 := S2.st.cfg.cell 5
          have f0 := S2.fb.cell 0
          go_wp2_with fail
          go_loopg [10] nw (fun g s10 wr => ∃ k : Nat, ∃ v, g + k = nw ∧ s10 = .int .i64 k ∧ RkSt w wr B F #[.int .i64 pg, .int .i64 mj, .int .i64 sw, .slice ap np cp, .slice ac nc cc, .slice aw nw cw] v (X5 ++ (C.wins.take k).flatMap winB) ∧ wr.ownsRow (w.heap.size + 1) 5 1 v (X5 ++ (C.wins.take k).flatMap winB).length (u8s (X5 ++ (C.wins.take k).flatMap winB)))
          case atStart => exact ⟨0, _, rfl, rfl, (by rw [List.take_zero, List.flatMap_nil, List.append_nil]; exact S2), (by rw [List.take_zero, List.flatMap_nil, List.append_nil]; exact O2)⟩
          case round =>
            obtain ⟨k, v, hk, rfl, S, O⟩ := hrel
            have HK := Lib.hid hk
            by_cases hlt : k < nw
            · have hlt2 : k < C.wins.length := by rw [HNW.out]; exact hlt
              have CFk := HCF.out.keep S.st.chg
              obtain ⟨g0, o0, rfl⟩ := CFk.ws.pos (by omega)
              have c0 := Lst.cell0 (n := 3) (f := winCells) (fun _ => rfl) CFk.ws k (by decide) hlt2 rfl
              have c1 := Lst.cell (n := 3) (f := winCells) (fun _ => rfl) CFk.ws k 1 (by decide) hlt2 rfl
              have c2 := Lst.cell (n := 3) (f := winCells) (fun _ => rfl) CFk.ws k 2 (by decide) hlt2 rfl
              have HTK := Lib.hid (flat_take_succ winB C.wins k hlt2)
              have hxl : (X5 ++ (C.wins.take k).flatMap winB).length ≤ 988 := by have := HWL.out k; rw [List.length_append]; omega
              have CLst := Lib.hid CFk.ws
              obtain ⟨pd, hpd⟩ : ∃ pd, C.wins[k] = pd := ⟨_, rfl⟩
              have HPD := Lib.hid hpd
              have HG0 := Lib.hid (show g0 < w.heap.size from World.block_lt_of_cell? w _ (Lst.cell0 (n := 3) (f := winCells) (fun _ => rfl) HCF.out.ws k (by decide) hlt2 rfl))
              rw [hpd] at c0 c1 c2 HTK
              obtain ⟨ys, hys⟩ : ∃ ys, X5 ++ (C.wins.take k).flatMap winB = ys := ⟨_, rfl⟩
              rw [hys] at S O hxl
              have HYS := Lib.hid hys
              have hk0 : (0 : Int) ≤ (k : Int) := by omega
              have hk1 : (k : Int) < (nw : Int) := by omega
              have q0 := S.st.cfg.cell 0
              have q1 := S.st.cfg.cell 1
              have q2 := S.st.cfg.cell 2
              have q3 := S.st.cfg.cell 3
              have q4 := S.st.cfg.cell 4
              have q5 := S.st.cfg.cell 5
              have f0 := S.fb.cell 0
              have HSw := Lib.hid S
              have HOw := Lib.hid O
              have hbb := S.st.pa.box.cell 0
              clear hys hk CFk hpd O
              clear S
              go_wp2_with fail
              refine wp_region_noPanic ?_
              refine wp_region_L 20 (fun w' => w'.cell? ⟨F, 0, none⟩ = some (.pointer (some ⟨B, 0, none⟩)) ∧ w'.cell? ⟨w.heap.size, 5, none⟩ = some (.slice (some ⟨g0, o0, none⟩) nw cw) ∧ w'.cell? ⟨g0, o0 + k * 3, none⟩ = some (.int .i64 pd.start) ∧ w'.cell? ⟨g0, o0 + k * 3 + 1, none⟩ = some (.int .i64 pd.len) ∧ w'.cell? ⟨g0, o0 + k * 3 + 2, none⟩ = some (.int .i64 pd.part)) (by kernel_rfl) (⟨f0, q5, c0, c1, c2⟩) (fun hHeld => ?_)
              refine wpAnyL_take (i := 0) (oi := ?oie0) (v := ?ve0) ?hie0 (by kernel_rfl) (by kernel_rfl) (by kernel_rfl) (by kernel_rfl) (fun _ _ _ h => h) (Or.inl ⟨?hwe0, ?hye0⟩) (by assumption) ?hre0
              case hie0 => simp only [List.getElem?_toArray, List.getElem?_cons_succ, List.getElem?_cons_zero]; rfl
              case hwe0 => rfl
              case hye0 => intro wq hSq; (try dsimp only at hSq); go_simp; (try with_reducible rfl)
              try simp only [Act.put, List.setIfInBounds_toArray, List.set_cons_zero, List.set_cons_succ]
              refine wpAnyL_take (i := 1) (oi := ?oie1) (v := ?ve1) ?hie1 (by kernel_rfl) (by kernel_rfl) (by kernel_rfl) (by kernel_rfl) (fun _ _ _ h => h) (Or.inl ⟨?hwe1, ?hye1⟩) (by assumption) ?hre1
              case hie1 => simp only [List.getElem?_toArray, List.getElem?_cons_succ, List.getElem?_cons_zero]; rfl
              case hwe1 => rfl
              case hye1 => intro wq hSq; (try dsimp only at hSq); go_simp; (try with_reducible rfl)
              try simp only [Act.put, List.setIfInBounds_toArray, List.set_cons_zero, List.set_cons_succ]
              refine wpAnyL_take (i := 2) (oi := ?oie2) (v := ?ve2) ?hie2 (by kernel_rfl) (by kernel_rfl) (by kernel_rfl) (by kernel_rfl) (fun _ _ _ h => h) (Or.inl ⟨?hwe2, ?hye2⟩) (by assumption) ?hre2
              case hie2 => simp only [List.getElem?_toArray, List.getElem?_cons_succ, List.getElem?_cons_zero]; rfl
              case hwe2 => rfl
              case hye2 => intro wq hSq; (try dsimp only at hSq); go_simp; (try with_reducible rfl)
              try simp only [Act.put, List.setIfInBounds_toArray, List.set_cons_zero, List.set_cons_succ]
              refine wpAnyL_take (i := 3) (oi := ?oie3) (v := ?ve3) ?hie3 (by kernel_rfl) (by kernel_rfl) (by kernel_rfl) (by kernel_rfl) (fun _ _ _ h => h) (Or.inl ⟨?hwe3, ?hye3⟩) (by assumption) ?hre3
              case hie3 => simp only [List.getElem?_toArray, List.getElem?_cons_succ, List.getElem?_cons_zero]; rfl
              case hwe3 => rfl
              case hye3 => intro wq hSq; (try dsimp only at hSq); go_simp; (try with_reducible rfl)
              try simp only [Act.put, List.setIfInBounds_toArray, List.set_cons_zero, List.set_cons_succ]
              refine wpAnyL_take (i := 4) (oi := ?oie4) (v := ?ve4) ?hie4 (by kernel_rfl) (by kernel_rfl) (by kernel_rfl) (by kernel_rfl) (fun _ _ _ h => h) (Or.inl ⟨?hwe4, ?hye4⟩) (by assumption) ?hre4
              case hie4 => simp only [List.getElem?_toArray, List.getElem?_cons_succ, List.getElem?_cons_zero]; rfl
              case hwe4 => rfl
              case hye4 => intro wq hSq; (try dsimp only at hSq); go_simp; (try with_reducible rfl)
              try simp only [Act.put, List.setIfInBounds_toArray, List.set_cons_zero, List.set_cons_succ]
              refine wpAnyL_take (i := 5) (oi := ?oie5) (v := ?ve5) ?hie5 (by kernel_rfl) (by kernel_rfl) (by kernel_rfl) (by kernel_rfl) (fun _ _ _ h => h) (Or.inl ⟨?hwe5, ?hye5⟩) (by assumption) ?hre5
              case hie5 => simp only [List.getElem?_toArray, List.getElem?_cons_succ, List.getElem?_cons_zero]; rfl
              case hwe5 => rfl
              case hye5 => intro wq hSq; (try dsimp only at hSq); go_simp; (try with_reducible rfl)
              try simp only [Act.put, List.setIfInBounds_toArray, List.set_cons_zero, List.set_cons_succ]
              refine wpAnyL_take (i := 6) (oi := ?oie6) (v := ?ve6) ?hie6 (by kernel_rfl) (by kernel_rfl) (by kernel_rfl) (by kernel_rfl) (fun _ _ _ h => h) (Or.inl ⟨?hwe6, ?hye6⟩) (by assumption) ?hre6
              case hie6 => simp only [List.getElem?_toArray, List.getElem?_cons_succ, List.getElem?_cons_zero]; rfl
              case hwe6 => rfl
              case hye6 => intro wq hSq; (try dsimp only at hSq); go_simp; (try with_reducible rfl)
              try simp only [Act.put, List.setIfInBounds_toArray, List.set_cons_zero, List.set_cons_succ]
              refine wpAnyL_take (i := 7) (oi := ?oie7) (v := ?ve7) ?hie7 (by kernel_rfl) (by kernel_rfl) (by kernel_rfl) (by kernel_rfl) (fun _ _ _ h => h) (Or.inl ⟨?hwe7, ?hye7⟩) (by assumption) ?hre7
              case hie7 => simp only [List.getElem?_toArray, List.getElem?_cons_succ, List.getElem?_cons_zero]; rfl
              case hwe7 => rfl
              case hye7 => intro wq hSq; (try dsimp only at hSq); go_simp; (try with_reducible rfl)
              try simp only [Act.put, List.setIfInBounds_toArray, List.set_cons_zero, List.set_cons_succ]
              refine wpAnyL_take (i := 8) (oi := ?oie8) (v := ?ve8) ?hie8 (by kernel_rfl) (by kernel_rfl) (by kernel_rfl) (by kernel_rfl) (fun _ _ _ h => h) (Or.inl ⟨?hwe8, ?hye8⟩) (by assumption) ?hre8
              case hie8 => simp only [List.getElem?_toArray, List.getElem?_cons_succ, List.getElem?_cons_zero]; rfl
              case hwe8 => rfl
              case hye8 => intro wq hSq; (try dsimp only at hSq); go_simp; (try with_reducible rfl)
              try simp only [Act.put, List.setIfInBounds_toArray, List.set_cons_zero, List.set_cons_succ]
              refine wpAnyL_take (i := 9) (oi := ?oie9) (v := ?ve9) ?hie9 (by kernel_rfl) (by kernel_rfl) (by kernel_rfl) (by kernel_rfl) (fun _ _ _ h => h) (Or.inl ⟨?hwe9, ?hye9⟩) (by assumption) ?hre9
              case hie9 => simp only [List.getElem?_toArray, List.getElem?_cons_succ, List.getElem?_cons_zero]; rfl
              case hwe9 => rfl
              case hye9 => intro wq hSq; (try dsimp only at hSq); go_simp; (try with_reducible rfl)
              try simp only [Act.put, List.setIfInBounds_toArray, List.set_cons_zero, List.set_cons_succ]
              refine wpAnyL_take (i := 10) (oi := ?oie10) (v := ?ve10) ?hie10 (by kernel_rfl) (by kernel_rfl) (by kernel_rfl) (by kernel_rfl) (fun _ _ _ h => h) (Or.inl ⟨?hwe10, ?hye10⟩) (by assumption) ?hre10
              case hie10 => simp only [List.getElem?_toArray, List.getElem?_cons_succ, List.getElem?_cons_zero]; rfl
              case hwe10 => rfl
              case hye10 => intro wq hSq; (try dsimp only at hSq); go_simp; (try with_reducible rfl)
              try simp only [Act.put, List.setIfInBounds_toArray, List.set_cons_zero, List.set_cons_succ]
              refine wpAnyL_take (i := 11) (oi := ?oie11) (v := ?ve11) ?hie11 (by kernel_rfl) (by kernel_rfl) (by kernel_rfl) (by kernel_rfl) (fun _ _ _ h => h) (Or.inl ⟨?hwe11, ?hye11⟩) (by assumption) ?hre11
              case hie11 => simp only [List.getElem?_toArray, List.getElem?_cons_succ, List.getElem?_cons_zero]; rfl
              case hwe11 => rfl
              case hye11 => intro wq hSq; (try dsimp only at hSq); go_simp; (try with_reducible rfl)
              try simp only [Act.put, List.setIfInBounds_toArray, List.set_cons_zero, List.set_cons_succ]
              refine wpAnyL_take (i := 12) (oi := ?oie12) (v := ?ve12) ?hie12 (by kernel_rfl) (by kernel_rfl) (by kernel_rfl) (by kernel_rfl) (fun _ _ _ h => h) (Or.inl ⟨?hwe12, ?hye12⟩) (by assumption) ?hre12
              case hie12 => simp only [List.getElem?_toArray, List.getElem?_cons_succ, List.getElem?_cons_zero]; rfl
              case hwe12 => rfl
              case hye12 => intro wq hSq; (try dsimp only at hSq); go_simp; (try with_reducible rfl)
              try simp only [Act.put, List.setIfInBounds_toArray, List.set_cons_zero, List.set_cons_succ]
              refine wpAnyL_take (i := 13) (oi := ?oie13) (v := ?ve13) ?hie13 (by kernel_rfl) (by kernel_rfl) (by kernel_rfl) (by kernel_rfl) (fun _ _ _ h => h) (Or.inl ⟨?hwe13, ?hye13⟩) (by assumption) ?hre13
              case hie13 => simp only [List.getElem?_toArray, List.getElem?_cons_succ, List.getElem?_cons_zero]; rfl
              case hwe13 => rfl
              case hye13 => intro wq hSq; (try dsimp only at hSq); go_simp; (try with_reducible rfl)
              try simp only [Act.put, List.setIfInBounds_toArray, List.set_cons_zero, List.set_cons_succ]
              refine wpAnyL_take (i := 14) (oi := ?oie14) (v := ?ve14) ?hie14 (by kernel_rfl) (by kernel_rfl) (by kernel_rfl) (by kernel_rfl) (fun _ _ _ h => h) (Or.inl ⟨?hwe14, ?hye14⟩) (by assumption) ?hre14
              case hie14 => simp only [List.getElem?_toArray, List.getElem?_cons_succ, List.getElem?_cons_zero]; rfl
              case hwe14 => rfl
              case hye14 => intro wq hSq; (try dsimp only at hSq); go_simp; (try with_reducible rfl)
              try simp only [Act.put, List.setIfInBounds_toArray, List.set_cons_zero, List.set_cons_succ]
              refine wpAnyL_take (i := 15) (oi := ?oie15) (v := ?ve15) ?hie15 (by kernel_rfl) (by kernel_rfl) (by kernel_rfl) (by kernel_rfl) (fun _ _ _ h => h) (Or.inl ⟨?hwe15, ?hye15⟩) (by assumption) ?hre15
              case hie15 => simp only [List.getElem?_toArray, List.getElem?_cons_succ, List.getElem?_cons_zero]; rfl
              case hwe15 => rfl
              case hye15 => intro wq hSq; (try dsimp only at hSq); go_simp; (try with_reducible rfl)
              try simp only [Act.put, List.setIfInBounds_toArray, List.set_cons_zero, List.set_cons_succ]
              refine wpAnyL_take (i := 16) (oi := ?oie16) (v := ?ve16) ?hie16 (by kernel_rfl) (by kernel_rfl) (by kernel_rfl) (by kernel_rfl) (fun _ _ _ h => h) (Or.inl ⟨?hwe16, ?hye16⟩) (by assumption) ?hre16
              case hie16 => simp only [List.getElem?_toArray, List.getElem?_cons_succ, List.getElem?_cons_zero]; rfl
              case hwe16 => rfl
              case hye16 => intro wq hSq; (try dsimp only at hSq); go_simp; (try with_reducible rfl)
              try simp only [Act.put, List.setIfInBounds_toArray, List.set_cons_zero, List.set_cons_succ]
              refine wpAnyL_take (i := 17) (oi := ?oie17) (v := ?ve17) ?hie17 (by kernel_rfl) (by kernel_rfl) (by kernel_rfl) (by kernel_rfl) (fun _ _ _ h => h) (Or.inl ⟨?hwe17, ?hye17⟩) (by assumption) ?hre17
              case hie17 => simp only [List.getElem?_toArray, List.getElem?_cons_succ, List.getElem?_cons_zero]; rfl
              case hwe17 => rfl
              case hye17 => intro wq hSq; (try dsimp only at hSq); go_simp; (try with_reducible rfl)
              try simp only [Act.put, List.setIfInBounds_toArray, List.set_cons_zero, List.set_cons_succ]
              refine wpAnyL_take (i := 18) (oi := ?oie18) (v := ?ve18) ?hie18 (by kernel_rfl) (by kernel_rfl) (by kernel_rfl) (by kernel_rfl) (fun _ _ _ h => h) (Or.inl ⟨?hwe18, ?hye18⟩) (by assumption) ?hre18
              case hie18 => simp only [List.getElem?_toArray, List.getElem?_cons_succ, List.getElem?_cons_zero]; rfl
              case hwe18 => rfl
              case hye18 => intro wq hSq; (try dsimp only at hSq); go_simp; (try with_reducible rfl)
              try simp only [Act.put, List.setIfInBounds_toArray, List.set_cons_zero, List.set_cons_succ]
              refine wpAnyL_ready (rs := [19]) (by kernel_rfl) (by simp) ?_
              refine AllReadyL.cons rfl (fun K hK => ?_) AllReadyL.nil
              go_simp
              have CB : Chg wr (wr.drew.alloc (.cells #[.int .i64 pd.start, .int .i64 pd.len, .int .i64 pd.part] 3)) (fun _ => False) := ((Chg.refl wr _).drew).alloc _
              refine hK.out _ _ (.inl (⟨CB.cell f0 (fun h => h), CB.cell q5 (fun h => h), CB.cell c0 (fun h => h), CB.cell c1 (fun h => h), CB.cell c2 (fun h => h)⟩)) (fun hHeld => ?_)
              replace hHeld := SOr.stands hHeld (by kernel_rfl)
              clear hK K
              try simp only [Act.put, List.setIfInBounds_toArray, List.set_cons_zero, List.set_cons_succ]
              refine wpAnyL_ready (rs := [20]) (by kernel_rfl) (by simp) ?_
              refine AllReadyL.cons rfl (fun K hK => ?_) AllReadyL.nil
              go_simp
              have HP := put2_lit (HSw.out.keep (Chg.refl wr _).drew) (by omega) [pd.start, pd.len, pd.part] 3 #[.int .i64 pd.start, .int .i64 pd.len, .int .i64 pd.part] rfl rfl (by decide) (by decide)
              refine HP.mono ?_
              rintro e w3 ⟨rfl, v3, S3', O3⟩
              clear HP
              refine hK.out _ _ (.inr (by kernel_rfl)) (fun _ => ?_)
              clear hK K
              try simp only [Act.put, List.setIfInBounds_toArray, List.set_cons_zero, List.set_cons_succ]
              refine wpAnyL_done (by kernel_rfl) ?_ _
              refine NoPanic.normal ?_
              have hfin : X5 ++ (C.wins.take (k + 1)).flatMap winB = ys ++ nums [pd.start, pd.len, pd.part] := by
                rw [HTK.out, ← HYS.out, List.append_assoc]
                rfl
              have HFIN := Lib.hid hfin
              clear hfin
              have HS4 := Lib.hid S3'
              have HO4 := Lib.hid O3
              clear S3' O3 q0 q1 q2 q3 q4 q5 f0 c0 c1 c2 hbb
              go_wp2_with fail
              go_roundg (gk - 1)
              case measure => have := HK.out; omega
              case rel => exact ⟨k + 1, v3, by have := HK.out; omega, by go_num, by rw [HFIN.out]; exact HS4.out, by rw [HFIN.out]; exact HO4.out⟩
            · obtain rfl : nw = k := by omega
              have hall : C.wins.take nw = C.wins := by rw [← HNW.out, List.take_length]
              rw [hall] at S O
              clear hk hall
              have q0 := S.st.cfg.cell 0
              have q1 := S.st.cfg.cell 1
              have q2 := S.st.cfg.cell 2
              have q3 := S.st.cfg.cell 3
              have q4 := S.st.cfg.cell 4
              have q5 := S.st.cfg.cell 5
              have f0 := S.fb.cell 0
              have hW := HWL.out C.wins.length
              rw [List.take_length] at hW
              have hr := rngB_head C
              rw [HH.out] at hr
              obtain ⟨Y, hY⟩ : ∃ Y, X5 ++ C.wins.flatMap winB = Y := ⟨_, rfl⟩
              have ly : Y.length ≤ 988 := by rw [← hY, List.length_append]; omega
              rw [hY] at S O HH hr
              have hRs : R = Y ++ fourB (sumI Y % 4294967296) := by rw [HR.out, HH.out]; rfl
              have hRl : Y.length + 4 = R.length := by rw [hRs, List.length_append, fourB_len]
              have b9 := S.st.pa.box.cell 0
              obtain ⟨a9, c9, rfl, -⟩ := own_form O
              have HO9 := Lib.hid O
              have HBX9 := Lib.hid S.st.pa.box
              have HS9 := Lib.hid S.st.chg
              have HRS := Lib.hid hRs
              have HRL := Lib.hid hRl
              have hsz9 : w.heap.size + 1 ≤ wr.heap.size := by have := S.st.chg.size; have := S.st.pa.box.lt; have := S.st.hB; omega
              have HRG := Lib.hid hr
              clear hY hRs hRl hr O S HH HR
              go_wp2_with fail
              refine wp_region_noPanic ?_
              refine wp_region_L 6 (fun w' => w'.cell? ⟨B, 0, none⟩ = some (.slice a9 Y.length c9)) (by kernel_rfl) (b9) (fun hHeld => ?_)
              refine wpAnyL_take (i := 0) (oi := ?oiz0) (v := ?vz0) ?hiz0 (by kernel_rfl) (by kernel_rfl) (by kernel_rfl) (by kernel_rfl) (fun _ _ _ h => h) (Or.inl ⟨?hwz0, ?hyz0⟩) (by assumption) ?hrz0
              case hiz0 => simp only [List.getElem?_toArray, List.getElem?_cons_succ, List.getElem?_cons_zero]; rfl
              case hwz0 => rfl
              case hyz0 => intro wq hSq; (try dsimp only at hSq); go_simp; (try with_reducible rfl)
              try simp only [Act.put, List.setIfInBounds_toArray, List.set_cons_zero, List.set_cons_succ]
              refine wpAnyL_take (i := 1) (oi := ?oiz1) (v := ?vz1) ?hiz1 (by kernel_rfl) (by kernel_rfl) (by kernel_rfl) (by kernel_rfl) (fun _ _ _ h => h) (Or.inl ⟨?hwz1, ?hyz1⟩) (by assumption) ?hrz1
              case hiz1 => simp only [List.getElem?_toArray, List.getElem?_cons_succ, List.getElem?_cons_zero]; rfl
              case hwz1 => rfl
              case hyz1 => intro wq hSq; (try dsimp only at hSq); go_simp; (try with_reducible rfl)
              try simp only [Act.put, List.setIfInBounds_toArray, List.set_cons_zero, List.set_cons_succ]
              refine wpAnyL_ready (rs := [2]) (by kernel_rfl) (by simp) ?_
              refine AllReadyL.cons rfl (fun K hK => ?_) AllReadyL.nil
              go_simp
              refine (rsum_any _ (own_lst (own_drew HO9.out)) HRG.out (by omega)).mono ?_
              rintro e w7 ⟨rfl, rfl⟩
              refine hK.out _ _ (.inl (b9)) (fun hHeld => ?_)
              replace hHeld := SOr.stands hHeld (by kernel_rfl)
              clear hK K
              try simp only [Act.put, List.setIfInBounds_toArray, List.set_cons_zero, List.set_cons_succ]
              refine wpAnyL_ready (rs := [3]) (by kernel_rfl) (by simp) ?_
              refine AllReadyL.cons rfl (fun K hK => ?_) AllReadyL.nil
              go_simp
              refine (rfour_any _ _).mono ?_
              rintro e w8 ⟨a8, c8, rfl, O8, C8⟩
              have C8b : Chg wr w8 (fun _ => False) := (Chg.refl wr _).drew.trans C8
              refine hK.out _ _ (.inl (C8b.cell b9 (fun h => h))) (fun hHeld => ?_)
              replace hHeld := SOr.stands hHeld (by kernel_rfl)
              clear hK K
              try simp only [Act.put, List.setIfInBounds_toArray, List.set_cons_zero, List.set_cons_succ]
              refine wpAnyL_ready (rs := [4]) (by kernel_rfl) (by simp) ?_
              refine AllReadyL.cons rfl (fun K hK => ?_) AllReadyL.nil
              have O9b := own_chg HO9.out C8b (fun _ _ h => h)
              have hs8 := C8b.size
              refine op_append_src (.tmp 133) (.tmp 136) _ rfl (w.heap.size + 1) 5 i0 _ 1 1 Try.underlying59 hi0 hz0 hz1 hz2 rfl (by omega) _ Y.length _ rfl O9b _ 4 c8 _ rfl (own_src O8) (u8s_one _) (by unfold maxLen; omega) (by omega) (by omega) ?_
              intro v10 w10 O10 hgr10
              rw [← u8s_append, ← HRS.out, HRL.out] at O10
              have C10 : Chg w8 w10 (fun k => (Value.slice a9 Y.length c9).ownBlock = some k) := (Chg.refl _ _).grown hgr10 (fun k hk _ => hk)
              have hne9 := own_ne HO9.out HBX9.out (by decide)
              obtain ⟨a10, c10, rfl, -⟩ := own_form O10
              change K (Act.put _ (some 137) _) _
              simp only [Act.put, List.setIfInBounds_toArray, List.set_cons_zero, List.set_cons_succ]
              refine hK.out _ _ (.inl (C10.cell (C8b.cell b9 (fun h => h)) (fun h => hne9 B h rfl))) (fun hHeld => ?_)
              replace hHeld := SOr.stands hHeld (by kernel_rfl)
              clear hK K
              try simp only [Act.put, List.setIfInBounds_toArray, List.set_cons_zero, List.set_cons_succ]
              refine wpAnyL_take (i := 5) (oi := ?oiy5) (v := ?vy5) ?hiy5 (by kernel_rfl) (by kernel_rfl) (by kernel_rfl) (by kernel_rfl) (fun _ _ _ h => h) (Or.inl ⟨?hwy5, ?hyy5⟩) (by assumption) ?hry5
              case hiy5 => simp only [List.getElem?_toArray, List.getElem?_cons_succ, List.getElem?_cons_zero]; rfl
              case hwy5 => rfl
              case hyy5 => intro wq hSq; (try dsimp only at hSq); go_simp; (try with_reducible rfl)
              try simp only [Act.put, List.setIfInBounds_toArray, List.set_cons_zero, List.set_cons_succ]
              refine wpAnyL_ready (rs := [6]) (by kernel_rfl) (by simp) ?_
              refine AllReadyL.cons rfl (fun K hK => ?_) AllReadyL.nil
              go_simp
              refine hK.out _ _ (.inr (by kernel_rfl)) (fun _ => ?_)
              clear hK K
              try simp only [Act.put, List.setIfInBounds_toArray, List.set_cons_zero, List.set_cons_succ]
              refine wpAnyL_done (by kernel_rfl) ?_ _
              refine NoPanic.normal ?_
              go_wp2_with fail
              go_ret2
              refine ⟨a10, c10, rfl, own_base O10 (by omega), (HS9.out.trans C8b).grown hgr10 (fun k hk h => ?_)⟩
              have := (O9b.lt k hk).1
              omega
end Go.Proofs.Ytdhkbephofnfdaa

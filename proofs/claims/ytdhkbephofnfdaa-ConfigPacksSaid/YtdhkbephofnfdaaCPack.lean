/- config.Pack. -/
import Derived.Test.YtdhkbephofnfdaaCPut
import Derived.Test.YtdhkbephofnfdaaChkAt
import Derived.Test.YtdhkbephofnfdaaCfgCheck
namespace Go.Proofs.Ytdhkbephofnfdaa
open Go.RowKit

theorem nameOk_size {s : ByteArray} (h : nameOk s = true) : s.size ≤ 20 := by
  unfold nameOk at h
  simp only [Bool.and_eq_true, decide_eq_true_eq] at h
  exact h.1.2
theorem chk_small {C : Cfg} (h : chk C = 0) : C.parts.length ≤ 8 ∧ 1 ≤ C.parts.length ∧ (∀ p ∈ C.parts, p.name.size ≤ 20) ∧ C.chans.length ≤ 16 ∧ C.wins.length ≤ 32 := by
  unfold chk at h
  split at h
  · cases h
  split at h
  · cases h
  rename_i _ h2
  split at h
  · cases h
  split at h
  · cases h
  rename_i _ h4
  split at h
  · cases h
  rename_i h5
  have h2 : partsOk C = true := by simpa using h2
  have h4 : chansOk C = true := by simpa using h4
  have h5 : winsOk C = true := by simpa using h5
  unfold partsOk at h2
  unfold chansOk at h4
  unfold winsOk winBase at h5
  simp only [Bool.and_eq_true, decide_eq_true_eq] at h2 h4 h5
  have a1 := wi_true h2.1
  have a2 := wi_true h5.1.2.2
  refine ⟨by omega, by omega, fun p hp => ?_, h4.1, by omega⟩
  obtain ⟨k, hk, rfl⟩ := List.mem_iff_getElem.1 hp
  have := List.all_eq_true.1 h2.2 k (List.mem_range.2 hk)
  rw [partOk_at _ _ hk] at this
  simp only [Bool.and_eq_true] at this
  exact nameOk_size this.1.1

theorem partB_len (p : PartD) : (partB p).length = 12 + p.name.size := by
  unfold partB nameL
  rw [List.length_append, nums_len, List.length_map]
  simp
theorem partsB_len (l : List PartD) (h : ∀ p ∈ l, p.name.size ≤ 20) : (l.flatMap partB).length ≤ 32 * l.length := by
  induction l with
  | nil => simp
  | cons p l ih =>
    rw [List.flatMap_cons, List.length_append, partB_len, List.length_cons]
    have := ih (fun q hq => h q (List.mem_cons_of_mem _ hq))
    have := h p List.mem_cons_self
    omega
theorem chansB_len (l : List ChanD) : (l.flatMap chanB).length = 20 * l.length := by
  induction l with
  | nil => rfl
  | cons p l ih =>
    rw [List.flatMap_cons, List.length_append, ih, List.length_cons]
    show (nums _).length + _ = _
    rw [nums_len]
    simp
    omega
theorem winsB_len (l : List WinD) : (l.flatMap winB).length = 12 * l.length := by
  induction l with
  | nil => rfl
  | cons p l ih =>
    rw [List.flatMap_cons, List.length_append, ih, List.length_cons]
    show (nums _).length + _ = _
    rw [nums_len]
    simp
    omega
theorem strCells_name (s : ByteArray) : Go.Lib.strCells s = u8s (nameL s) := by
  unfold nameL u8s
  rw [List.map_map]
  first | rfl | (unfold Go.Lib.strCells; simp; done)
theorem flat_take_succ {α : Type} (f : α → List Int) (l : List α) (k : Nat) (h : k < l.length) : (l.take (k + 1)).flatMap f = (l.take k).flatMap f ++ f l[k] := by
  rw [List.take_succ_eq_append_getElem h, List.flatMap_append]
  simp

/-- Where Pack is: the configuration in its box, the row in its cell. -/
structure PkSt (w0 w : World) (B : Nat) (cs : Array Value) (v : Value) (xs : List Int) : Prop where
  pa : PutAt w (w0.heap.size + 1) B v xs
  cfg : Box w w0.heap.size 27 cs
  hB : w0.heap.size < B
  chg : Chg w0 w (fun _ => False)

theorem PkSt.keep {w0 w w1 : World} {B : Nat} {cs : Array Value} {v : Value} {xs : List Int} (S : PkSt w0 w B cs v xs) (c : Chg w w1 (fun _ => False)) : PkSt w0 w1 B cs v xs :=
  ⟨S.pa.chg c (fun h => h) (fun _ _ h => h), S.cfg.chg c (fun h => h), S.hB, S.chg.trans c⟩
theorem PkSt.put {w0 w w1 : World} {B : Nat} {cs : Array Value} {v : Value} {xs ys : List Int} (S : PkSt w0 w B cs v xs) (P : PutTo w w1 (w0.heap.size + 1) B v ys) : ∃ v', PkSt w0 w1 B cs v' ys ∧ w1.ownsRow (w0.heap.size + 1) 5 1 v' ys.length (u8s ys) := by
  obtain ⟨v', bx, ow, hat⟩ := P.st
  have hb := S.hB
  have hlt := S.pa.bb.lt
  refine ⟨v', ⟨⟨bx, .own ow⟩, S.cfg.chg P.chg (fun h => ?_), hb, S.chg.trans' P.chg (fun k hk h => ?_)⟩, ow⟩
  · rcases h with h | h
    · omega
    · have := (hlt _ h).1; omega
  · rcases h with h | h
    · omega
    · have := (hlt _ h).1; omega
theorem PkSt.grow {w0 w w4 : World} {B : Nat} {cs : Array Value} {v v4 : Value} {xs ys : List Int} (S : PkSt w0 w B cs v xs) (hg : w.grownBy w4 v.ownBlock) (O4 : w4.ownsRow (w0.heap.size + 1) 5 1 v4 ys.length (u8s ys)) :
    w4.cell? ⟨B, 0, none⟩ = some v ∧ w4.frozen? ⟨B, 0, none⟩ = false ∧ PkSt w0 (w4.setCell ⟨B, 0, none⟩ v4) B cs v4 ys ∧ (w4.setCell ⟨B, 0, none⟩ v4).ownsRow (w0.heap.size + 1) 5 1 v4 ys.length (u8s ys) := by
  have C4 : Chg w w4 (fun k => v.ownBlock = some k) := (Chg.refl w _).grown hg (fun k hk _ => hk)
  have hne := S.pa.bb.ne S.pa.box (by decide)
  have B4 := S.pa.box.chg C4 (fun h => hne B h rfl)
  have C6 : Chg w4 (w4.setCell ⟨B, 0, none⟩ v4) (fun k => k = B) := (Chg.refl w4 (fun k => k = B)).setCell (p := ⟨B, 0, none⟩) (fun _ => rfl) _
  have O6 := own_chg O4 C6 (fun j hj => own_ne O4 B4 (by decide) j hj)
  have hb := S.hB
  have hlt := S.pa.bb.lt
  refine ⟨B4.cell 0, B4.frozen 0, ⟨⟨B4.set 0 v4, .own O6⟩, (S.cfg.chg C4 (fun h => by have := (hlt _ h).1; omega)).chg C6 (fun h => by omega), hb, (S.chg.trans' C4 (fun k hk h => by have := (hlt _ h).1; omega)).trans' C6 (fun k hk h => by omega)⟩, O6⟩

/-- put, of numbers written out. -/
theorem put1_lit {w0 w : World} {B : Nat} {cs : Array Value} {v : Value} {xs : List Int} (S : PkSt w0 w B cs v xs) (hx : xs.length ≤ 2000000) (ns : List Int) (m : Nat) (arr : Array Value) (hm : ns.length = m) (harr : arr.toList = ns.flatMap icell) (h0 : 0 < m) (h8 : m ≤ 8) :
    Calls Try.prog 51 #[.slice (some ⟨w.heap.size, 0, none⟩) m m, .pointer (some ⟨B, 0, none⟩)] (w.alloc (.cells arr 3)) fun e w' => e = .returned (.tuple #[]) ∧ (∃ v', PkSt w0 w' B cs v' (xs ++ nums ns) ∧ w'.ownsRow (w0.heap.size + 1) 5 1 v' (xs ++ nums ns).length (u8s (xs ++ nums ns))) ∧ Chg w w' (fun k => k = B ∨ v.ownBlock = some k) := by
  subst hm
  have CA : Chg w (w.alloc (.cells arr 3)) (fun _ => False) := (Chg.refl w _).alloc _
  have S1 := S.keep CA
  have hlen : (ns.flatMap icell).length = ns.length * 1 := by rw [flat_length icell 1 (fun _ => rfl)]
  have hl := (Box.new w 3 arr).lst ns.length ns.length 1 (ns.flatMap icell) harr hlen (Nat.le_refl _) (by unfold maxLen; omega)
  have hbl := S.pa.box.lt
  have hvl := S.pa.bb.lt
  refine (put1_any ns (w.alloc (.cells arr 3)) S1.pa hl (fun ad e => ?_) (by have := S1.chg.size; rw [World.size_alloc] at this ⊢; have := S.chg.size; omega) hx h8 h0).mono ?_
  · cases e
    refine ⟨?_, by rw [World.size_alloc]; exact Nat.lt_succ_self _, fun e => ?_⟩
    · show w.heap.size ≠ B; omega
    · have := (hvl _ e).2
      exact absurd this (by show ¬ w.heap.size < w.heap.size; omega)
  · rintro e w' ⟨rfl, P⟩
    exact ⟨rfl, S1.put P, (CA.mono (fun _ _ h => h.elim)).trans P.chg⟩


set_option maxRecDepth 100000 in
set_option maxHeartbeats 8000000 in
theorem pack_ok {C : Cfg} {ap ac aw : Option Addr} {cp cc cw : Nat} (w : World) (h : CfgAt w C ap ac aw cp cc cw) (hc : chk C = 0) :
    Calls Try.prog 36 #[.agg (cfgCells C ap ac aw cp cc cw)] w fun e w' => ∃ ao cap, e = .returned (.tuple #[.slice ao (packC C).length cap, .int .i64 0]) ∧ w'.ownsRow w.heap.size 5 1 (.slice ao (packC C).length cap) (packC C).length (u8s (packC C)) ∧ Chg w w' (fun _ => False) := by
  obtain ⟨s1, s2, s3, s4, s5⟩ := chk_small hc
  obtain ⟨i0, hi0, hz0, hz1, hz2⟩ := info_parts info_u8i
  have S3 := Lib.hid s3
  unfold cfgCells
  have hPL : ∀ k, ((C.parts.take k).flatMap partB).length ≤ 256 := fun k => by
    have := partsB_len (C.parts.take k) (fun p hp => s3 p (List.mem_of_mem_take hp))
    have := List.length_take_le' k C.parts
    omega
  have hCL : ∀ k, ((C.chans.take k).flatMap chanB).length ≤ 320 := fun k => by
    have := chansB_len (C.chans.take k)
    have := List.length_take_le' k C.chans
    omega
  have hWL : ∀ k, ((C.wins.take k).flatMap winB).length ≤ 384 := fun k => by
    have := winsB_len (C.wins.take k)
    have := List.length_take_le' k C.wins
    omega
  have HPL := Lib.hid hPL
  have HCL := Lib.hid hCL
  have HWL := Lib.hid hWL
  clear hPL hCL hWL
  obtain ⟨R, hR⟩ : ∃ R, packC C = R := ⟨_, rfl⟩
  have HR : Hid (R = summed (headC C)) := hR.symm
  rw [hR]
  clear hR
  obtain ⟨pg, hpg⟩ : ∃ x, C.pages = x := ⟨_, rfl⟩
  obtain ⟨mj, hmj⟩ : ∃ x, C.major = x := ⟨_, rfl⟩
  obtain ⟨sw, hsw⟩ : ∃ x, C.switch = x := ⟨_, rfl⟩
  obtain ⟨np, hnp⟩ : ∃ x, C.parts.length = x := ⟨_, rfl⟩
  obtain ⟨nc, hnc⟩ : ∃ x, C.chans.length = x := ⟨_, rfl⟩
  obtain ⟨nw, hnw⟩ : ∃ x, C.wins.length = x := ⟨_, rfl⟩
  have HH : Hid (headC C = (((magic ++ nums [pg, mj, sw, (np : Int)]) ++ C.parts.flatMap partB) ++ nums [(nc : Int)]) ++ C.chans.flatMap chanB ++ nums [(nw : Int)] ++ C.wins.flatMap winB) := by
    show _ = _
    unfold headC
    rw [hpg, hmj, hsw, hnp, hnc, hnw]
  rw [hpg, hmj, hsw, hnp, hnc, hnw]
  rw [hnp] at s1 s2
  rw [hnc] at s4
  rw [hnw] at s5
  obtain ⟨wb, hwb⟩ : ∃ wb, w.alloc (.cells #[.int .i64 pg, .int .i64 mj, .int .i64 sw, .slice ap np cp, .slice ac nc cc, .slice aw nw cw] 27) = wb := ⟨_, rfl⟩
  have Cb : Chg w wb (fun _ => False) := by rw [← hwb]; exact (Chg.refl w _).alloc _
  have BXb := Box.new w 27 #[.int .i64 pg, .int .i64 mj, .int .i64 sw, .slice ap np cp, .slice ac nc cc, .slice aw nw cw]
  rw [hwb] at BXb
  have hb := h.keep Cb
  have HCK := check_at hb hc hpg hmj hsw hnp hnc hnw
  have hsz : wb.heap.size = w.heap.size + 1 := by rw [← hwb, World.size_alloc]
  have HNP := Lib.hid hnp
  have HNC := Lib.hid hnc
  have HNW := Lib.hid hnw
  have HCF := Lib.hid h
  have q0 := BXb.cell 0
  have q1 := BXb.cell 1
  have q2 := BXb.cell 2
  have q3 := BXb.cell 3
  have q4 := BXb.cell 4
  have q5 := BXb.cell 5
  clear hc hpg hmj hsw hnp hnc hnw hb h
  go_enter Try.func36, Try.ntmps36
  go_wp2_with fail
  refine HCK.mono ?_
  rintro e w1 ⟨rfl, C1⟩
  clear HCK hwb q0 q1 q2 q3 q4 q5
  have cv := Go.Lib.run_convert_bytes_const (P := Try.prog) w1 59 5 #[.int .u8 84, .int .u8 82, .int .u8 67, .int .u8 49] 4 4 Try.underlying59 Try.underlying5
  obtain ⟨wa, hwa⟩ : ∃ wa, (w1.alloc (.cells #[.int .u8 84, .int .u8 82, .int .u8 67, .int .u8 49] 5 (4, 5))).alloc (.cells #[.slice (some ⟨w1.heap.size, 0, none⟩) 4 4] 59) = wa := ⟨_, rfl⟩
  have Ca : Chg w1 wa (fun _ => False) := by rw [← hwa]; exact ((Chg.refl w1 _).alloc _).alloc _
  have hs1 := C1.size
  have hcells : ∀ j u, (u8s magic)[j]? = some u → wa.cell? ⟨w1.heap.size, j, none⟩ = some u := fun j u hu => by
    have hn : (w1.alloc (.cells #[.int .u8 84, .int .u8 82, .int .u8 67, .int .u8 49] 5 (4, 5))).cell? (Addr.add ⟨w1.heap.size, 0, none⟩ j) = some u := Go.World.news_of_block (B := w1.heap.size) (heap_alloc_new w1 _) j u hu
    rw [Addr.add_lit, Nat.zero_add] at hn
    rw [← hwa]
    exact ((Chg.refl _ (fun _ => False)).alloc _).cell hn (fun h => h)
  have S : PkSt w wa (w1.heap.size + 1) #[.int .i64 pg, .int .i64 mj, .int .i64 sw, .slice ap np cp, .slice ac nc cc, .slice aw nw cw] (.slice (some ⟨w1.heap.size, 0, none⟩) 4 4) magic := by
    refine ⟨⟨?_, .lit w1.heap.size rfl (by decide) (by omega) ?_ hcells ?_⟩, (BXb.chg C1 (fun h => h)).chg Ca (fun h => h), by omega, (Cb.trans C1).trans Ca⟩
    · have := Box.new (w1.alloc (.cells #[.int .u8 84, .int .u8 82, .int .u8 67, .int .u8 49] 5 (4, 5))) 59 #[.slice (some ⟨w1.heap.size, 0, none⟩) 4 4]
      rw [World.size_alloc, hwa] at this
      exact this
    · rw [← hwa, World.size_alloc, World.size_alloc]; omega
    · refine ⟨#[.int .u8 84, .int .u8 82, .int .u8 67, .int .u8 49], (4, 5), ?_⟩
      rw [← hwa]
      exact (Below.heap_alloc _ _ _ (by rw [World.size_alloc]; omega)).trans (heap_alloc_new w1 _)
  obtain ⟨B, hBd⟩ : ∃ B, w1.heap.size + 1 = B := ⟨_, rfl⟩
  rw [hBd] at S
  go_upto_region 6 with fail
  try simp only [hBd]
  obtain ⟨vm, hvm⟩ : ∃ vm, Value.slice (some ⟨w1.heap.size, 0, none⟩) 4 4 = vm := ⟨_, rfl⟩
  rw [hvm] at S
  clear hvm
  have HP := put1_lit S (by decide) [pg, mj, sw, (np : Int)] 4 #[.int .i64 pg, .int .i64 mj, .int .i64 sw, .int .i64 np] rfl rfl (by decide) (by decide)
  have q0 := S.cfg.cell 0
  have q1 := S.cfg.cell 1
  have q2 := S.cfg.cell 2
  have q3 := S.cfg.cell 3
  have q4 := S.cfg.cell 4
  have q5 := S.cfg.cell 5
  clear hcells C1 Ca cv hwa BXb Cb
  go_wp2_with fail
  refine HP.mono ?_
  rintro e w2 ⟨rfl, ⟨v2, S2, O2⟩, -⟩
  clear HP S q0 q1 q2 q3 q4 q5
  obtain ⟨X1, hX1⟩ : ∃ X, magic ++ nums [pg, mj, sw, (np : Int)] = X := ⟨_, rfl⟩
  have l1 : X1.length = 20 := by rw [← hX1]; rfl
  rw [hX1] at S2 O2 HH
  clear hX1
  have q0 := S2.cfg.cell 0
  have q1 := S2.cfg.cell 1
  have q2 := S2.cfg.cell 2
  have q3 := S2.cfg.cell 3
  have q4 := S2.cfg.cell 4
  have q5 := S2.cfg.cell 5
  go_wp2_with fail

  go_loopg [36] np (fun g s36 wr => ∃ k : Nat, ∃ v, g + k = np ∧ s36 = .int .i64 k ∧ PkSt w wr B #[.int .i64 pg, .int .i64 mj, .int .i64 sw, .slice ap np cp, .slice ac nc cc, .slice aw nw cw] v (X1 ++ (C.parts.take k).flatMap partB) ∧ wr.ownsRow (w.heap.size + 1) 5 1 v (X1 ++ (C.parts.take k).flatMap partB).length (u8s (X1 ++ (C.parts.take k).flatMap partB)))
  case atStart => exact ⟨0, _, rfl, rfl, (by rw [List.take_zero, List.flatMap_nil, List.append_nil]; exact S2), (by rw [List.take_zero, List.flatMap_nil, List.append_nil]; exact O2)⟩
  case round =>
    obtain ⟨k, v, hk, rfl, S, O⟩ := hrel
    have HK := Lib.hid hk
    by_cases hlt : k < np
    · have hlt2 : k < C.parts.length := by rw [HNP.out]; exact hlt
      have CFk := HCF.out.keep S.chg
      obtain ⟨g0, o0, rfl⟩ := CFk.ps.pos (by omega)
      have c0 := Lst.cell0 (n := 3) (f := partCells) (fun _ => rfl) CFk.ps k (by decide) hlt2 rfl
      have c1 := Lst.cell (n := 3) (f := partCells) (fun _ => rfl) CFk.ps k 1 (by decide) hlt2 rfl
      have c2 := Lst.cell (n := 3) (f := partCells) (fun _ => rfl) CFk.ps k 2 (by decide) hlt2 rfl
      have HTK := Lib.hid (flat_take_succ partB C.parts k hlt2)
      have hxl : (X1 ++ (C.parts.take k).flatMap partB).length ≤ 276 := by have := HPL.out k; rw [List.length_append]; omega
      have hns := S3.out _ (List.getElem_mem hlt2)
      obtain ⟨pd, hpd⟩ : ∃ pd, C.parts[k] = pd := ⟨_, rfl⟩
      rw [hpd] at c0 c1 c2 HTK hns
      obtain ⟨ys, hys⟩ : ∃ ys, X1 ++ (C.parts.take k).flatMap partB = ys := ⟨_, rfl⟩
      rw [hys] at S O hxl
      have HYS := Lib.hid hys
      have hk0 : (0 : Int) ≤ (k : Int) := by omega
      have hk1 : (k : Int) < (np : Int) := by omega
      obtain ⟨wp, hwp⟩ : ∃ wp, wr.alloc (.cells #[.string pd.name, .int .i64 pd.pages, .int .i64 pd.action] 30) = wp := ⟨_, rfl⟩
      have Cp : Chg wr wp (fun _ => False) := by rw [← hwp]; exact (Chg.refl wr _).alloc _
      have BP := Box.new wr 30 #[.string pd.name, .int .i64 pd.pages, .int .i64 pd.action]
      rw [hwp] at BP
      have Sp := S.keep Cp
      have hBl := S.pa.box.lt
      have hvl := Lib.hid S.pa.bb.lt
      have HP := put1_lit Sp (by omega) [(pd.name.size : Int), pd.pages, pd.action] 3 #[.int .i64 (pd.name.size : Int), .int .i64 pd.pages, .int .i64 pd.action] rfl rfl (by decide) (by decide)
      have u0 := BP.cell 0
      have u1 := BP.cell 1
      have u2 := BP.cell 2
      have b0 := Sp.pa.box.cell 0
      have HSp := Lib.hid Sp
      have HOp := Lib.hid O
      clear hk hys hpd CFk S O Sp
      go_wp2_with fail
      refine HP.mono ?_
      rintro e w3 ⟨rfl, ⟨v3, S3', O3⟩, CC⟩
      clear HP hwp b0 u0 u1 u2
      have BP3 := BP.chg CC (fun h => by
        rcases h with h | h
        · omega
        · have := (hvl.out _ h).2; omega)
      have u0 := BP3.cell 0
      have b3 := S3'.pa.box.cell 0
      have hs3 := S3'.chg.size
      have hsB := S3'.pa.box.lt
      have hB2 := S3'.hB
      have hyl3 : (ys ++ nums [(pd.name.size : Int), pd.pages, pd.action]).length ≤ 1000 := by rw [List.length_append, nums_len]; simp; omega
      obtain ⟨zs, hzs⟩ : ∃ zs, ys ++ nums [(pd.name.size : Int), pd.pages, pd.action] = zs := ⟨_, rfl⟩
      rw [hzs] at S3' O3 hyl3
      have HZS := Lib.hid hzs
      clear hzs
      go_wp2_with (at_builtin; go_loud (refine Go.Lib.wpList_append_own_string _ rfl (.tmp 50) (.tmp 52) _ _ rfl (w.heap.size + 1) 5 i0 Try.underlying59 Try.underlying9 hi0 hz0 hz1 hz2 v3 _ _ rfl O3 pd.name rfl (by unfold maxLen; omega) (by omega) (by omega) ?_); go_loud (intro v4 w4 O4 hgr4 hif4); go_loud (refine ?roundEnd))
      case roundEnd =>
        obtain ⟨ws, hws⟩ : ∃ ws, zs ++ nameL pd.name = ws := ⟨_, rfl⟩
        have hl4 : zs.length + pd.name.size = ws.length := by rw [← hws, List.length_append]; unfold nameL; rw [List.length_map]; simp
        have hc4 : u8s zs ++ Go.Lib.strCells pd.name = u8s ws := by rw [← hws, u8s_append, strCells_name]
        rw [hl4, hc4] at O4
        obtain ⟨a4, c4, rfl, -⟩ := own_form O4
        obtain ⟨b4, f4, S4, O4'⟩ := S3'.grow hgr4 O4
        have HS4 := Lib.hid S4
        have HO4 := Lib.hid O4'
        have hfin : X1 ++ (C.parts.take (k + 1)).flatMap partB = ws := by
          rw [HTK.out, ← hws, ← HZS.out, ← HYS.out]
          unfold partB
          simp only [List.append_assoc]
        have HFIN := Lib.hid hfin
        clear hl4 hc4 hfin hws O4 S4 O4' hif4 S3' O3
        go_wp2_with fail
        go_roundg (gk - 1)
        case measure => have := HK.out; omega
        case rel => exact ⟨k + 1, _, by have := HK.out; omega, by go_num, by rw [HFIN.out]; exact HS4.out, by rw [HFIN.out]; exact HO4.out⟩
    · obtain rfl : np = k := by omega
      have hall : C.parts.take np = C.parts := by rw [← HNP.out, List.take_length]
      rw [hall] at S O
      clear hk hall
      obtain ⟨Y, hY⟩ : ∃ Y, X1 ++ C.parts.flatMap partB = Y := ⟨_, rfl⟩
      have ly : Y.length ≤ 276 := by
        rw [← hY, List.length_append]
        have := (by have := HPL.out C.parts.length; rw [List.take_length] at this; exact this : (C.parts.flatMap partB).length ≤ 256)
        omega
      rw [hY] at S O HH
      clear hY
      have q0 := S.cfg.cell 0
      have q1 := S.cfg.cell 1
      have q2 := S.cfg.cell 2
      have q3 := S.cfg.cell 3
      have q4 := S.cfg.cell 4
      have q5 := S.cfg.cell 5
      have HP := put1_lit S (by omega) [(nc : Int)] 1 #[.int .i64 nc] rfl rfl (by decide) (by decide)
      go_wp2_with fail
      refine HP.mono ?_
      rintro e w5 ⟨rfl, ⟨v5, S2, O2⟩, -⟩
      clear HP S O q0 q1 q2 q3 q4 q5
      obtain ⟨X3, hX⟩ : ∃ X, Y ++ nums [(nc : Int)] = X := ⟨_, rfl⟩
      have lX3 : X3.length ≤ 280 := by rw [← hX, List.length_append, nums_len]; simp; omega
      rw [hX] at S2 O2 HH
      clear hX
      have q0 := S2.cfg.cell 0
      have q1 := S2.cfg.cell 1
      have q2 := S2.cfg.cell 2
      have q3 := S2.cfg.cell 3
      have q4 := S2.cfg.cell 4
      have q5 := S2.cfg.cell 5
      go_wp2_with fail
      go_loopg [64] nc (fun g s64 wr => ∃ k : Nat, ∃ v, g + k = nc ∧ s64 = .int .i64 k ∧ PkSt w wr B #[.int .i64 pg, .int .i64 mj, .int .i64 sw, .slice ap np cp, .slice ac nc cc, .slice aw nw cw] v (X3 ++ (C.chans.take k).flatMap chanB) ∧ wr.ownsRow (w.heap.size + 1) 5 1 v (X3 ++ (C.chans.take k).flatMap chanB).length (u8s (X3 ++ (C.chans.take k).flatMap chanB)))
      case atStart => exact ⟨0, _, rfl, rfl, (by rw [List.take_zero, List.flatMap_nil, List.append_nil]; exact S2), (by rw [List.take_zero, List.flatMap_nil, List.append_nil]; exact O2)⟩
      case round =>
        obtain ⟨k, v, hk, rfl, S, O⟩ := hrel
        have HK := Lib.hid hk
        by_cases hlt : k < nc
        · have hlt2 : k < C.chans.length := by rw [HNC.out]; exact hlt
          have CFk := HCF.out.keep S.chg
          obtain ⟨g0, o0, rfl⟩ := CFk.cs.pos (by omega)
          have c0 := Lst.cell0 (n := 5) (f := chanCells) (fun _ => rfl) CFk.cs k (by decide) hlt2 rfl
          have c1 := Lst.cell (n := 5) (f := chanCells) (fun _ => rfl) CFk.cs k 1 (by decide) hlt2 rfl
          have c2 := Lst.cell (n := 5) (f := chanCells) (fun _ => rfl) CFk.cs k 2 (by decide) hlt2 rfl
          have c3 := Lst.cell (n := 5) (f := chanCells) (fun _ => rfl) CFk.cs k 3 (by decide) hlt2 rfl
          have c4 := Lst.cell (n := 5) (f := chanCells) (fun _ => rfl) CFk.cs k 4 (by decide) hlt2 rfl
          have HTK := Lib.hid (flat_take_succ chanB C.chans k hlt2)
          have hxl : (X3 ++ (C.chans.take k).flatMap chanB).length ≤ 600 := by have := HCL.out k; rw [List.length_append]; omega
          obtain ⟨pd, hpd⟩ : ∃ pd, C.chans[k] = pd := ⟨_, rfl⟩
          rw [hpd] at c0 c1 c2 c3 c4 HTK
          obtain ⟨ys, hys⟩ : ∃ ys, X3 ++ (C.chans.take k).flatMap chanB = ys := ⟨_, rfl⟩
          rw [hys] at S O hxl
          have HYS := Lib.hid hys
          have hk0 : (0 : Int) ≤ (k : Int) := by omega
          have hk1 : (k : Int) < (nc : Int) := by omega
          obtain ⟨wp, hwp⟩ : ∃ wp, wr.alloc (.cells #[.int .i64 pd.kind, .int .i64 pd.src, .int .i64 pd.dst, .int .i64 pd.size, .int .i64 pd.depth] 32) = wp := ⟨_, rfl⟩
          have Cp : Chg wr wp (fun _ => False) := by rw [← hwp]; exact (Chg.refl wr _).alloc _
          have BP := Box.new wr 32 #[.int .i64 pd.kind, .int .i64 pd.src, .int .i64 pd.dst, .int .i64 pd.size, .int .i64 pd.depth]
          rw [hwp] at BP
          have Sp := S.keep Cp
          have hBl := S.pa.box.lt
          have hvl := Lib.hid S.pa.bb.lt
          have HP := put1_lit Sp (by omega) [pd.kind, pd.src, pd.dst, pd.size, pd.depth] 5 #[.int .i64 pd.kind, .int .i64 pd.src, .int .i64 pd.dst, .int .i64 pd.size, .int .i64 pd.depth] rfl rfl (by decide) (by decide)
          have u0 := BP.cell 0
          have u1 := BP.cell 1
          have u2 := BP.cell 2
          have u3 := BP.cell 3
          have u4 := BP.cell 4
          have b0 := Sp.pa.box.cell 0
          have HSp := Lib.hid Sp
          have HOp := Lib.hid O
          clear hk hys hpd CFk S O Sp
          go_wp2_with fail
          refine HP.mono ?_
          rintro e w3 ⟨rfl, ⟨v3, S3', O3⟩, CC⟩
          clear HP hwp b0 u0 u1 u2 u3 u4
          have hfin : X3 ++ (C.chans.take (k + 1)).flatMap chanB = ys ++ nums [pd.kind, pd.src, pd.dst, pd.size, pd.depth] := by
            rw [HTK.out, ← HYS.out, List.append_assoc]
            rfl
          have HFIN := Lib.hid hfin
          have HS4 := Lib.hid S3'
          have HO4 := Lib.hid O3
          clear hfin S3' O3
          go_wp2_with fail
          go_roundg (gk - 1)
          case measure => have := HK.out; omega
          case rel => exact ⟨k + 1, v3, by have := HK.out; omega, by go_num, by rw [HFIN.out]; exact HS4.out, by rw [HFIN.out]; exact HO4.out⟩
        · obtain rfl : nc = k := by omega
          have hall : C.chans.take nc = C.chans := by rw [← HNC.out, List.take_length]
          rw [hall] at S O
          clear hk hall
          obtain ⟨Y, hY⟩ : ∃ Y, X3 ++ C.chans.flatMap chanB = Y := ⟨_, rfl⟩
          have ly : Y.length ≤ 600 := by
            rw [← hY, List.length_append]
            have := (by have := HCL.out C.chans.length; rw [List.take_length] at this; exact this : (C.chans.flatMap chanB).length ≤ 320)
            omega
          rw [hY] at S O HH
          clear hY
          have q0 := S.cfg.cell 0
          have q1 := S.cfg.cell 1
          have q2 := S.cfg.cell 2
          have q3 := S.cfg.cell 3
          have q4 := S.cfg.cell 4
          have q5 := S.cfg.cell 5
          have HP := put1_lit S (by omega) [(nw : Int)] 1 #[.int .i64 nw] rfl rfl (by decide) (by decide)
          go_wp2_with fail
          refine HP.mono ?_
          rintro e w5 ⟨rfl, ⟨v5, S2, O2⟩, -⟩
          clear HP S O q0 q1 q2 q3 q4 q5
          obtain ⟨X5, hX⟩ : ∃ X, Y ++ nums [(nw : Int)] = X := ⟨_, rfl⟩
          have lX5 : X5.length ≤ 604 := by rw [← hX, List.length_append, nums_len]; simp; omega
          rw [hX] at S2 O2 HH
          clear hX
          have q0 := S2.cfg.cell 0
          have q1 := S2.cfg.cell 1
          have q2 := S2.cfg.cell 2
          have q3 := S2.cfg.cell 3
          have q4 := S2.cfg.cell 4
          have q5 := S2.cfg.cell 5
          go_wp2_with fail
          go_loopg [91] nw (fun g s91 wr => ∃ k : Nat, ∃ v, g + k = nw ∧ s91 = .int .i64 k ∧ PkSt w wr B #[.int .i64 pg, .int .i64 mj, .int .i64 sw, .slice ap np cp, .slice ac nc cc, .slice aw nw cw] v (X5 ++ (C.wins.take k).flatMap winB) ∧ wr.ownsRow (w.heap.size + 1) 5 1 v (X5 ++ (C.wins.take k).flatMap winB).length (u8s (X5 ++ (C.wins.take k).flatMap winB)))
          case atStart => exact ⟨0, _, rfl, rfl, (by rw [List.take_zero, List.flatMap_nil, List.append_nil]; exact S2), (by rw [List.take_zero, List.flatMap_nil, List.append_nil]; exact O2)⟩
          case round =>
            obtain ⟨k, v, hk, rfl, S, O⟩ := hrel
            have HK := Lib.hid hk
            by_cases hlt : k < nw
            · have hlt2 : k < C.wins.length := by rw [HNW.out]; exact hlt
              have CFk := HCF.out.keep S.chg
              obtain ⟨g0, o0, rfl⟩ := CFk.ws.pos (by omega)
              have c0 := Lst.cell0 (n := 3) (f := winCells) (fun _ => rfl) CFk.ws k (by decide) hlt2 rfl
              have c1 := Lst.cell (n := 3) (f := winCells) (fun _ => rfl) CFk.ws k 1 (by decide) hlt2 rfl
              have c2 := Lst.cell (n := 3) (f := winCells) (fun _ => rfl) CFk.ws k 2 (by decide) hlt2 rfl
              have HTK := Lib.hid (flat_take_succ winB C.wins k hlt2)
              have hxl : (X5 ++ (C.wins.take k).flatMap winB).length ≤ 988 := by have := HWL.out k; rw [List.length_append]; omega
              obtain ⟨pd, hpd⟩ : ∃ pd, C.wins[k] = pd := ⟨_, rfl⟩
              rw [hpd] at c0 c1 c2 HTK
              obtain ⟨ys, hys⟩ : ∃ ys, X5 ++ (C.wins.take k).flatMap winB = ys := ⟨_, rfl⟩
              rw [hys] at S O hxl
              have HYS := Lib.hid hys
              have hk0 : (0 : Int) ≤ (k : Int) := by omega
              have hk1 : (k : Int) < (nw : Int) := by omega
              obtain ⟨wp, hwp⟩ : ∃ wp, wr.alloc (.cells #[.int .i64 pd.start, .int .i64 pd.len, .int .i64 pd.part] 34) = wp := ⟨_, rfl⟩
              have Cp : Chg wr wp (fun _ => False) := by rw [← hwp]; exact (Chg.refl wr _).alloc _
              have BP := Box.new wr 34 #[.int .i64 pd.start, .int .i64 pd.len, .int .i64 pd.part]
              rw [hwp] at BP
              have Sp := S.keep Cp
              have hBl := S.pa.box.lt
              have hvl := Lib.hid S.pa.bb.lt
              have HP := put1_lit Sp (by omega) [pd.start, pd.len, pd.part] 3 #[.int .i64 pd.start, .int .i64 pd.len, .int .i64 pd.part] rfl rfl (by decide) (by decide)
              have u0 := BP.cell 0
              have u1 := BP.cell 1
              have u2 := BP.cell 2
              have b0 := Sp.pa.box.cell 0
              have HSp := Lib.hid Sp
              have HOp := Lib.hid O
              clear hk hys hpd CFk S O Sp
              go_wp2_with fail
              refine HP.mono ?_
              rintro e w3 ⟨rfl, ⟨v3, S3', O3⟩, CC⟩
              clear HP hwp b0 u0 u1 u2
              have hfin : X5 ++ (C.wins.take (k + 1)).flatMap winB = ys ++ nums [pd.start, pd.len, pd.part] := by
                rw [HTK.out, ← HYS.out, List.append_assoc]
                rfl
              have HFIN := Lib.hid hfin
              have HS4 := Lib.hid S3'
              have HO4 := Lib.hid O3
              clear hfin S3' O3
              go_wp2_with fail
              go_roundg (gk - 1)
              case measure => have := HK.out; omega
              case rel => exact ⟨k + 1, v3, by have := HK.out; omega, by go_num, by rw [HFIN.out]; exact HS4.out, by rw [HFIN.out]; exact HO4.out⟩
            · obtain rfl : nw = k := by omega
              have hall : C.wins.take nw = C.wins := by rw [← HNW.out, List.take_length]
              rw [hall] at S O
              clear hk hall
              have hW := HWL.out C.wins.length
              rw [List.take_length] at hW
              have hr := rngB_head C
              rw [HH.out] at hr
              obtain ⟨Y, hY⟩ : ∃ Y, X5 ++ C.wins.flatMap winB = Y := ⟨_, rfl⟩
              have ly : Y.length ≤ 988 := by rw [← hY, List.length_append]; omega
              rw [hY] at S O HH hr
              have hRs : R = Y ++ fourB (sumI Y % 4294967296) := by rw [HR.out, HH.out]; rfl
              have hRl : Y.length + 4 = R.length := by rw [hRs, List.length_append, fourB_len]
              have b9 := S.pa.box.cell 0
              obtain ⟨a9, c9, rfl, -⟩ := own_form O
              have HSM := summed_any _ O (by have := S.chg.size; have := S.pa.box.lt; have := S.hB; omega) hr (by omega)
              rw [show summed Y = R from hRs.symm, hRl] at HSM
              have HO9 := Lib.hid O
              have HS9 := Lib.hid S.chg
              clear hY hRs hRl hr O S HH HR
              go_wp2_with fail
              refine HSM.mono ?_
              rintro e w9 ⟨ao9, c9', rfl, O9, C9⟩
              go_wp2_with fail
              go_ret2
              refine ⟨ao9, c9', rfl, own_base O9 (by omega), HS9.out.trans' C9 (fun k hk h => ?_)⟩
              have := (HO9.out.lt k h).1
              omega
end Go.Proofs.Ytdhkbephofnfdaa

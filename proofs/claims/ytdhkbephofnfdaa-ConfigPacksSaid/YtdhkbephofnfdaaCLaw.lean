/- config: reading what was packed gives it back; no program in sight. -/
import Derived.Test.YtdhkbephofnfdaaCUnp2
namespace Go.Proofs.Ytdhkbephofnfdaa
open Go.RowKit

def wrd (x : Int) : Prop := 0 ≤ x ∧ x < 4294967296
theorem pNum_at {x : Int} (h : wrd x) (t : List Int) : pNum (fourB x ++ t) = some (x, t) := by
  unfold pNum
  rw [if_pos (by simp [fourB])]
  have h1 : numB (fourB x ++ t) 0 = x := by
    unfold numB num4 fourB
    simp only [List.cons_append, List.nil_append, Nat.zero_add, List.getD_cons_zero, List.getD_cons_succ]
    obtain ⟨h0, h2⟩ := h
    omega
  rw [h1]
  rfl
theorem pCount_at {x most : Int} (h : wrd x) (hm : x ≤ most) (t : List Int) : pCount most (fourB x ++ t) = some (x, t) := by
  unfold pCount
  rw [pNum_at h t]
  exact if_pos hm
theorem nameL_len (s : ByteArray) : (nameL s).length = s.size := by unfold nameL; simp
theorem pTake_at (s : ByteArray) (t : List Int) : pTake (s.size : Int) (nameL s ++ t) = some (nameL s, t) := by
  unfold pTake
  have hl := nameL_len s
  rw [if_pos (by rw [List.length_append]; omega), Int.toNat_natCast, ← hl, List.take_left, List.drop_left]
theorem str_name (s : ByteArray) : strOfNums (nameL s) = s := by
  unfold strOfNums nameL
  have : (s.data.toList.map (fun u => (u.toNat : Int))).map (fun n => UInt8.ofNat n.toNat) = s.data.toList := by
    rw [List.map_map]
    conv => rhs; rw [← List.map_id s.data.toList]
    apply List.map_congr_left
    intro u _
    simp
  rw [this]

theorem nums_cons (x : Int) (l : List Int) : nums (x :: l) = fourB x ++ nums l := rfl
theorem pPart_at (p : PartD) (h1 : p.name.size ≤ 20) (h2 : wrd p.pages) (h3 : wrd p.action) (t : List Int) : pPart (partB p ++ t) = some (p, t) := by
  unfold pPart partB
  rw [nums_cons, nums_cons, nums_cons]
  simp only [List.append_assoc]
  rw [pCount_at ⟨by omega, by omega⟩ (by omega)]
  simp only [Option.bind_some]
  rw [pNum_at h2]
  simp only [Option.bind_some]
  rw [pNum_at h3]
  simp only [Option.bind_some]
  rw [show nums [] = ([] : List Int) from rfl, List.nil_append, pTake_at]
  simp only [Option.bind_some, str_name]
theorem pChan_at (x : ChanD) (h1 : wrd x.kind) (h2 : wrd x.src) (h3 : wrd x.dst) (h4 : wrd x.size) (h5 : wrd x.depth) (t : List Int) : pChan (chanB x ++ t) = some (x, t) := by
  unfold pChan chanB
  rw [nums_cons, nums_cons, nums_cons, nums_cons, nums_cons]
  simp only [List.append_assoc]
  rw [pNum_at h1]
  simp only [Option.bind_some]
  rw [pNum_at h2]
  simp only [Option.bind_some]
  rw [pNum_at h3]
  simp only [Option.bind_some]
  rw [pNum_at h4]
  simp only [Option.bind_some]
  rw [pNum_at h5]
  simp only [Option.bind_some]
  rfl
theorem pWin_at (x : WinD) (h1 : wrd x.start) (h2 : wrd x.len) (h3 : wrd x.part) (t : List Int) : pWin (winB x ++ t) = some (x, t) := by
  unfold pWin winB
  rw [nums_cons, nums_cons, nums_cons]
  simp only [List.append_assoc]
  rw [pNum_at h1]
  simp only [Option.bind_some]
  rw [pNum_at h2]
  simp only [Option.bind_some]
  rw [pNum_at h3]
  simp only [Option.bind_some]
  rfl
theorem pList_at {α : Type} (f : List Int → Option (α × List Int)) (B : α → List Int) (l : List α) (hf : ∀ x ∈ l, ∀ t, f (B x ++ t) = some (x, t)) (t : List Int) : ∀ k, k ≤ l.length → pList f k (l.flatMap B ++ t) = some (l.take k, (l.drop k).flatMap B ++ t)
  | 0, _ => by rfl
  | k + 1, hk => by
    show (pList f k _).bind _ = _
    rw [pList_at f B l hf t k (by omega)]
    simp only [Option.bind_some]
    rw [List.drop_eq_getElem_cons (show k < l.length by omega), List.flatMap_cons, List.append_assoc, hf _ (List.getElem_mem _)]
    simp only [Option.bind_some]
    rw [List.take_succ_eq_append_getElem (show k < l.length by omega)]
theorem pList_all {α : Type} (f : List Int → Option (α × List Int)) (B : α → List Int) (l : List α) (hf : ∀ x ∈ l, ∀ t, f (B x ++ t) = some (x, t)) (t : List Int) (n : Int) (hn : n = l.length) : pList f n.toNat (l.flatMap B ++ t) = some (l, t) := by
  have := pList_at f B l hf t l.length (Nat.le_refl _)
  rw [List.take_length, List.drop_length] at this
  rw [hn, Int.toNat_natCast, this]
  rfl

/-- The numbers of a configuration that is one. -/
structure Nums (C : Cfg) : Prop where
  pg : wrd C.pages
  mj : wrd C.major
  sw : wrd C.switch
  ps : ∀ p ∈ C.parts, p.name.size ≤ 20 ∧ wrd p.pages ∧ wrd p.action
  cs : ∀ x ∈ C.chans, wrd x.kind ∧ wrd x.src ∧ wrd x.dst ∧ wrd x.size ∧ wrd x.depth
  ws : ∀ x ∈ C.wins, wrd x.start ∧ wrd x.len ∧ wrd x.part
  np : C.parts.length ≤ 8
  nc : C.chans.length ≤ 16
  nw : C.wins.length ≤ 32

theorem wins_nums {C : Cfg} (hm : C.major ≤ 100000) (hs : 0 ≤ C.switch) (hp : C.parts.length ≤ 8) : ∀ (l : List WinD) (e : Int), 0 ≤ e → winsGo C l e = true → ∀ x ∈ l, wrd x.start ∧ wrd x.len ∧ wrd x.part
  | [], _, _, _ => fun x hx => (by cases hx)
  | y :: r, e, he, h => by
    unfold winsGo at h
    rw [Bool.and_eq_true] at h
    have h1 := winOk_end h.1
    have h2 := h.1
    unfold winOk at h2
    simp only [Bool.and_eq_true] at h2
    have h3 := wi_true h2.2.2.2
    intro x hx
    rcases List.mem_cons.1 hx with rfl | hx
    · unfold wrd; omega
    · exact wins_nums hm hs hp r _ (by omega) h.2 x hx
theorem nums_of {C : Cfg} (h : chk C = 0) : Nums C := by
  obtain ⟨s1, s2, s3, s4, s5⟩ := chk_small h
  unfold chk at h
  split at h
  · cases h
  rename_i h1
  split at h
  · cases h
  rename_i h2
  split at h
  · cases h
  rename_i h3
  split at h
  · cases h
  rename_i h4
  split at h
  · cases h
  rename_i h5
  have h1 : wi C.pages 5 256 = true := by simpa using h1
  have h2 : partsOk C = true := by simpa using h2
  have h3 : memOk C = true := by simpa using h3
  have h4 : chansOk C = true := by simpa using h4
  have h5 : winsOk C = true := by simpa using h5
  have a1 := wi_true h1
  unfold partsOk at h2
  unfold memOk at h3
  unfold chansOk at h4
  unfold winsOk winBase at h5
  simp only [Bool.and_eq_true, decide_eq_true_eq] at h2 h3 h4 h5
  have a2 := wi_true h5.1.1
  have a3 := wi_true h5.1.2.1
  refine ⟨⟨by omega, by omega⟩, ⟨by omega, by omega⟩, ⟨by omega, by omega⟩, fun p hp => ⟨s3 p hp, ?_, ?_⟩, fun x hx => ?_, wins_nums a2.2 a3.1 s1 C.wins 0 (Int.le_refl 0) h5.2, s1, s4, s5⟩
  · have := wi_true (List.all_eq_true.1 h3.1 p hp)
    unfold wrd; omega
  · obtain ⟨k, hk, rfl⟩ := List.mem_iff_getElem.1 hp
    have := List.all_eq_true.1 h2.2 k (List.mem_range.2 hk)
    rw [partOk_at _ _ hk] at this
    simp only [Bool.and_eq_true] at this
    have := wi_true this.1.2
    unfold wrd; omega
  · have := List.all_eq_true.1 h4.2 x hx
    unfold chOk at this
    simp only [Bool.and_eq_true] at this
    have b1 := wi_true this.1
    have b2 := wi_true this.2.1
    have b3 := wi_true this.2.2.1
    have b4 := wi_true this.2.2.2.2.1
    have b5 := wi_true this.2.2.2.2.2.1
    unfold wrd; omega

theorem bind_at {α β : Type} {o : Option α} {a : α} {f : α → Option β} {r : Option β} (h : o = some a) (hf : f a = r) : o.bind f = r := by rw [h]; exact hf
theorem tail3_at {C : Cfg} (h : Nums C) (pg mj sw : Int) (ps : List PartD) (cs : List ChanD) (t : List Int) : pTail3 pg mj sw ps cs (fourB (C.wins.length : Int) ++ (C.wins.flatMap winB ++ t)) = some (⟨pg, mj, sw, ps, cs, C.wins⟩, t) := by
  have hn3 := h.nw
  exact bind_at (pCount_at ⟨by omega, by omega⟩ (by omega) _) (bind_at (pList_all pWin winB C.wins (fun x hx t => pWin_at x (h.ws x hx).1 (h.ws x hx).2.1 (h.ws x hx).2.2 t) _ _ rfl) rfl)
theorem tail2_at {C : Cfg} (h : Nums C) (pg mj sw : Int) (ps : List PartD) (t : List Int) : pTail2 pg mj sw ps (fourB (C.chans.length : Int) ++ (C.chans.flatMap chanB ++ (fourB (C.wins.length : Int) ++ (C.wins.flatMap winB ++ t)))) = some (⟨pg, mj, sw, ps, C.chans, C.wins⟩, t) := by
  have hn3 := h.nc
  exact bind_at (pCount_at ⟨by omega, by omega⟩ (by omega) _) (bind_at (pList_all pChan chanB C.chans (fun x hx t => pChan_at x (h.cs x hx).1 (h.cs x hx).2.1 (h.cs x hx).2.2.1 (h.cs x hx).2.2.2.1 (h.cs x hx).2.2.2.2 t) _ _ rfl) (tail3_at h pg mj sw ps C.chans t))
theorem tail1_at {C : Cfg} (h : Nums C) (pg mj sw : Int) (t : List Int) : pTail1 pg mj sw (fourB (C.parts.length : Int) ++ (C.parts.flatMap partB ++ (fourB (C.chans.length : Int) ++ (C.chans.flatMap chanB ++ (fourB (C.wins.length : Int) ++ (C.wins.flatMap winB ++ t)))))) = some (⟨pg, mj, sw, C.parts, C.chans, C.wins⟩, t) := by
  have hn3 := h.np
  exact bind_at (pCount_at ⟨by omega, by omega⟩ (by omega) _) (bind_at (pList_all pPart partB C.parts (fun p hp t => pPart_at p (h.ps p hp).1 (h.ps p hp).2.1 (h.ps p hp).2.2 t) _ _ rfl) (tail2_at h pg mj sw C.parts t))
theorem head_at {C : Cfg} (h : Nums C) (t : List Int) : pHead (fourB C.pages ++ (fourB C.major ++ (fourB C.switch ++ (fourB (C.parts.length : Int) ++ (C.parts.flatMap partB ++ (fourB (C.chans.length : Int) ++ (C.chans.flatMap chanB ++ (fourB (C.wins.length : Int) ++ (C.wins.flatMap winB ++ t))))))))) = some (C, t) :=
  bind_at (pNum_at h.pg _) (bind_at (pNum_at h.mj _) (bind_at (pNum_at h.sw _) (tail1_at h C.pages C.major C.switch t)))
theorem headC_eq (C : Cfg) (t : List Int) : headC C ++ t = magic ++ (fourB C.pages ++ (fourB C.major ++ (fourB C.switch ++ (fourB (C.parts.length : Int) ++ (C.parts.flatMap partB ++ (fourB (C.chans.length : Int) ++ (C.chans.flatMap chanB ++ (fourB (C.wins.length : Int) ++ (C.wins.flatMap winB ++ t))))))))) := by
  unfold headC
  have n1 : ∀ x : Int, nums [x] = fourB x := fun x => by rw [nums_cons]; exact List.append_nil _
  have n4 : ∀ a b c d : Int, nums [a, b, c, d] = fourB a ++ (fourB b ++ (fourB c ++ fourB d)) := fun a b c d => by rw [nums_cons, nums_cons, nums_cons, n1]
  rw [n4, n1, n1]
  generalize fourB C.pages = a1
  generalize fourB C.major = a2
  generalize fourB C.switch = a3
  generalize fourB (C.parts.length : Int) = a4
  generalize fourB (C.chans.length : Int) = a5
  generalize fourB (C.wins.length : Int) = a6
  generalize C.parts.flatMap partB = b1
  generalize C.chans.flatMap chanB = b2
  generalize C.wins.flatMap winB = b3
  generalize magic = m
  simp only [List.append_assoc]
theorem pTake_magic (r : List Int) : pTake 4 (magic ++ r) = some (magic, r) := by
  unfold pTake
  rw [if_pos (by rw [List.length_append]; simp [magic]; omega)]
  rfl
theorem pCfg_head {C : Cfg} (h : Nums C) (t : List Int) : pCfg (headC C ++ t) = some (C, t) := by
  rw [headC_eq]
  exact bind_at (pTake_magic _) ((if_pos rfl).trans (head_at h t))
theorem unV_pack {C : Cfg} (h : chk C = 0) : unV (packC C) = (C, 0) := by
  unfold unV
  rw [show packC C = headC C ++ fourB (sumI (headC C) % 4294967296) from rfl, pCfg_head (nums_of h)]
  dsimp only
  rw [if_pos ⟨h, rfl⟩]
/-- Only a packed configuration is read. -/
theorem unV_good {xs : List Int} {C : Cfg} (h : unV xs = (C, 0)) : chk C = 0 ∧ packC C = xs := by
  unfold unV at h
  split at h
  · split at h
    · rename_i hc
      injection h with h1 _
      subst h1
      exact hc
    · injection h with _ h2
      exact absurd h2 (by decide)
  · injection h with _ h2
    exact absurd h2 (by decide)
theorem unV_form (xs : List Int) : (∃ C, chk C = 0 ∧ packC C = xs ∧ unV xs = (C, 0)) ∨ unV xs = (zeroC, 4) := by
  unfold unV
  split
  · split
    · rename_i hc
      exact .inl ⟨_, hc.1, hc.2, rfl⟩
    · exact .inr rfl
  · exact .inr rfl
end Go.Proofs.Ytdhkbephofnfdaa

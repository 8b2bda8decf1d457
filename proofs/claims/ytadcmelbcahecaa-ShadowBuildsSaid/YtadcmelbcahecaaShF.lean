/- shadow: Tables. -/
import Derived.Test.YtadcmelbcahecaaShE
import Derived.Lib.RowBridge
namespace Go.Proofs.Ytadcmelbcahecaa
open Go.RowKit Go.Shelf Go.Sort

theorem info_ints : (Try.prog.info? 3).map (fun i => (i.zero, i.size, i.bytes)) = some (some (.int .i64 0), 1, 8) := by kernel_rfl

/-- Whether a word is the entry of a table. -/
def isDir (n : Nat) (f : Nat → Int) (root : Int) (k : Nat) : Bool := okB n (root * 4096 + 4 * k) 4 && dirB (ldV n f (root * 4096 + 4 * k) 4)
/-- The frames of the tables that the first k entries lead to. -/
def dirsL (n : Nat) (f : Nat → Int) (root : Int) : Nat → List Int
  | 0 => []
  | k + 1 => dirsL n f root k ++ (if isDir n f root k = true then [ldV n f (root * 4096 + 4 * k) 4 / 4096] else [])
theorem dirsL_le (n : Nat) (f : Nat → Int) (root : Int) : ∀ k, (dirsL n f root k).length ≤ k
  | 0 => Nat.le_refl _
  | k + 1 => by
    have := dirsL_le n f root k
    unfold dirsL
    rw [List.length_append]
    split
    · simp; omega
    · simp; omega
def tabL (n : Nat) (f : Nat → Int) (ptbr pages : Int) : List Int :=
  if onB ptbr = false then [] else (Lib.compact ((ptbr % 1048576 :: dirsL n f (ptbr % 1048576) 1024).mergeSort fun x y => decide (x ≤ y))).filter (fun x => !decide (pages ≤ x))

theorem flat_icell (xs : List Int) : xs.flatMap icell = xs.map (Value.int .i64) := by
  induction xs with
  | nil => rfl
  | cons x xs ih => rw [List.flatMap_cons, List.map_cons, ih]; rfl

theorem own_holds {w : World} {base : Nat} {e : TypeId} {g n cap : Nat} {xs : List Int} (h : w.ownsRow base e 1 (.slice (some ⟨g, 0, none⟩) n cap) n (xs.flatMap icell)) (hn : xs.length = n) : Holds (Value.int .i64) w g 0 xs.toArray := by
  rcases h.2 with ⟨h0, _⟩ | ⟨g', cap', cur, hv, hg, hb, h1, h2, h3, h4⟩
  · cases h0
  · cases hv
    refine holds_of_blockI hb ?_
    rw [hn, ← flat_icell, ← h4, Nat.mul_one]

theorem holds_lst {w : World} {g cap : Nat} {zs : List Int} (h : Holds (Value.int .i64) w g 0 zs.toArray) (hc : zs.length ≤ cap) (hm : cap ≤ maxLen) : Lst w (some ⟨g, 0, none⟩) zs.length cap (zs.flatMap icell) 1 :=
  ⟨⟨by rw [flat_icell]; simp, fun h => (by cases h), fun ad e j u hu => by
    injection e with e
    subst e
    rw [flat_icell, List.getElem?_map] at hu
    obtain ⟨x, hx, rfl⟩ := Option.map_eq_some_iff.1 hu
    obtain ⟨hj, rfl⟩ := List.getElem?_eq_some_iff.1 hx
    have := (h j (by simpa using hj)).1
    rw [Addr.add_lit, this, getElem!_pos _ j (by simpa using hj)]
    simp⟩, fun _ => ⟨g, 0, rfl⟩, hc, hm⟩

set_option maxRecDepth 100000 in
set_option maxHeartbeats 4000000 in
theorem tables_on {a b n : Nat} {f : Nat → Int} {w : World} (M : Mem 74 w a b n f) (ptbr pages : Int) (hon : onB ptbr = true) :
    Calls Try.prog 17 #[.iface 24 (.pointer (some ⟨a, 0, none⟩)), .int .i64 ptbr, .int .i64 pages] w fun e w' => ∃ ao cap, e = .returned (.slice ao (tabL n f ptbr pages).length cap) ∧ Lst w' ao (tabL n f ptbr pages).length cap ((tabL n f ptbr pages).flatMap icell) 1 ∧ (∀ ad, ao = some ad → 0 < (tabL n f ptbr pages).length → ad.block < w'.heap.size) ∧ Chg w w' (fun _ => False) := by
  obtain ⟨i0, hi, hz0, hz1, hz2⟩ := info_parts info_ints
  have e0 : (bits .and .i64 ptbr 2147483648 == 0) = false := by rw [bit31]; exact beq_eq_false_iff_ne.2 (by have := of_decide_eq_true hon; omega)
  obtain ⟨root, hrt⟩ : ∃ root, ptbr % 1048576 = root := ⟨_, rfl⟩
  have e1 : bits .and .i64 ptbr 1048575 = root := by rw [← hrt]; exact and20 ptbr
  have hr0 : 0 ≤ root := by omega
  have hr1 : root < 1048576 := by omega
  have HT : Hid (tabL n f ptbr pages = (Lib.compact ((root :: dirsL n f root 1024).mergeSort fun x y => decide (x ≤ y))).filter (fun x => !decide (pages ≤ x))) := by
    show _ = _
    unfold tabL
    rw [hon, hrt]
    rfl
  obtain ⟨T, hT⟩ : ∃ T, tabL n f ptbr pages = T := ⟨_, rfl⟩
  rw [hT] at HT ⊢
  clear hT hrt hon
  have hm := meth_load a
  have C1 := (Chg.refl w (fun _ => False)).alloc (.cells #[.int .i64 pages] 3)
  have bP := Box.new w 3 #[.int .i64 pages]
  have M1 := M.chg C1 (fun h => h) (fun h => h)
  go_enter Try.func17, Try.ntmps17
  go_wp2_with fail
  go_loopg [8, 19] 1024 (fun g s8 s19 wr => ∃ k : Nat, g + k = 1024 ∧ s19 = .int .i64 k ∧ wr.ownsRow (w.heap.size + 1) 3 1 s8 (root :: dirsL n f root k).length ((root :: dirsL n f root k).flatMap icell) ∧ Chg (w.alloc (.cells #[.int .i64 pages] 3)) wr (fun _ => False))
  case atStart =>
    refine ⟨0, rfl, rfl, ⟨rfl, .inr ⟨w.heap.size + 1, 1, #[.int .i64 root], rfl, Nat.le_refl _, (by have := Box.new (w.alloc (.cells #[.int .i64 pages] 3)) 3 #[.int .i64 root]; rw [World.size_alloc] at this; exact this), Nat.le_refl _, by decide, rfl, rfl⟩⟩, ?_⟩
    · exact (Chg.refl _ _).alloc _
  case round =>
    obtain ⟨k, hk, rfl, hrow, Ck⟩ := hrel
    have HK := Lib.hid hk
    have Mk := M1.chg Ck (fun h => h) (fun h => h)
    have bPk := bP.chg Ck (fun h => h)
    by_cases hlt : k < 1024
    · have hk0 : (0 : Int) ≤ (k : Int) := by omega
      have hk1 : (k : Int) < 1024 := by omega
      clear hk
      have HL := load_any Mk (root * 4096 + 4 * k) 4
      have hrg := ldV_rng M.rng (root * 4096 + 4 * (k : Int)) 4
      have HS : Hid (dirsL n f root (k + 1) = dirsL n f root k ++ (if (okB n (root * 4096 + 4 * (k : Int)) 4 && dirB (ldV n f (root * 4096 + 4 * (k : Int)) 4)) = true then [ldV n f (root * 4096 + 4 * (k : Int)) 4 / 4096] else [])) := rfl
      obtain ⟨v, hv⟩ : ∃ v, ldV n f (root * 4096 + 4 * (k : Int)) 4 = v := ⟨_, rfl⟩
      obtain ⟨ok, hok⟩ : ∃ ok, okB n (root * 4096 + 4 * (k : Int)) 4 = ok := ⟨_, rfl⟩
      rw [hv] at HL hrg HS
      rw [hok] at HL HS
      obtain ⟨hv0, hv1⟩ := hrg
      clear hv hok
      have hdl := dirsL_le n f root k
      have HOF := fun wx => of_any v wx
      have hvm : v % 4294967296 = v := by omega
      cases ok
      · have HS2 : Hid (dirsL n f root (k + 1) = dirsL n f root k) := by show _ = _; rw [HS.out]; exact List.append_nil _
        go_wp2_with fail
        refine HL.mono ?_
        rintro e w' ⟨rfl, rfl⟩
        clear HL
        go_wp2_with fail
        go_roundg (gk - 1)
        case measure => have := HK.out; omega
        case rel => exact ⟨k + 1, by have := HK.out; omega, by go_num, by rw [HS2.out]; exact hrow, Ck⟩
      by_cases v1 : v % 2 = 1
      · have b1 : (bits .and .i64 v 1 != 0) = true := by rw [bit0, bne_iff_ne]; omega
        by_cases v2 : v / 2 % 16 = 0
        · have b2 : (bits .and .i64 v 30 == 0) = true := by rw [bit14, beq_iff_eq]; omega
          have HS2 : Hid (dirsL n f root (k + 1) = dirsL n f root k ++ [v / 4096]) := by
            show _ = _
            rw [HS.out, if_pos (by simp [dirB, v1, v2])]
          have hN := ((Box.new wr 3 #[.int .i64 (v / 4096)]).src 1 1 1 [.int .i64 (v / 4096)] rfl rfl).get _ rfl
          have hsz := Ck.size
          rw [World.size_alloc] at hsz
          have hl1 : (root :: dirsL n f root k).length ≤ 1025 := by simp; omega
          clear v1 v2
          go_wp2_with fail
          refine HL.mono ?_
          rintro e w' ⟨rfl, rfl⟩
          clear HL
          go_wp2_with (first
            | (go_at_call 31; refine (HOF _).mono ?_; rintro e w' ⟨rfl, rfl⟩; rw [hvm])
            | (at_builtin; go_loud (refine wpList_append_own _ rfl _ _ 36 rfl (w.heap.size + 1) 3 i0 _ 1 8 Try.underlying36 hi hz0 hz1 hz2 rfl (by decide) _ _ _ rfl (own_alloc hrow _) ⟨wr.heap.size, 0, none⟩ 1 1 [.int .i64 (v / 4096)] rfl rfl hN (by simp [Value.oneCell']) (by unfold maxLen; omega) (by omega) (by simp; omega) ?_); go_loud (intro v' w1 hown' hgrow _)))
          go_roundg (gk - 1)
          case measure => have := HK.out; omega
          case rel =>
            refine ⟨k + 1, by have := HK.out; omega, by go_num, ?_, ?_⟩
            · have e1 : (root :: (dirsL n f root k ++ [v / 4096])).length = (root :: dirsL n f root k).length + 1 := by simp
              have e2 : (root :: (dirsL n f root k ++ [v / 4096])).flatMap icell = (root :: dirsL n f root k).flatMap icell ++ [.int .i64 (v / 4096)] := by
                rw [← List.cons_append, List.flatMap_append]
                rfl
              rw [HS2.out, e1, e2]
              exact hown'
            · exact (Ck.alloc _).grown hgrow (fun j hj hlt2 => by
                have := hrow.lt j hj
                rw [World.size_alloc] at hlt2
                omega)
        · have b2 : (bits .and .i64 v 30 == 0) = false := by rw [bit14]; exact beq_eq_false_iff_ne.2 (by omega)
          have HS2 : Hid (dirsL n f root (k + 1) = dirsL n f root k) := by
            show _ = _
            rw [HS.out, if_neg (by simp [dirB, v1, v2])]
            exact List.append_nil _
          clear v1 v2
          go_wp2_with fail
          refine HL.mono ?_
          rintro e w' ⟨rfl, rfl⟩
          clear HL
          go_wp2_with fail
          go_roundg (gk - 1)
          case measure => have := HK.out; omega
          case rel => exact ⟨k + 1, by have := HK.out; omega, by go_num, by rw [HS2.out]; exact hrow, Ck⟩
      · have b1 : (bits .and .i64 v 1 != 0) = false := by rw [bit0, bne_eq_false_iff_eq]; omega
        have HS2 : Hid (dirsL n f root (k + 1) = dirsL n f root k) := by
          show _ = _
          rw [HS.out, if_neg (by simp [dirB, v1])]
          exact List.append_nil _
        clear v1
        go_wp2_with fail
        refine HL.mono ?_
        rintro e w' ⟨rfl, rfl⟩
        clear HL
        go_wp2_with fail
        go_roundg (gk - 1)
        case measure => have := HK.out; omega
        case rel => exact ⟨k + 1, by have := HK.out; omega, by go_num, by rw [HS2.out]; exact hrow, Ck⟩
    · obtain rfl : k = 1024 := by omega
      obtain ⟨zs, hzs⟩ : ∃ zs, root :: dirsL n f root 1024 = zs := ⟨_, rfl⟩
      have hzl : zs.length ≤ 1025 := by rw [← hzs]; have := dirsL_le n f root 1024; simp; omega
      have hz0' : 0 < zs.length := by rw [← hzs]; simp
      rw [hzs] at HT hrow
      obtain ⟨g, cap, rfl, hg0, hg1, hcap, hmx⟩ := own_block hrow hz0'
      have hH := own_holds hrow rfl
      obtain ⟨zs1, hzs1⟩ : ∃ zs1, zs.mergeSort (fun x y => decide (x ≤ y)) = zs1 := ⟨_, rfl⟩
      have hl1 : zs1.length = zs.length := by rw [← hzs1, List.length_mergeSort]
      obtain ⟨zs2, hzs2⟩ : ∃ zs2, Lib.compact zs1 = zs2 := ⟨_, rfl⟩
      have hl2 : zs2.length ≤ zs1.length := by rw [← hzs2]; exact Lib.compact_length_le zs1
      rw [hzs1, hzs2] at HT
      have hl3 : (zs2.filter fun x => !decide (pages ≤ x)).length ≤ zs2.length := List.length_filter_le _ _
      have hS := sort_any g cap zs wr hH hg1 (by omega)
      rw [hzs1] at hS
      have hB1 := (Box.lt bPk)
      have hgB : w.heap.size ≠ g := by omega
      have hszr := Ck.size
      rw [World.size_alloc] at hszr
      have hmx' : cap ≤ maxLen := hmx
      unfold maxLen at hmx
      have HC := fun wx (h : Holds (Value.int .i64) wx g 0 zs1.toArray) => compact_any g cap zs1 wx h (by omega) (by omega)
      rw [hzs2, hl1] at HC
      have HD := fun wx (h : Holds (Value.int .i64) wx g 0 zs2.toArray) (hb : Box wx w.heap.size 3 #[.int .i64 pages]) => delete_any pages w.heap.size g cap zs2 wx hb.lt hgB (hb.cell 0) h (by omega) (by omega)
      have hR := Lib.hid HT.out.symm
      have hcT : Hid (T.length ≤ cap) := by show _ ≤ _; rw [HT.out]; omega
      rw [HT.out.symm] at HD
      clear HT hzs hzs1 hzs2 hl3
      have HCk := Lib.hid Ck
      clear Ck hk hH hrow
      go_wp2_with fail
      refine hS.mono ?_
      rintro e w1 ⟨rfl, H1, K1⟩
      have bP1 := bPk.chg K1 hgB
      clear hS bPk
      go_wp2_with fail
      refine (HC _ H1).mono ?_
      rintro e w2 ⟨rfl, H2, K2⟩
      have bP2 := bP1.chg K2 hgB
      clear HC H1 bP1
      go_wp2_with fail
      refine (HD _ H2 bP2).mono ?_
      rintro e w3 ⟨rfl, H3, K3⟩
      clear HD H2 bP2
      go_wp2_with fail
      go_ret
      have s1 := K1.size
      have s2 := K2.size
      have s3 := K3.size
      exact ⟨some ⟨g, 0, none⟩, cap, rfl, holds_lst H3 hcT.out hmx', fun ad e _ => by (injection e with e; subst e; show g < _; omega), (((C1.trans HCk.out).trans' K1 (fun i hi e => by omega)).trans' K2 (fun i hi e => by omega)).trans' K3 (fun i hi e => by omega)⟩

set_option maxHeartbeats 1000000 in
theorem tables_any {a b n : Nat} {f : Nat → Int} {w : World} (M : Mem 74 w a b n f) (ptbr pages : Int) :
    Calls Try.prog 17 #[.iface 24 (.pointer (some ⟨a, 0, none⟩)), .int .i64 ptbr, .int .i64 pages] w fun e w' => ∃ ao cap, e = .returned (.slice ao (tabL n f ptbr pages).length cap) ∧ Lst w' ao (tabL n f ptbr pages).length cap ((tabL n f ptbr pages).flatMap icell) 1 ∧ (∀ ad, ao = some ad → 0 < (tabL n f ptbr pages).length → ad.block < w'.heap.size) ∧ Chg w w' (fun _ => False) := by
  cases hon : onB ptbr
  · have HT : tabL n f ptbr pages = [] := by unfold tabL; rw [hon]; rfl
    rw [HT]
    have e0 : (bits .and .i64 ptbr 2147483648 == 0) = true := by rw [bit31, beq_iff_eq]; have := of_decide_eq_false hon; omega
    clear hon HT
    go_enter Try.func17, Try.ntmps17
    go_wp2
    go_ret
    exact ⟨none, 0, rfl, Lst.none _ 1, fun ad h => (by cases h), (Chg.refl _ _).alloc _⟩
  · exact tables_on M ptbr pages hon
end Go.Proofs.Ytadcmelbcahecaa

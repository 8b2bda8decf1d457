/- ports: Write, walked. -/
import Derived.Test.YtiedfglkjkaefaaPo5
import Derived.Handy
namespace Go.Proofs.Ytiedfglkjkaefaa
open Go.RowKit

theorem wr_none {l : List ChanD} {Q : Que} {part port : Int} {xs : List Int} (h : fromV l part port = -1) : wrC l Q part port xs.length = 4294967295 ∧ wrQ l Q part port xs = Q := by
  have h1 : wrC l Q part port xs.length = 4294967295 := by
    unfold wrC
    unfold fromV at h
    split at h
    · rename_i hh; rw [if_pos (.inr hh.2)]
    · rw [if_pos (.inl (by omega))]
  exact ⟨h1, by unfold wrQ; rw [h1]; rfl⟩
/-- What a write to a channel of one's own answers. -/
theorem wr_at {l : List ChanD} {Q : Que} {part port : Int} {i : Nat} {xs : List Int} (hp : portV l part port = i) (hi : i < l.length) (hs : l[i].src = part) :
    (xs.length = 0 ∨ l[i].size < (xs.length : Int) → wrC l Q part port xs.length = 4294967294 ∧ wrQ l Q part port xs = Q) ∧
    (¬ (xs.length = 0 ∨ l[i].size < (xs.length : Int)) → (l[i].kind = 0 → wrC l Q part port xs.length = 0 ∧ wrQ l Q part port xs = qSet Q i [xs]) ∧
      (l[i].kind = 1 → (l[i].depth ≤ ((Q i).length : Int) → wrC l Q part port xs.length = 4294967293 ∧ wrQ l Q part port xs = Q) ∧ (((Q i).length : Int) < l[i].depth → wrC l Q part port xs.length = 0 ∧ wrQ l Q part port xs = qSet Q i (Q i ++ [xs])))) := by
  have h0 : ¬ ((i : Int) < 0 ∨ l[i].src ≠ part) := by
    rintro (h | h)
    · omega
    · exact h hs
  have e : wrC l Q part port xs.length = if xs.length = 0 ∨ l[i].size < (xs.length : Int) then 4294967294 else if l[i].kind = 0 then 0 else if l[i].depth ≤ ((Q i).length : Int) then 4294967293 else 0 := by
    unfold wrC
    simp only [hp, Int.toNat_natCast, chD_at hi, if_neg h0]
  have f : wrQ l Q part port xs = if wrC l Q part port xs.length = 0 then qSet Q i (if l[i].kind = 0 then [xs] else Q i ++ [xs]) else Q := by
    unfold wrQ
    simp only [hp, Int.toNat_natCast, chD_at hi]
  refine ⟨fun h => ?_, fun h => ⟨fun hk => ?_, fun hk => ⟨fun hd => ?_, fun hd => ?_⟩⟩⟩
  · rw [if_pos h] at e
    rw [e] at f ⊢
    exact ⟨rfl, f⟩
  · rw [if_neg h, if_pos hk] at e
    rw [e, if_pos rfl, if_pos hk] at f
    exact ⟨e, f⟩
  · rw [if_neg h, if_neg (by rw [hk]; decide), if_pos hd] at e
    rw [e] at f ⊢
    exact ⟨rfl, f⟩
  · have hk0 : ¬ l[i].kind = 0 := by rw [hk]; decide
    rw [if_neg h, if_neg hk0, if_neg (by omega)] at e
    rw [e, if_pos rfl, if_neg hk0] at f
    exact ⟨e, f⟩


set_option maxRecDepth 100000 in
set_option maxHeartbeats 4000000 in
theorem write_any {w : World} {F : Nat → Prop} {D : NetD} {Q : Que} {vs : Nat → Value} (N : NetAt w F D Q vs) (part port : Int) (h1 : -9223372036854775808 ≤ port) (h2 : port ≤ 9223372036854775807) {ao : Option Addr} {c : Nat} {xs : List Int} (m : Nat) (hl : xs.length = m) (hS : Src w ao m c (u8s xs) 1) (hb : byteL xs) (hm : m ≤ 9223372036854775807) :
    Calls Try.prog 13 #[.pointer (some ⟨D.n, 0, none⟩), .int .i64 part, .int .i64 port, .slice ao m c] w fun e w' => e = .returned (.int .i64 (wrC D.l Q part port xs.length)) ∧ NetTo w w' F D (wrQ D.l Q part port xs) := by
  have HF := from_any N part port h1 h2
  by_cases hno : fromV D.l part port = -1
  · obtain ⟨e1, e2⟩ := wr_none (Q := Q) (xs := xs) hno
    rw [e1, e2]
    rw [hno] at HF
    have HN := Lib.hid N
    clear hno e1 e2 h1 h2 N hS hb
    go_enter Try.func13, Try.ntmps13
    go_wp2_with fail
    refine HF.mono ?_
    rintro e w1 ⟨rfl, C1⟩
    clear HF
    go_wp2_with fail
    go_ret
    exact ⟨rfl, NetTo.same HN.out C1⟩
  obtain ⟨i, hp, hi, hs⟩ : ∃ i : Nat, portV D.l part port = i ∧ ∃ h : i < D.l.length, D.l[i].src = part := by
    rcases portV_rng D.l part port with hp | ⟨i, hp, hi⟩
    · exact absurd (by unfold fromV; rw [hp]; rfl) hno
    · refine ⟨i, hp, hi, ?_⟩
      by_cases hs : D.l[i].src = part
      · exact hs
      · exact absurd (by unfold fromV; rw [hp, Int.toNat_natCast, chD_at hi, if_pos ⟨by omega, hs⟩]) hno
  have hfv : fromV D.l part port = i := by unfold fromV; rw [hp, Int.toNat_natCast, chD_at hi, if_neg (fun h => h.2 hs)]
  rw [hfv] at HF
  have hmax := N.max
  have hsz := (N.ch i hi).ok.size
  have hknd := (N.ch i hi).ok.kind
  obtain ⟨WB, WG⟩ := wr_at (Q := Q) (xs := xs) hp hi hs
  have HWB := Lib.hid WB
  have HWG := Lib.hid WG
  have HN := Lib.hid N
  have HS := Lib.hid hS
  have HB := Lib.hid hb
  have HLX := Lib.hid hl
  obtain ⟨sz, hsz'⟩ : ∃ x, D.l[i].size = x := ⟨_, rfl⟩
  have HSZ := Lib.hid hsz'
  have HBAD : Hid (m = 0 ∨ sz < (m : Int) → wrC D.l Q part port xs.length = 4294967294 ∧ wrQ D.l Q part port xs = Q) := fun h => HWB.out (by rw [HLX.out, HSZ.out]; exact h)
  rw [hsz'] at hsz
  clear hno h1 h2 N hS hb hp hfv hs WB WG hsz' hl
  go_enter Try.func13, Try.ntmps13
  go_wp2_with fail
  refine HF.mono ?_
  rintro e w1 ⟨rfl, C1⟩
  clear HF
  have N1 := HN.out.chg C1 (fun _ _ h => h)
  have HN1 := Lib.hid N1
  obtain ⟨gc, gh, -, -, q4, q6, -, -, -, d3, -, dh⟩ := N1.chan i hi
  rw [HSZ.out] at d3
  have hC1 := Lib.hid C1
  have hi2 := hi
  obtain ⟨L, hL⟩ : ∃ L, D.l.length = L := ⟨_, rfl⟩
  have HLE := Lib.hid hL
  rw [hL] at q4 q6 hi2 hmax
  clear N1 C1 hL
  by_cases hbad : m = 0 ∨ sz < (m : Int)
  · have HE := Lib.hid (HBAD.out hbad)
    by_cases h : m = 0
    · subst h
      go_wp2_with fail
      go_ret
      exact ⟨ret_int HE.out.1.symm, by rw [HE.out.2]; exact NetTo.same HN.out hC1.out⟩
    · have hmb : ((m : Int) == 0) = false := by simp [h]
      have hsb : decide (sz < (m : Int)) = true := decide_eq_true (hbad.resolve_left h)
      clear hbad
      go_wp2_with fail
      go_ret
      exact ⟨ret_int HE.out.1.symm, by rw [HE.out.2]; exact NetTo.same HN.out hC1.out⟩
  have hm0 : ¬ m = 0 := fun h => hbad (.inl h)
  have hm1 : ¬ sz < (m : Int) := fun h => hbad (.inr h)
  have hmb : ((m : Int) == 0) = false := by simp [hm0]
  have hsb : decide (sz < (m : Int)) = false := decide_eq_false hm1
  have HM1 := Lib.hid hm1
  have HG := Lib.hid (HWG.out (by rw [HLX.out, HSZ.out]; exact hbad))
  clear hbad hm1
  go_upto_region 6 with fail
  clear q4 d3 hmb hsb
  have hm1 := HM1.out
  obtain ⟨ad, rfl⟩ : ∃ ad, ao = some ad := by
    cases ao with
    | none => have := (HS.out.nil rfl).1; omega
    | some ad => exact ⟨ad, rfl⟩
  rcases hknd with hk | hk
  · rw [tyC_S hk] at dh
    have HKD := Lib.hid hk
    clear hk
    refine wp_region_noPanic ?_
    refine wp_region_L 11 (fun w' => w'.cell? ⟨D.n, 6, none⟩ = some (.slice (some ⟨gh, 0, none⟩) L D.hc) ∧ w'.cell? ⟨gh, i, none⟩ = some (.iface 77 (.pointer (some ⟨D.bs i, 0, none⟩)))) (by kernel_rfl) (⟨q6, dh⟩) (fun hHeld => ?_)
    refine wpAnyL_take (i := 0) (oi := ?ois0) (v := ?vs0) ?his0 (by kernel_rfl) (by kernel_rfl) (by kernel_rfl) (by kernel_rfl) (fun _ _ _ h => h) (Or.inl ⟨?hws0, ?hys0⟩) (by assumption) ?hrs0
    case his0 => simp only [List.getElem?_toArray, List.getElem?_cons_succ, List.getElem?_cons_zero]; rfl
    case hws0 => rfl
    case hys0 => intro wq hSq; (try dsimp only at hSq); go_simp; (try with_reducible rfl)
    try simp only [Act.put, List.setIfInBounds_toArray, List.set_cons_zero, List.set_cons_succ]
    refine wpAnyL_take (i := 1) (oi := ?ois1) (v := ?vs1) ?his1 (by kernel_rfl) (by kernel_rfl) (by kernel_rfl) (by kernel_rfl) (fun _ _ _ h => h) (Or.inl ⟨?hws1, ?hys1⟩) (by assumption) ?hrs1
    case his1 => simp only [List.getElem?_toArray, List.getElem?_cons_succ, List.getElem?_cons_zero]; rfl
    case hws1 => rfl
    case hys1 => intro wq hSq; (try dsimp only at hSq); go_simp; (try with_reducible rfl)
    try simp only [Act.put, List.setIfInBounds_toArray, List.set_cons_zero, List.set_cons_succ]
    refine wpAnyL_take (i := 2) (oi := ?ois2) (v := ?vs2) ?his2 (by kernel_rfl) (by kernel_rfl) (by kernel_rfl) (by kernel_rfl) (fun _ _ _ h => h) (Or.inl ⟨?hws2, ?hys2⟩) (by assumption) ?hrs2
    case his2 => simp only [List.getElem?_toArray, List.getElem?_cons_succ, List.getElem?_cons_zero]; rfl
    case hws2 => rfl
    case hys2 => intro wq hSq; (try dsimp only at hSq); go_simp; (try with_reducible rfl)
    try simp only [Act.put, List.setIfInBounds_toArray, List.set_cons_zero, List.set_cons_succ]
    refine wpAnyL_take (i := 3) (oi := ?ois3) (v := ?vs3) ?his3 (by kernel_rfl) (by kernel_rfl) (by kernel_rfl) (by kernel_rfl) (fun _ _ _ h => h) (Or.inl ⟨?hws3, ?hys3⟩) (by assumption) ?hrs3
    case his3 => simp only [List.getElem?_toArray, List.getElem?_cons_succ, List.getElem?_cons_zero]; rfl
    case hws3 => rfl
    case hys3 => intro wq hSq; (try dsimp only at hSq); go_simp; (try with_reducible rfl)
    try simp only [Act.put, List.setIfInBounds_toArray, List.set_cons_zero, List.set_cons_succ]
    refine wpAnyL_take (i := 4) (oi := ?ois4) (v := ?vs4) ?his4 (by kernel_rfl) (by kernel_rfl) (by kernel_rfl) (by kernel_rfl) (fun _ _ _ h => h) (Or.inl ⟨?hws4, ?hys4⟩) (by assumption) ?hrs4
    case his4 => simp only [List.getElem?_toArray, List.getElem?_cons_succ, List.getElem?_cons_zero]; rfl
    case hws4 => rfl
    case hys4 => intro wq hSq; (try dsimp only at hSq); go_simp; (try with_reducible rfl)
    try simp only [Act.put, List.setIfInBounds_toArray, List.set_cons_zero, List.set_cons_succ]
    refine wpAnyL_take (i := 5) (oi := ?ois5) (v := ?vs5) ?his5 (by kernel_rfl) (by kernel_rfl) (by kernel_rfl) (by kernel_rfl) (fun _ _ _ h => h) (Or.inl ⟨?hws5, ?hys5⟩) (by assumption) ?hrs5
    case his5 => simp only [List.getElem?_toArray, List.getElem?_cons_succ, List.getElem?_cons_zero]; rfl
    case hws5 => rfl
    case hys5 => intro wq hSq; (try dsimp only at hSq); go_simp; (try with_reducible rfl)
    try simp only [Act.put, List.setIfInBounds_toArray, List.set_cons_zero, List.set_cons_succ]
    refine wpAnyL_take (i := 6) (oi := ?ois6) (v := ?vs6) ?his6 (by kernel_rfl) (by kernel_rfl) (by kernel_rfl) (by kernel_rfl) (fun _ _ _ h => h) (Or.inl ⟨?hws6, ?hys6⟩) (by assumption) ?hrs6
    case his6 => simp only [List.getElem?_toArray, List.getElem?_cons_succ, List.getElem?_cons_zero]; rfl
    case hws6 => rfl
    case hys6 => intro wq hSq; (try dsimp only at hSq); go_simp; (try with_reducible rfl)
    try simp only [Act.put, List.setIfInBounds_toArray, List.set_cons_zero, List.set_cons_succ]
    refine wpAnyL_take (i := 7) (oi := ?ois7) (v := ?vs7) ?his7 (by kernel_rfl) (by kernel_rfl) (by kernel_rfl) (by kernel_rfl) (fun _ _ _ h => h) (Or.inl ⟨?hws7, ?hys7⟩) (by assumption) ?hrs7
    case his7 => simp only [List.getElem?_toArray, List.getElem?_cons_succ, List.getElem?_cons_zero]; rfl
    case hws7 => rfl
    case hys7 => intro wq hSq; (try dsimp only at hSq); go_simp; (try with_reducible rfl)
    try simp only [Act.put, List.setIfInBounds_toArray, List.set_cons_zero, List.set_cons_succ]
    refine wpAnyL_take (i := 9) (oi := ?ois9) (v := ?vs9) ?his9 (by kernel_rfl) (by kernel_rfl) (by kernel_rfl) (by kernel_rfl) (fun _ _ _ h => h) (Or.inl ⟨?hws9, ?hys9⟩) (by assumption) ?hrs9
    case his9 => simp only [List.getElem?_toArray, List.getElem?_cons_succ, List.getElem?_cons_zero]; rfl
    case hws9 => rfl
    case hys9 => intro wq hSq; (try dsimp only at hSq); go_simp; (try with_reducible rfl)
    try simp only [Act.put, List.setIfInBounds_toArray, List.set_cons_zero, List.set_cons_succ]
    refine wpAnyL_take (i := 10) (oi := ?ois10) (v := ?vs10) ?his10 (by kernel_rfl) (by kernel_rfl) (by kernel_rfl) (by kernel_rfl) (fun _ _ _ h => h) (Or.inl ⟨?hws10, ?hys10⟩) (by assumption) ?hrs10
    case his10 => simp only [List.getElem?_toArray, List.getElem?_cons_succ, List.getElem?_cons_zero]; rfl
    case hws10 => rfl
    case hys10 => intro wq hSq; (try dsimp only at hSq); go_simp; (try with_reducible rfl)
    try simp only [Act.put, List.setIfInBounds_toArray, List.set_cons_zero, List.set_cons_succ]
    refine wpAnyL_ready (rs := [8]) (by kernel_rfl) (by simp) ?_
    refine AllReadyL.cons rfl (fun K hK => ?_) AllReadyL.nil
    go_simp
    refine (clone_any (HS.out.chg ((hC1.out).drew) (fun _ _ h => h)) (by omega)).mono ?_
    rintro e w4 ⟨a4, c4, rfl, O4, C4⟩
    replace C4 := C4.drewL
    refine hK.out _ _ (.inl (⟨C4.cell q6 (fun h => h), C4.cell dh (fun h => h)⟩)) (fun hHeld => ?_)
    replace hHeld := SOr.stands hHeld (by kernel_rfl)
    clear hK K
    try simp only [Act.put, List.setIfInBounds_toArray, List.set_cons_zero, List.set_cons_succ]
    refine wpAnyL_tail (l := [12, 13]) (by kernel_rfl) (by kernel_rfl) ?_
    simp only [tailOps, List.filterMap_cons, List.filterMap_nil, List.getElem?_toArray, List.getElem?_cons_succ, List.getElem?_cons_zero]
    clear hHeld
    obtain ⟨BS, -⟩ := ((HN1.out.chg C4 (fun _ _ h => h)).ch i hi).boxS HKD.out
    obtain ⟨G1, -⟩ := HG.out
    have HE := Lib.hid (G1 HKD.out)
    have HO4 := Lib.hid O4
    have HC4 := Lib.hid C4
    clear O4 C4 G1 dh q6
    go_wp2_with fail
    refine (putS_any BS).mono ?_
    rintro e w5 ⟨rfl, h5⟩
    have h5' := Lib.hid h5
    clear h5 BS
    go_wp2_with fail
    refine NoPanic.normal ?_
    go_wp2_with fail
    go_ret
    have hlx := HLX.out
    subst hlx
    have R5 := HN1.out.putS (w5 := w5) hi HKD.out HC4.out HO4.out HB.out (by omega) (by rw [HSZ.out]; omega) h5'.out
    rw [HE.out.1, HE.out.2]
    exact ⟨rfl, ⟨R5.net.imp fun _ h => h.imp fun _ h => ⟨h.1, fun k hk => (h.2 k hk).imp_right (Nat.le_trans hC1.out.size)⟩, (hC1.out.mono (fun _ _ h => h.elim)).trans R5.chg⟩⟩
  · rw [tyC_Q hk] at dh
    have HKD := Lib.hid hk
    clear hk
    refine wp_region_noPanic ?_
    refine wp_region_L 11 (fun w' => w'.cell? ⟨D.n, 6, none⟩ = some (.slice (some ⟨gh, 0, none⟩) L D.hc) ∧ w'.cell? ⟨gh, i, none⟩ = some (.iface 80 (.pointer (some ⟨D.bs i, 0, none⟩)))) (by kernel_rfl) (⟨q6, dh⟩) (fun hHeld => ?_)
    refine wpAnyL_take (i := 0) (oi := ?oiq0) (v := ?vq0) ?hiq0 (by kernel_rfl) (by kernel_rfl) (by kernel_rfl) (by kernel_rfl) (fun _ _ _ h => h) (Or.inl ⟨?hwq0, ?hyq0⟩) (by assumption) ?hrq0
    case hiq0 => simp only [List.getElem?_toArray, List.getElem?_cons_succ, List.getElem?_cons_zero]; rfl
    case hwq0 => rfl
    case hyq0 => intro wq hSq; (try dsimp only at hSq); go_simp; (try with_reducible rfl)
    try simp only [Act.put, List.setIfInBounds_toArray, List.set_cons_zero, List.set_cons_succ]
    refine wpAnyL_take (i := 1) (oi := ?oiq1) (v := ?vq1) ?hiq1 (by kernel_rfl) (by kernel_rfl) (by kernel_rfl) (by kernel_rfl) (fun _ _ _ h => h) (Or.inl ⟨?hwq1, ?hyq1⟩) (by assumption) ?hrq1
    case hiq1 => simp only [List.getElem?_toArray, List.getElem?_cons_succ, List.getElem?_cons_zero]; rfl
    case hwq1 => rfl
    case hyq1 => intro wq hSq; (try dsimp only at hSq); go_simp; (try with_reducible rfl)
    try simp only [Act.put, List.setIfInBounds_toArray, List.set_cons_zero, List.set_cons_succ]
    refine wpAnyL_take (i := 2) (oi := ?oiq2) (v := ?vq2) ?hiq2 (by kernel_rfl) (by kernel_rfl) (by kernel_rfl) (by kernel_rfl) (fun _ _ _ h => h) (Or.inl ⟨?hwq2, ?hyq2⟩) (by assumption) ?hrq2
    case hiq2 => simp only [List.getElem?_toArray, List.getElem?_cons_succ, List.getElem?_cons_zero]; rfl
    case hwq2 => rfl
    case hyq2 => intro wq hSq; (try dsimp only at hSq); go_simp; (try with_reducible rfl)
    try simp only [Act.put, List.setIfInBounds_toArray, List.set_cons_zero, List.set_cons_succ]
    refine wpAnyL_take (i := 3) (oi := ?oiq3) (v := ?vq3) ?hiq3 (by kernel_rfl) (by kernel_rfl) (by kernel_rfl) (by kernel_rfl) (fun _ _ _ h => h) (Or.inl ⟨?hwq3, ?hyq3⟩) (by assumption) ?hrq3
    case hiq3 => simp only [List.getElem?_toArray, List.getElem?_cons_succ, List.getElem?_cons_zero]; rfl
    case hwq3 => rfl
    case hyq3 => intro wq hSq; (try dsimp only at hSq); go_simp; (try with_reducible rfl)
    try simp only [Act.put, List.setIfInBounds_toArray, List.set_cons_zero, List.set_cons_succ]
    refine wpAnyL_take (i := 4) (oi := ?oiq4) (v := ?vq4) ?hiq4 (by kernel_rfl) (by kernel_rfl) (by kernel_rfl) (by kernel_rfl) (fun _ _ _ h => h) (Or.inl ⟨?hwq4, ?hyq4⟩) (by assumption) ?hrq4
    case hiq4 => simp only [List.getElem?_toArray, List.getElem?_cons_succ, List.getElem?_cons_zero]; rfl
    case hwq4 => rfl
    case hyq4 => intro wq hSq; (try dsimp only at hSq); go_simp; (try with_reducible rfl)
    try simp only [Act.put, List.setIfInBounds_toArray, List.set_cons_zero, List.set_cons_succ]
    refine wpAnyL_take (i := 5) (oi := ?oiq5) (v := ?vq5) ?hiq5 (by kernel_rfl) (by kernel_rfl) (by kernel_rfl) (by kernel_rfl) (fun _ _ _ h => h) (Or.inl ⟨?hwq5, ?hyq5⟩) (by assumption) ?hrq5
    case hiq5 => simp only [List.getElem?_toArray, List.getElem?_cons_succ, List.getElem?_cons_zero]; rfl
    case hwq5 => rfl
    case hyq5 => intro wq hSq; (try dsimp only at hSq); go_simp; (try with_reducible rfl)
    try simp only [Act.put, List.setIfInBounds_toArray, List.set_cons_zero, List.set_cons_succ]
    refine wpAnyL_take (i := 6) (oi := ?oiq6) (v := ?vq6) ?hiq6 (by kernel_rfl) (by kernel_rfl) (by kernel_rfl) (by kernel_rfl) (fun _ _ _ h => h) (Or.inl ⟨?hwq6, ?hyq6⟩) (by assumption) ?hrq6
    case hiq6 => simp only [List.getElem?_toArray, List.getElem?_cons_succ, List.getElem?_cons_zero]; rfl
    case hwq6 => rfl
    case hyq6 => intro wq hSq; (try dsimp only at hSq); go_simp; (try with_reducible rfl)
    try simp only [Act.put, List.setIfInBounds_toArray, List.set_cons_zero, List.set_cons_succ]
    refine wpAnyL_take (i := 7) (oi := ?oiq7) (v := ?vq7) ?hiq7 (by kernel_rfl) (by kernel_rfl) (by kernel_rfl) (by kernel_rfl) (fun _ _ _ h => h) (Or.inl ⟨?hwq7, ?hyq7⟩) (by assumption) ?hrq7
    case hiq7 => simp only [List.getElem?_toArray, List.getElem?_cons_succ, List.getElem?_cons_zero]; rfl
    case hwq7 => rfl
    case hyq7 => intro wq hSq; (try dsimp only at hSq); go_simp; (try with_reducible rfl)
    try simp only [Act.put, List.setIfInBounds_toArray, List.set_cons_zero, List.set_cons_succ]
    refine wpAnyL_take (i := 9) (oi := ?oiq9) (v := ?vq9) ?hiq9 (by kernel_rfl) (by kernel_rfl) (by kernel_rfl) (by kernel_rfl) (fun _ _ _ h => h) (Or.inl ⟨?hwq9, ?hyq9⟩) (by assumption) ?hrq9
    case hiq9 => simp only [List.getElem?_toArray, List.getElem?_cons_succ, List.getElem?_cons_zero]; rfl
    case hwq9 => rfl
    case hyq9 => intro wq hSq; (try dsimp only at hSq); go_simp; (try with_reducible rfl)
    try simp only [Act.put, List.setIfInBounds_toArray, List.set_cons_zero, List.set_cons_succ]
    refine wpAnyL_take (i := 10) (oi := ?oiq10) (v := ?vq10) ?hiq10 (by kernel_rfl) (by kernel_rfl) (by kernel_rfl) (by kernel_rfl) (fun _ _ _ h => h) (Or.inl ⟨?hwq10, ?hyq10⟩) (by assumption) ?hrq10
    case hiq10 => simp only [List.getElem?_toArray, List.getElem?_cons_succ, List.getElem?_cons_zero]; rfl
    case hwq10 => rfl
    case hyq10 => intro wq hSq; (try dsimp only at hSq); go_simp; (try with_reducible rfl)
    try simp only [Act.put, List.setIfInBounds_toArray, List.set_cons_zero, List.set_cons_succ]
    refine wpAnyL_ready (rs := [8]) (by kernel_rfl) (by simp) ?_
    refine AllReadyL.cons rfl (fun K hK => ?_) AllReadyL.nil
    go_simp
    refine (clone_any (HS.out.chg ((hC1.out).drew) (fun _ _ h => h)) (by omega)).mono ?_
    rintro e w4 ⟨a4, c4, rfl, O4, C4⟩
    replace C4 := C4.drewL
    refine hK.out _ _ (.inl (⟨C4.cell q6 (fun h => h), C4.cell dh (fun h => h)⟩)) (fun hHeld => ?_)
    replace hHeld := SOr.stands hHeld (by kernel_rfl)
    clear hK K
    try simp only [Act.put, List.setIfInBounds_toArray, List.set_cons_zero, List.set_cons_succ]
    refine wpAnyL_tail (l := [12, 13]) (by kernel_rfl) (by kernel_rfl) ?_
    simp only [tailOps, List.filterMap_cons, List.filterMap_nil, List.getElem?_toArray, List.getElem?_cons_succ, List.getElem?_cons_zero]
    clear hHeld
    have HN4 := Lib.hid (HN1.out.chg C4 (fun _ _ h => h))
    obtain ⟨BQ, -, ms, hq4, -⟩ := (HN4.out.ch i hi).boxQ HKD.out
    obtain ⟨-, -, ms1, hq1, hms1⟩ := (HN1.out.ch i hi).boxQ HKD.out
    have hd16 := (HN1.out.ch i hi).ok.depth
    have HPQ := putQ_any (ao := a4) (m := m) (c := c4) BQ (hq1.chg C4 (fun _ _ h => h)) (by omega)
    have HMS := Lib.hid hms1
    obtain ⟨-, G2⟩ := HG.out
    have HG2 := Lib.hid (G2 HKD.out)
    have HO4 := Lib.hid O4
    have HC4 := Lib.hid C4
    have HI := Lib.hid hd16
    clear O4 C4 G2 dh q6 hq4 hq1 hms1 BQ hd16
    go_wp2_with fail
    refine HPQ.mono ?_
    clear HPQ
    intro e w5 hp5
    have hlx := HLX.out
    subst hlx
    have R5 := HN1.out.putQ (w5 := w5) hi HKD.out HC4.out HO4.out HB.out (by omega) (by rw [HSZ.out]; omega) HMS.out hp5
    have HR5 := Lib.hid R5
    clear R5 hp5
    rcases HR5.out with ⟨hd, rfl, R6⟩ | ⟨hd, rfl, R6⟩
    · have HE := Lib.hid (HG2.out.1 hd)
      have HR6 := Lib.hid R6
      clear R6 hd HR5
      go_wp2_with fail
      refine NoPanic.normal ?_
      go_wp2_with fail
      go_ret
      rw [HE.out.1, HE.out.2]
      exact ⟨rfl, ⟨HR6.out.net.imp fun _ h => h.imp fun _ h => ⟨h.1, fun k hk => (h.2 k hk).imp_right (Nat.le_trans hC1.out.size)⟩, (hC1.out.mono (fun _ _ h => h.elim)).trans HR6.out.chg⟩⟩
    · have HE := Lib.hid (HG2.out.2 hd)
      have HR6 := Lib.hid R6
      clear R6 hd HR5
      go_wp2_with fail
      refine NoPanic.normal ?_
      go_wp2_with fail
      go_ret
      rw [HE.out.1, HE.out.2]
      exact ⟨rfl, ⟨HR6.out.net.imp fun _ h => h.imp fun _ h => ⟨h.1, fun k hk => (h.2 k hk).imp_right (Nat.le_trans hC1.out.size)⟩, (hC1.out.mono (fun _ _ h => h.elim)).trans HR6.out.chg⟩⟩
end Go.Proofs.Ytiedfglkjkaefaa

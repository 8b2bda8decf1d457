/- ports: Call (printed by gen_pof.py). -/
import Derived.Test.YtiedfglkjkaefaaPoE
import Derived.Test.YtiedfglkjkaefaaPhysPut
namespace Go.Proofs.Ytiedfglkjkaefaa
open Go.RowKit

/-- A Net and a memory; the blocks of P are others', the memory's two among them. -/
structure NM (w : World) (P : Nat → Prop) (n : Nat) (l : List ChanD) (Q : Que) (a b N : Nat) (f : Nat → Int) : Prop where
  net : NetP w P n l Q
  mem : Mem 92 w a b N f
  pa : P a
  pb : P b
def cwC (l : List ChanD) (Q : Que) (N : Nat) (part a0 a1 a2 : Int) : Int := if fromV l part a0 < 0 then 4294967295 else if 64 < a2 ∨ (getN N a1 a2 : Int) ≠ a2 then 4294967294 else wrC l Q part a0 (getN N a1 a2)
def cwQ (l : List ChanD) (Q : Que) (N : Nat) (f : Nat → Int) (part a0 a1 a2 : Int) : Que := if fromV l part a0 < 0 then Q else if 64 < a2 ∨ (getN N a1 a2 : Int) ≠ a2 then Q else wrQ l Q part a0 (sl f a1.toNat (getN N a1 a2))
def crOk (l : List ChanD) (Q : Que) (N : Nat) (part a0 a1 a2 : Int) : Bool := rdOk l Q part a0 a2 && okR N a1 ((rdB l Q part a0 a2).length : Int)
def crC (l : List ChanD) (Q : Que) (N : Nat) (part a0 a1 a2 : Int) : Int := if rdOk l Q part a0 a2 = false ∨ crOk l Q N part a0 a1 a2 = true then rdC l Q part a0 a2 else 4294967294
def crQ (l : List ChanD) (Q : Que) (N : Nat) (part a0 a1 a2 : Int) : Que := if crOk l Q N part a0 a1 a2 = true then rdQ l Q part a0 a2 else Q
def crF (l : List ChanD) (Q : Que) (N : Nat) (f : Nat → Int) (part a0 a1 a2 : Int) : Nat → Int := if crOk l Q N part a0 a1 a2 = true then ptN f a1.toNat (rdB l Q part a0 a2) else f
def NMTo (w w' : World) (P : Nat → Prop) (n : Nat) (l : List ChanD) (Q' : Que) (a b N : Nat) (f' : Nat → Int) (r : Int) (e : Ending) : Prop := e = .returned (.int .i64 r) ∧ NM w' P n l Q' a b N f' ∧ Chg w w' (fun k => k = b ∨ ¬ P k)

section
variable {w w' : World} {P : Nat → Prop} {n a b N : Nat} {l : List ChanD} {Q : Que} {f : Nat → Int}
theorem NM.keep (h : NM w P n l Q a b N f) (c : Chg w w' (fun _ => False)) : NM w' P n l Q a b N f := ⟨h.net.keep c, h.mem.chg c (fun h => h) (fun h => h), h.pa, h.pb⟩
theorem NM.net_to {Q' : Que} (h : NM w P n l Q a b N f) (c : Chg w w' (fun k => ¬ P k)) (h' : NetP w' P n l Q') : NM w' P n l Q' a b N f := ⟨h', h.mem.chg c (fun hn => hn h.pa) (fun hn => hn h.pb), h.pa, h.pb⟩
theorem NMTo.of {Q' : Que} {r : Int} (h : NM w P n l Q a b N f) (c : Chg w w' (fun k => ¬ P k)) (h' : NetP w' P n l Q') : NMTo w w' P n l Q' a b N f r (.returned (.int .i64 r)) := ⟨rfl, h.net_to c h', c.mono (fun _ _ h => .inr h)⟩
theorem NMTo.none {r : Int} (h : NM w P n l Q a b N f) (c : Chg w w' (fun _ => False)) : NMTo w w' P n l Q a b N f r (.returned (.int .i64 r)) := ⟨rfl, h.keep c, c.mono (fun _ _ h => h.elim)⟩
theorem from_p (h : NetP w P n l Q) (part port : Int) (h1 : -9223372036854775808 ≤ port) (h2 : port ≤ 9223372036854775807) {r : Int} (hr : fromV l part port = r) :
    Calls Try.prog 34 #[.pointer (some ⟨n, 0, none⟩), .int .i64 part, .int .i64 port] w fun e w' => e = .returned (.int .i64 r) ∧ Chg w w' (fun _ => False) := by
  obtain ⟨D, F, vs, rfl, rfl, N', h3⟩ := h
  subst hr
  exact from_any N' part port h1 h2
theorem fromV_rng (l : List ChanD) (part port : Int) : fromV l part port = -1 ∨ ∃ i : Nat, fromV l part port = i ∧ i < l.length := by
  unfold fromV
  split
  · exact .inl rfl
  · exact portV_rng l part port
theorem getN_le (N : Nat) (a1 a2 : Int) (h : a2 ≤ 64) : getN N a1 a2 ≤ 64 := by
  unfold getN
  split <;> omega
theorem sl_byte (h : Mem 92 w a b N f) (a1 a2 : Int) : byteL (sl f a1.toNat (getN N a1 a2)) := by
  intro x hx
  unfold sl at hx
  obtain ⟨i, hi, rfl⟩ := List.mem_map.1 hx
  have hi := List.mem_range.1 hi
  unfold getN at hi
  split at hi
  · rename_i hok
    obtain ⟨h1, h2, h3⟩ := okR_true hok
    exact h.rng _ (by omega)
  · omega

set_option maxRecDepth 100000 in
set_option maxHeartbeats 4000000 in
theorem write_c (h : NM w P n l Q a b N f) (part a0 a1 a2 : Int) (h0 : 0 ≤ a0 ∧ a0 ≤ 4294967295) (h1 : 0 ≤ a1 ∧ a1 ≤ 4294967295) (h2 : 0 ≤ a2 ∧ a2 ≤ 4294967295) :
    Calls Try.prog 39 #[.pointer (some ⟨n, 0, none⟩), .int .i64 part, .agg #[.int .i64 a0, .int .i64 a1, .int .i64 a2], .iface 47 (.pointer (some ⟨a, 0, none⟩))] w
      fun e w' => NMTo w w' P n l (cwQ l Q N f part a0 a1 a2) a b N f (cwC l Q N part a0 a1 a2) e := by
  have C0 : Chg w (w.alloc (.cells #[.int .i64 a0, .int .i64 a1, .int .i64 a2] 50)) (fun _ => False) := (Chg.refl w _).alloc _
  have B0 := Box.new w 50 #[.int .i64 a0, .int .i64 a1, .int .i64 a2]
  have HN0 := Lib.hid (h.keep C0)
  have HC0 := Lib.hid C0
  have HB0 := Lib.hid B0
  have HH := Lib.hid h
  clear C0 B0 h
  rcases fromV_rng l part a0 with hv | ⟨i, hv, hi⟩
  · have HF := from_p HN0.out.net part a0 (by omega) (by omega) hv
    have HR : Hid (cwC l Q N part a0 a1 a2 = 4294967295 ∧ cwQ l Q N f part a0 a1 a2 = Q) := by
      show _ ∧ _
      unfold cwC cwQ
      rw [hv]
      exact ⟨rfl, rfl⟩
    clear hv
    go_enter Try.func39, Try.ntmps39
    go_wp2_with fail
    refine HF.mono ?_
    rintro e w1 ⟨rfl, C1⟩
    clear HF
    go_wp2_with fail
    go_ret
    rw [HR.out.1, HR.out.2]
    exact NMTo.none HH.out (HC0.out.trans C1)
  · have HF := from_p HN0.out.net part a0 (by omega) (by omega) hv
    have hi16 := HH.out.net.ok.1
    have HR : Hid (cwC l Q N part a0 a1 a2 = (if 64 < a2 ∨ (getN N a1 a2 : Int) ≠ a2 then 4294967294 else wrC l Q part a0 (getN N a1 a2)) ∧ cwQ l Q N f part a0 a1 a2 = (if 64 < a2 ∨ (getN N a1 a2 : Int) ≠ a2 then Q else wrQ l Q part a0 (sl f a1.toNat (getN N a1 a2)))) := by
      show _ ∧ _
      unfold cwC cwQ
      have hni : ¬ ((i : Int) < 0) := by omega
      rw [hv, if_neg hni, if_neg hni]
      exact ⟨rfl, rfl⟩
    have hi0 : decide ((i : Int) < 0) = false := decide_eq_false (by omega)
    clear hv hi
    by_cases hlong : 64 < a2
    · have HR2 := Lib.hid (And.intro (HR.out.1.trans (if_pos (.inl hlong))) (HR.out.2.trans (if_pos (.inl hlong))))
      go_enter Try.func39, Try.ntmps39
      go_wp2_with fail
      refine HF.mono ?_
      rintro e w1 ⟨rfl, C1⟩
      clear HF
      have B1 := HB0.out.chg C1 (fun h => h)
      have x0 := B1.cell 0
      have x1 := B1.cell 1
      have x2 := B1.cell 2
      clear B1
      go_wp2_with fail
      go_ret
      rw [HR2.out.1, HR2.out.2]
      exact NMTo.none HH.out (HC0.out.trans C1)
    · have hl0 : decide (64 < a2) = false := decide_eq_false hlong
      have hg64 := getN_le N a1 a2 (by omega)
      obtain ⟨g, hg⟩ : ∃ g, getN N a1 a2 = g := ⟨_, rfl⟩
      have HGG := Lib.hid hg
      rw [hg] at HR hg64
      clear hg
      go_enter Try.func39, Try.ntmps39
      go_wp2_with fail
      refine HF.mono ?_
      rintro e w1 ⟨rfl, C1⟩
      clear HF
      have B1 := HB0.out.chg C1 (fun h => h)
      have x0 := B1.cell 0
      have x1 := B1.cell 1
      have x2 := B1.cell 2
      have HB1 := Lib.hid B1
      have HC1 := Lib.hid (HC0.out.trans C1)
      have HN1 := Lib.hid (HH.out.keep HC1.out)
      have HGT := get_any HN1.out.mem a1 a2
      rw [HGG.out] at HGT
      clear B1 C1
      go_wp2_with fail
      refine HGT.mono ?_
      clear HGT
      rintro e w2 ⟨ao, cap, ⟨rfl, O2, C2⟩⟩
      have B2 := HB1.out.chg C2 (fun h => h)
      have x0 := B2.cell 0
      have x2 := B2.cell 2
      have HC2 := Lib.hid (HC1.out.trans C2)
      have HN2 := Lib.hid (HN1.out.keep C2)
      have HO2 := Lib.hid O2
      clear B2 C2 O2 x1
      by_cases hne : (g : Int) = a2
      · have b1 : ((g : Int) != a2) = false := by simp [hne]
        have hxl : (sl f a1.toNat g).length = g := sl_length _ _ _
        have HR2 : Hid (cwC l Q N part a0 a1 a2 = wrC l Q part a0 (sl f a1.toNat g).length ∧ cwQ l Q N f part a0 a1 a2 = wrQ l Q part a0 (sl f a1.toNat g)) := by
          show _ ∧ _
          have hn : ¬ (64 < a2 ∨ (g : Int) ≠ a2) := by omega
          rw [hxl]
          exact ⟨HR.out.1.trans (if_neg hn), HR.out.2.trans (if_neg hn)⟩
        have HW := write_p HN2.out.net part a0 (by omega) (by omega) g hxl (own_src HO2.out) (by rw [← HGG.out]; exact sl_byte HN2.out.mem a1 a2) (by omega) rfl rfl
        clear hne hxl
        go_wp2_with fail
        refine HW.mono ?_
        rintro e w3 ⟨rfl, N3, C3⟩
        clear HW
        go_wp2_with fail
        go_ret
        rw [HR2.out.1, HR2.out.2]
        exact NMTo.of HH.out ((HC2.out.mono (fun _ _ h => h.elim)).trans C3) N3
      · have b1 : ((g : Int) != a2) = true := bne_iff_ne.2 hne
        have HR2 := Lib.hid (And.intro (HR.out.1.trans (if_pos (.inr hne))) (HR.out.2.trans (if_pos (.inr hne))))
        clear hne
        go_wp2_with fail
        go_ret
        rw [HR2.out.1, HR2.out.2]
        exact NMTo.none HH.out HC2.out
end
end Go.Proofs.Ytiedfglkjkaefaa

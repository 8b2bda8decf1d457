/- config's reader: take, number, count. -/
import Derived.Test.YtdhkbephofnfdaaImg1
import Derived.Test.YtdhkbephofnfdaaOwn2
import Derived.Test.YtdhkbephofnfdaaCfgAt
namespace Go.Proofs.Ytdhkbephofnfdaa
open Go.RowKit

def pNum (xs : List Int) : Option (Int × List Int) := if 4 ≤ xs.length then some (numB xs 0, xs.drop 4) else none
def pTake (n : Int) (xs : List Int) : Option (List Int × List Int) := if 0 ≤ n ∧ n ≤ xs.length then some (xs.take n.toNat, xs.drop n.toNat) else none
def pCount (most : Int) (xs : List Int) : Option (Int × List Int) := match pNum xs with
  | some (n, t) => if n ≤ most then some (n, t) else none
  | none => none

def stopV : Value := .iface 107 (.agg #[])
def stopC : List PanicEntry := [{ v := stopV, recovered := false }]

def bytesOk (xs : List Int) : Prop := ∀ x ∈ xs, 0 ≤ x ∧ x < 256
/-- A reader at r: what is left to be read lies in block gb. -/
structure RdAt (w : World) (r gb : Nat) (xs : List Int) : Prop where
  st : ∃ ao c, Box w r 111 #[.slice ao xs.length c] ∧ Src w ao xs.length c (u8s xs) 1 ∧ xs.length ≤ c ∧ c ≤ maxLen ∧ (∀ ad, ao = some ad → ∃ o, ad = ⟨gb, o, none⟩)
  ne : gb ≠ r
  rng : bytesOk xs
  lt : gb < w.heap.size
theorem RdAt.chg {w w' : World} {r gb : Nat} {xs : List Int} {P : Nat → Prop} (h : RdAt w r gb xs) (c : Chg w w' P) (h1 : ¬ P r) (h2 : ¬ P gb) : RdAt w' r gb xs := by
  obtain ⟨ao, cc, b, s, hc, hm, ha⟩ := h.st
  exact ⟨⟨ao, cc, b.chg c h1, s.chg c (fun ad e hp => by obtain ⟨o, rfl⟩ := ha ad e; exact h2 hp), hc, hm, ha⟩, h.ne, h.rng, Nat.lt_of_lt_of_le h.lt c.size⟩

theorem src_dropU {w : World} {g o n c : Nat} {xs : List Int} (h : Src w (some ⟨g, o, none⟩) xs.length c (u8s xs) 1) (hn : n ≤ xs.length) (c' : Nat) : Src w (some ⟨g, o + n, none⟩) (xs.length - n) c' (u8s (xs.drop n)) 1 := by
  refine ⟨by simp [u8s], fun h => (by cases h), fun ad he j u hu => ?_⟩
  injection he with he
  subst he
  have hu2 : (u8s xs)[n + j]? = some u := by
    unfold u8s at hu ⊢
    rw [List.map_drop, List.getElem?_drop] at hu
    exact hu
  have := h.get _ rfl (n + j) u hu2
  rw [Addr.add_lit] at this ⊢
  rw [← Nat.add_assoc] at this
  exact this
theorem src_takeU {w : World} {ao : Option Addr} {n c : Nat} {xs : List Int} (h : Src w ao xs.length c (u8s xs) 1) (hn : n ≤ xs.length) (h0 : ao = none → n = 0) (c' : Nat) (hc' : ao = none → c' = 0) : Src w ao n c' (u8s (xs.take n)) 1 := by
  refine ⟨by simp [u8s]; omega, fun h => ⟨h0 h, hc' h⟩, fun ad he j u hu => ?_⟩
  refine h.get ad he j u ?_
  unfold u8s at hu ⊢
  rw [List.map_take, List.getElem?_take] at hu
  split at hu
  · exact hu
  · cases hu

/-- What take tells. -/
def TakeR (w w' : World) (r gb : Nat) (xs : List Int) (n : Int) (e : Ending) : Prop :=
  (∃ k : Nat, n = k ∧ k ≤ xs.length ∧ ∃ ao, e = .returned (.slice ao k k) ∧ Lst w' ao k k (u8s (xs.take k)) 1 ∧ (∀ ad, ao = some ad → ∃ o, ad = ⟨gb, o, none⟩) ∧ RdAt w' r gb (xs.drop k) ∧ Chg w w' (fun j => j = r)) ∨
  (¬ (0 ≤ n ∧ n ≤ xs.length) ∧ e = .panicked stopC ∧ Chg w w' (fun _ => False))
theorem bytesOk_drop {xs : List Int} (h : bytesOk xs) (k : Nat) : bytesOk (xs.drop k) := fun x hx => h x (List.mem_of_mem_drop hx)
theorem bytesOk_take {xs : List Int} (h : bytesOk xs) (k : Nat) : bytesOk (xs.take k) := fun x hx => h x (List.mem_of_mem_take hx)

set_option maxRecDepth 100000 in
set_option maxHeartbeats 2000000 in
theorem take_any {r gb : Nat} {xs : List Int} (w : World) (n : Int) (H : RdAt w r gb xs) :
    Calls Try.prog 67 #[.pointer (some ⟨r, 0, none⟩), .int .i64 n] w fun e w' => TakeR w w' r gb xs n e := by
  obtain ⟨ao, c, bx, sx, hc, hmx, ha⟩ := H.st
  have hm := hmx
  unfold maxLen at hm
  have b0 := bx.cell 0
  have z0 := bx.frozen 0
  by_cases hin : 0 ≤ n ∧ n ≤ xs.length
  · obtain ⟨k, rfl⟩ := Int.eq_ofNat_of_zero_le hin.1
    have hk : k ≤ xs.length := by omega
    cases ao with
    | none =>
      obtain ⟨hx0, hc0⟩ := sx.nil rfl
      have hxs : xs = [] := List.eq_nil_of_length_eq_zero hx0
      subst hxs
      subst hc0
      obtain rfl : k = 0 := by simpa using hk
      go_enter Try.func67, Try.ntmps67
      go_wp2_with fail
      go_ret
      have C : Chg w (w.setCell ⟨r, 0, none⟩ (.slice none 0 0)) (fun j => j = r) := (Chg.refl w (fun j => j = r)).setCell (p := ⟨r, 0, none⟩) (fun _ => rfl) _
      exact .inl ⟨0, rfl, by simp, none, rfl, Lst.none _ 1, fun ad h => (by cases h), ⟨⟨none, 0, bx.set 0 _, ⟨rfl, fun _ => ⟨rfl, rfl⟩, fun ad h => (by cases h)⟩, Nat.le_refl _, by unfold maxLen; omega, fun ad h => (by cases h)⟩, H.ne, bytesOk_drop H.rng 0, Nat.lt_of_lt_of_le H.lt C.size⟩, C⟩
    | some ad =>
      obtain ⟨o, rfl⟩ := ha ad rfl
      have hkI : (k : Int) ≤ xs.length := by omega
      have hkc : (k : Int) ≤ c := by omega
      have hk0 : (0 : Int) ≤ (k : Int) := by omega
      have hnr : gb ≠ r := H.ne
      have sT := src_takeU sx hk (fun h => (by cases h)) k (fun h => (by cases h))
      by_cases hck : c = k
      · have hxk : xs.length = k := by omega
        have hdr : xs.drop k = [] := List.drop_eq_nil_of_le (by omega)
        go_enter Try.func67, Try.ntmps67
        go_wp2_with fail
        go_ret
        have C : Chg w (w.setCell ⟨r, 0, none⟩ (.slice (some ⟨gb, o, none⟩) 0 0)) (fun j => j = r) := (Chg.refl w (fun j => j = r)).setCell (p := ⟨r, 0, none⟩) (fun _ => rfl) _
        refine .inl ⟨k, rfl, hk, some ⟨gb, o, none⟩, rfl, ⟨sT.chg C (fun ad e h => by cases e; exact hnr h), fun _ => ⟨gb, o, rfl⟩, Nat.le_refl _, by omega⟩, fun ad h => (by cases h; exact ⟨o, rfl⟩), ⟨⟨some ⟨gb, o, none⟩, 0, ?_, ?_, ?_, by unfold maxLen; omega, fun ad h => (by cases h; exact ⟨o, rfl⟩)⟩, hnr, bytesOk_drop H.rng k, Nat.lt_of_lt_of_le H.lt C.size⟩, C⟩
        · rw [hdr]; exact bx.set 0 _
        · rw [hdr]; exact ⟨rfl, fun h => (by cases h), fun ad he j u hu => by simp [u8s] at hu⟩
        · rw [hdr]; exact Nat.le_refl _
      · have sD := src_dropU sx hk (c - k)
        go_enter Try.func67, Try.ntmps67
        go_wp2_with fail
        go_ret
        have C : Chg w (w.setCell ⟨r, 0, none⟩ (.slice (some ⟨gb, o + k, none⟩) (xs.length - k) (c - k))) (fun j => j = r) := (Chg.refl w (fun j => j = r)).setCell (p := ⟨r, 0, none⟩) (fun _ => rfl) _
        refine .inl ⟨k, rfl, hk, some ⟨gb, o, none⟩, rfl, ⟨sT.chg C (fun ad e h => by cases e; exact hnr h), fun _ => ⟨gb, o, rfl⟩, Nat.le_refl _, by omega⟩, fun ad h => (by cases h; exact ⟨o, rfl⟩), ⟨⟨some ⟨gb, o + k, none⟩, c - k, ?_, ?_, ?_, by unfold maxLen; omega, fun ad h => (by cases h; exact ⟨o + k, rfl⟩)⟩, hnr, bytesOk_drop H.rng k, Nat.lt_of_lt_of_le H.lt C.size⟩, C⟩
        · rw [List.length_drop]; exact bx.set 0 _
        · rw [List.length_drop]; exact sD.chg C (fun ad e h => by cases e; exact hnr h)
        · rw [List.length_drop]; omega
  · go_enter Try.func67, Try.ntmps67
    by_cases h0 : n < 0
    · go_wp2_with fail
      exact ⟨rfl, .inr ⟨hin, rfl, Chg.refl _ _⟩⟩
    · have hgt : (xs.length : Int) < n := by omega
      go_wp2_with fail
      exact ⟨rfl, .inr ⟨hin, rfl, Chg.refl _ _⟩⟩

/-- What number tells. -/
def NumR (w w' : World) (r gb : Nat) (xs : List Int) (p : Option (Int × List Int)) (e : Ending) : Prop :=
  (∃ x t, p = some (x, t) ∧ e = .returned (.int .i64 x) ∧ RdAt w' r gb t ∧ Chg w w' (fun j => j = r)) ∨
  (p = none ∧ e = .panicked stopC ∧ Chg w w' (fun j => j = r))

set_option maxRecDepth 100000 in
theorem rdnum_any {r gb : Nat} {xs : List Int} (w : World) (H : RdAt w r gb xs) :
    Calls Try.prog 68 #[.pointer (some ⟨r, 0, none⟩)] w fun e w' => NumR w w' r gb xs (pNum xs) e := by
  have HT := take_any w 4 H
  have HPN : Hid (pNum xs = if 4 ≤ xs.length then some (numB xs 0, xs.drop 4) else none) := rfl
  obtain ⟨pn, hpn⟩ : ∃ pn, pNum xs = pn := ⟨_, rfl⟩
  rw [hpn] at HPN
  rw [hpn]
  clear hpn
  go_enter Try.func68, Try.ntmps68
  go_wp2_with fail
  refine HT.mono ?_
  rintro e w1 (⟨k, hk, hk2, ao, rfl, L, hat, R, C⟩ | ⟨hn, rfl, C⟩)
  · obtain rfl : k = 4 := by omega
    have hN : pn = some (numB (xs.take 4) 0, xs.drop 4) := by
      rw [HPN.out, if_pos hk2]
      congr 2
      unfold numB
      simp [List.getD_eq_getElem?_getD, List.getElem?_take]
    subst hN
    clear HT hk HPN
    go_wp2_with fail
    refine (number_any _ L (bytesOk_take H.rng 4) (Nat.le_refl _)).mono ?_
    rintro e w2 ⟨q, rfl, rfl⟩
    go_wp2_with fail
    go_ret
    exact .inl ⟨_, _, rfl, rfl, R.chg ((Chg.refl w1 (fun _ => False)).drewN q) (fun h => h) (fun h => h), C.drewN q⟩
  · have hN : pn = none := by rw [HPN.out, if_neg (by omega)]
    subst hN
    exact ⟨rfl, .inr ⟨rfl, rfl, C.mono (fun _ _ h => h.elim)⟩⟩

set_option maxRecDepth 100000 in
theorem rdcount_any {r gb : Nat} {xs : List Int} (w : World) (most : Int) (H : RdAt w r gb xs) :
    Calls Try.prog 69 #[.pointer (some ⟨r, 0, none⟩), .int .i64 most] w fun e w' => NumR w w' r gb xs (pCount most xs) e := by
  have HT := rdnum_any w H
  have HC : Hid (pCount most xs = match pNum xs with
    | some (n, t) => if n ≤ most then some (n, t) else none
    | none => none) := rfl
  obtain ⟨pc, hpc⟩ : ∃ pc, pCount most xs = pc := ⟨_, rfl⟩
  obtain ⟨pn, hpn⟩ : ∃ pn, pNum xs = pn := ⟨_, rfl⟩
  rw [hpc, hpn] at HC
  rw [hpn] at HT
  rw [hpc]
  clear hpc hpn
  go_enter Try.func69, Try.ntmps69
  go_wp2_with fail
  refine HT.mono ?_
  rintro e w1 (⟨x, t, rfl, rfl, R, C⟩ | ⟨rfl, rfl, C⟩)
  · clear HT
    by_cases hx : x ≤ most
    · have hpc : pc = some (x, t) := by rw [HC.out]; simp [hx]
      subst hpc
      clear HC
      go_wp2_with fail
      go_ret
      exact .inl ⟨_, _, rfl, rfl, R, C⟩
    · have hpc : pc = none := by rw [HC.out]; simp [hx]
      subst hpc
      clear HC
      go_wp2_with fail
      exact ⟨rfl, .inr ⟨rfl, rfl, C⟩⟩
  · have hpc : pc = none := HC.out
    subst hpc
    exact ⟨rfl, .inr ⟨rfl, rfl, C⟩⟩
end Go.Proofs.Ytdhkbephofnfdaa

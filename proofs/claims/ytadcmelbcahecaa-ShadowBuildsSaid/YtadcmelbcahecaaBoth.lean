/- trunnionlaw5: Both, alive. -/
import Derived.Test.YtadcmelbcahecaaWalkM
import Derived.Test.YtadcmelbcahecaaScope
import Derived.Test.YtadcmelbcahecaaRefMem
import Derived.Test.YtadcmelbcahecaaLst
import Derived.StillTailTactics
namespace Go.Proofs.Ytadcmelbcahecaa
open Go.RowKit

structure PokeD where
  at_ : Int
  v : Int
def pokeCells (p : PokeD) : List Value := [.int .i64 p.at_, .int .i64 p.v]
def pokeB (p : PokeD) : Bool := decide (0 ≤ p.at_ ∧ p.at_ ≤ 1048576)
/-- What words put into a memory make of its bytes. -/
def pokes (n : Nat) (l : List PokeD) (f : Nat → Int) : Nat → Int := l.foldl (fun f p => if pokeB p = true then stV n f (4 * p.at_) 4 p.v else f) f
theorem pokes_succ (n : Nat) (l : List PokeD) (f : Nat → Int) (k : Nat) (h : k < l.length) : pokes n (l.take (k + 1)) f = if pokeB l[k] = true then stV n (pokes n (l.take k) f) (4 * l[k].at_) 4 l[k].v else pokes n (l.take k) f := by
  unfold pokes
  rw [List.take_succ_eq_append_getElem h, List.foldl_append]
  rfl

structure Two (w w' : World) (n : Nat) (f : Nat → Int) (e : Ending) (a b c d : Nat) : Prop where
  ret : e = .returned (.tuple #[.pointer (some ⟨a, 0, none⟩), .pointer (some ⟨c, 0, none⟩)])
  m : Mem 74 w' a b n f
  r : Mem 76 w' c d n f
  chg : Chg w w' (fun _ => False)
  ha : w.heap.size ≤ a
  hb : w.heap.size ≤ b
  hc : w.heap.size ≤ c
  hd : w.heap.size ≤ d

set_option maxRecDepth 100000 in
set_option maxHeartbeats 2000000 in
theorem both_any (pages : Int) {ao : Option Addr} {cap : Nat} (l : List PokeD) (w : World) (hl : Lst w ao l.length cap (l.flatMap pokeCells) 2) (hcap : ∀ ad, ao = some ad → 0 < l.length → ad.block < w.heap.size) :
    Calls Try.prog 12 #[.int .i64 pages, .slice ao l.length cap] w fun e w' => ∃ a b c d, Two w w' (pgN pages) (pokes (pgN pages) l (fun _ => 0)) e a b c d := by
  have hm1 := hl.mx
  have hm2 := hl.le
  unfold maxLen at hm1
  obtain ⟨n, hn⟩ : ∃ n, pgN pages = n := ⟨_, rfl⟩
  have HN := fun wx => new_at pages n hn wx
  have HR : ∀ wx, Calls Try.prog 24 #[.int .i64 pages] wx fun e w' => ∃ a b, MemNew 76 wx n e w' a b := fun wx => by rw [← hn]; exact rnew_any pages wx
  rw [hn]
  clear hn
  go_enter Try.func12, Try.ntmps12
  go_wp2_with fail
  refine (HN _).mono ?_
  rintro e w1 ⟨a, b, rfl, M1, C1, ha, hb⟩
  go_wp2_with fail
  refine (HR _).mono ?_
  rintro e w2 ⟨c, d, rfl, R2, C2, hc, hd⟩
  have M2 := M1.chg C2 (fun h => h) (fun h => h)
  have hl2 := hl.chg (C1.trans C2) (fun _ _ h => h)
  have hz := C1.size
  have hbc : b ≠ c := fun e => by have := M1.ltb; omega
  have hbd : b ≠ d := fun e => by have := M1.ltb; omega
  have hda : d ≠ a := fun e => by have := M1.lta; omega
  have C12 := C1.trans C2
  clear HN HR M1
  go_wp2_with fail
  go_loopg [8] l.length (fun g i wr => ∃ k : Nat, g + k = l.length ∧ i = .int .i64 k ∧ Mem 74 wr a b n (pokes n (l.take k) (fun _ => 0)) ∧ Mem 76 wr c d n (pokes n (l.take k) (fun _ => 0)) ∧ Chg w wr (fun _ => False))
  case atStart => exact ⟨0, rfl, rfl, M2, R2, C12⟩
  case round =>
    obtain ⟨k, hk, rfl, Mk, Rk, Ck⟩ := hrel
    have HK := Lib.hid hk
    clear M2 R2 C12 hl2
    by_cases hlt : k < l.length
    · obtain ⟨g, o, rfl⟩ := hl.pos (by omega)
      have hgl := hcap _ rfl (by omega)
      have hgb : g ≠ b := fun e => by have : g < w.heap.size := hgl; omega
      have hgd : g ≠ d := fun e => by have : g < w.heap.size := hgl; omega
      have hkk := hl.chg Ck (fun _ _ h => h)
      have c0 := Lst.cell0 (n := 2) (fun _ => rfl) hkk k (by decide) hlt rfl
      have c1 := Lst.cell (n := 2) (fun _ => rfl) hkk k 1 (by decide) hlt rfl
      have HS := Lib.hid (pokes_succ n l (fun _ => 0) k hlt)
      obtain ⟨x, hx⟩ : ∃ x, l[k] = x := ⟨_, rfl⟩
      rw [hx] at c0 c1 HS
      have hk0 : (0 : Int) ≤ (k : Int) := by omega
      have hk1 : (k : Int) < l.length := by omega
      clear hx hkk hk
      by_cases x1 : x.at_ < 0
      · have e1 : decide (x.at_ < 0) = true := decide_eq_true x1
        have HP : Hid (pokes n (l.take (k + 1)) (fun _ => 0) = pokes n (l.take k) (fun _ => 0)) := by show _ = _; rw [HS.out, if_neg (by unfold pokeB; rw [decide_eq_true_eq]; omega)]
        go_wp2_with fail
        go_roundg (gk - 1)
        case measure => have := HK.out; omega
        case rel => exact ⟨k + 1, by have := HK.out; omega, by go_num, by rw [HP.out]; exact Mk, by rw [HP.out]; exact Rk, Ck⟩
      have e1 : decide (x.at_ < 0) = false := decide_eq_false x1
      by_cases x2 : 1048576 < x.at_
      · have e2 : decide (1048576 < x.at_) = true := decide_eq_true x2
        have HP : Hid (pokes n (l.take (k + 1)) (fun _ => 0) = pokes n (l.take k) (fun _ => 0)) := by show _ = _; rw [HS.out, if_neg (by unfold pokeB; rw [decide_eq_true_eq]; omega)]
        go_wp2_with fail
        go_roundg (gk - 1)
        case measure => have := HK.out; omega
        case rel => exact ⟨k + 1, by have := HK.out; omega, by go_num, by rw [HP.out]; exact Mk, by rw [HP.out]; exact Rk, Ck⟩
      have e2 : decide (1048576 < x.at_) = false := decide_eq_false x2
      have HP : Hid (pokes n (l.take (k + 1)) (fun _ => 0) = stV n (pokes n (l.take k) (fun _ => 0)) (4 * x.at_) 4 x.v) := by show _ = _; rw [HS.out, if_pos (by unfold pokeB; rw [decide_eq_true_eq]; omega)]
      have w4 : IntKind.i64.wrap (4 * x.at_) = 4 * x.at_ := IntWalk.i64_in _ (by omega)
      go_wp2_with fail
      go_still_tail 12, (by kernel_rfl)
      go_wp2_with fail
      refine (store_any Mk.drew _ _ _).mono ?_
      rintro e w3 ⟨rfl, M3, C3⟩
      have R3 := Rk.drew.chg C3 (fun h => hbc h.symm) (fun h => hbd h.symm)
      have C3' := Ck.drew.trans' C3 (fun i hi e => by subst e; omega)
      have d0 := C3.cell (p := ⟨g, o + k * 2, none⟩) c0 (fun h => hgb h)
      have d1 := C3.cell (p := ⟨g, o + k * 2 + 1, none⟩) c1 (fun h => hgb h)
      clear c0 c1
      go_wp2_with fail
      go_still_tail 12, (by kernel_rfl)
      go_wp2_with fail
      refine (rstore_any R3.drew _ _ _).mono ?_
      rintro e w4' ⟨rfl, R4, C4⟩
      have M4 := M3.drew.chg C4 (fun h => hda h.symm) (fun h => hbd h)
      have C4' := C3'.drew.trans' C4 (fun i hi e => by subst e; omega)
      go_wp2_with fail
      go_roundg (gk - 1)
      case measure => have := HK.out; omega
      case rel => exact ⟨k + 1, by have := HK.out; omega, by go_num, by rw [HP.out]; exact M4, by rw [HP.out]; exact R4, C4'⟩
    · have h1 : k = l.length := by omega
      subst h1
      go_wp2_with fail
      go_ret2
      rw [List.take_length] at Mk Rk
      exact ⟨a, b, c, d, rfl, Mk, Rk, Ck, ha, hb, by omega, by omega⟩

end Go.Proofs.Ytadcmelbcahecaa

/- tlb: New, Look, Len, Evict. -/
import Derived.Test.YtgblnmahniphdaaTlb
import Derived.Deep.DeepCutAuto
namespace Go.Proofs.Ytgblnmahniphdaa
open Go.RowKit

def look (r : List (KeyD × Int)) (k : KeyD) : Option Int := (r.find? (fun p => decide (p.1 = k))).map (·.2)
def ks (r : List (KeyD × Int)) : List KeyD := r.map (·.1)

/-- A Tlb. -/
structure TAt (w : World) (base t m : Nat) (v : Value) (n : Int) (r : List (KeyD × Int)) : Prop where
  box : Box w t 58 #[.int .i64 n, .map (some m), v]
  map : MapFn w m (look r)
  own : w.ownsRow base 60 2 v r.length ((ks r).flatMap kCells)
  keys : (ks r).Nodup
  ok : ∀ p ∈ r, keyOk p.1
  len : (r.length : Int) ≤ n
  nn : 1 ≤ n ∧ n ≤ 256
  bt : base ≤ t
  bm : base ≤ m

/-- The blocks of a Tlb. -/
def foot (t m : Nat) (v : Value) (k : Nat) : Prop := k = t ∨ k = m ∨ v.ownBlock = some k

theorem map_ne_box {w : World} {m t : Nat} {f : KeyD → Option Int} {ty : TypeId} {cs : Array Value} (h : MapFn w m f) (hb : Box w t ty cs) : m ≠ t := by
  rintro rfl
  obtain ⟨es, clock, he, _⟩ := h
  unfold Box at hb
  rw [he] at hb
  cases hb
theorem map_ne_own {w : World} {m base : Nat} {f : KeyD → Option Int} {e : TypeId} {size n : Nat} {v : Value} {xs : List Value} (h : MapFn w m f) (ho : w.ownsRow base e size v n xs) : v.ownBlock ≠ some m := by
  intro hk
  obtain ⟨es, clock, he, _⟩ := h
  rcases ho.2 with ⟨rfl, _⟩ | ⟨b, cap, cur, rfl, _, hh, _⟩
  · cases hk
  · have : b = m := by injection hk
    subst this
    rw [he] at hh
    cases hh
namespace TAt
variable {w w' : World} {base t m : Nat} {v : Value} {n : Int} {r : List (KeyD × Int)}
theorem chg {P : Nat → Prop} (h : TAt w base t m v n r) (c : Chg w w' P) (hn : ∀ k, foot t m v k → ¬ P k) : TAt w' base t m v n r :=
  ⟨h.box.chg c (hn t (.inl rfl)), h.map.chg c (hn m (.inr (.inl rfl))), own_chg h.own c (fun k hk => hn k (.inr (.inr hk))), h.keys, h.ok, h.len, h.nn, h.bt, h.bm⟩
theorem new (w : World) (n : Int) (hn : 1 ≤ n ∧ n ≤ 256) : TAt ((w.alloc (.map #[] 0)).alloc (.cells #[.int .i64 n, .map (some w.heap.size), .slice none 0 0] 58)) w.heap.size (w.heap.size + 1) w.heap.size (.slice none 0 0) n [] := by
  have hz : (w.alloc (.map #[] 0)).heap.size = w.heap.size + 1 := by simp
  have hb := Box.new (w.alloc (.map #[] 0)) 58 #[.int .i64 n, .map (some w.heap.size), .slice none 0 0]
  rw [hz] at hb
  exact ⟨hb, (MapFn.made w).chg ((Chg.refl _ (fun _ => False)).alloc _) (fun h => h), ⟨rfl, .inl ⟨rfl, rfl⟩⟩, by simp [ks], by simp, by simpa using by omega, hn, by omega, Nat.le_refl _⟩
end TAt

set_option maxHeartbeats 400000 in
theorem tnew_any (n : Int) (w : World) : Calls Try.prog 11 #[.int .i64 n] w fun e w' => e = .returned (.pointer (some ⟨w.heap.size + 1, 0, none⟩)) ∧ TAt w' w.heap.size (w.heap.size + 1) w.heap.size (.slice none 0 0) (min (max 1 n) 256) [] ∧ Chg w w' (fun _ => False) := by
  have H := TAt.new w (min (max 1 n) 256) (by omega)
  have hmk := run_makeMap (P := Try.prog) (w := w) 55
  by_cases h1 : n ≤ 1
  · have hv : min (max 1 n) 256 = 1 := by omega
    rw [hv] at H ⊢
    go_enter Try.func11, Try.ntmps11
    go_wp2_with fail
    go_ret
    exact ⟨rfl, H, ((Chg.refl _ _).alloc _).alloc _⟩
  · by_cases h2 : n ≤ 256
    · have hv : min (max 1 n) 256 = n := by omega
      rw [hv] at H ⊢
      go_enter Try.func11, Try.ntmps11
      go_wp2_with fail
      go_ret
      exact ⟨rfl, H, ((Chg.refl _ _).alloc _).alloc _⟩
    · have hv : min (max 1 n) 256 = 256 := by omega
      rw [hv] at H ⊢
      go_enter Try.func11, Try.ntmps11
      go_wp2_with fail
      go_ret
      exact ⟨rfl, H, ((Chg.refl _ _).alloc _).alloc _⟩

set_option maxHeartbeats 400000 in
theorem tlook_any {w : World} {base t m : Nat} {v : Value} {n : Int} {r : List (KeyD × Int)} (h : TAt w base t m v n r) (tag vpn : Int) (h1 : i64ok tag) (h2 : i64ok vpn) :
    Calls Try.prog 13 #[.pointer (some ⟨t, 0, none⟩), .int .i64 tag, .int .i64 vpn] w fun e w' => e = .returned (.tuple #[.int .i64 ((look r (tag, vpn)).getD 0), .bool (look r (tag, vpn)).isSome]) ∧ w = w' := by
  have hlk := h.map.lookup (a := (tag, vpn)) ⟨h1, h2⟩
  unfold keyV at hlk
  have x1 := h.box.cell 1
  obtain ⟨lv, hlv⟩ : ∃ lv, look r (tag, vpn) = lv := ⟨_, rfl⟩
  rw [hlv] at hlk ⊢
  clear hlv h1 h2
  obtain ⟨l1, hl1⟩ : ∃ l1, lv.getD 0 = l1 := ⟨_, rfl⟩
  obtain ⟨l2, hl2⟩ : ∃ l2, lv.isSome = l2 := ⟨_, rfl⟩
  rw [hl1, hl2] at hlk ⊢
  clear hl1 hl2
  go_enter Try.func13, Try.ntmps13
  go_wp2_with fail
  go_ret2
  exact ⟨rfl, rfl⟩
set_option maxHeartbeats 400000 in
theorem tlen_any {w : World} {base t m : Nat} {v : Value} {n : Int} {r : List (KeyD × Int)} (h : TAt w base t m v n r) :
    Calls Try.prog 15 #[.pointer (some ⟨t, 0, none⟩)] w fun e w' => e = .returned (.int .i64 r.length) ∧ w = w' := by
  obtain ⟨ao, cap, rfl, _⟩ := own_form h.own
  have x2 := h.box.cell 2
  go_enter Try.func15, Try.ntmps15
  go_wp2_with fail
  go_ret
  exact ⟨rfl, rfl⟩
end Go.Proofs.Ytgblnmahniphdaa

/- phys.at; what a number of bytes is; what a memory is. -/
import Derived.Test.YtiedfglkjkaefaaProg
import Derived.Test.YtiedfglkjkaefaaBits
import Derived.Test.YtiedfglkjkaefaaBase
namespace Go.Proofs.Ytiedfglkjkaefaa
open Go.RowKit

/-- A memory: a struct of one field behind a pointer, block a; its bytes, block b. -/
structure Mem (t : TypeId) (w : World) (a b n : Nat) (f : Nat → Int) : Prop where
  ptr : w.rowIs a t 1 (fun _ => .slice (some ⟨b, 0, none⟩) n n)
  row : w.rowIs b 5 n (fun i => .int .u8 (f i))
  rng : ∀ i, i < n → 0 ≤ f i ∧ f i < 256
  ne : a ≠ b
  le : n ≤ 1048576
  mul : n % 4096 = 0

namespace Mem
variable {t : TypeId} {w w' : World} {a b n : Nat} {f : Nat → Int}
theorem chg (h : Mem t w a b n f) {P : Nat → Prop} (c : Chg w w' P) (ha : ¬ P a) (hb : ¬ P b) : Mem t w' a b n f := ⟨c.row h.ptr ha, c.row h.row hb, h.rng, h.ne, h.le, h.mul⟩
theorem drew (h : Mem t w a b n f) : Mem t w.drew a b n f := ⟨h.ptr.drew, h.row.drew, h.rng, h.ne, h.le, h.mul⟩
theorem drewN (h : Mem t w a b n f) (k : Nat) : Mem t (w.drewN k) a b n f := ⟨rowIs_drewN h.ptr k, rowIs_drewN h.row k, h.rng, h.ne, h.le, h.mul⟩
theorem alloc (h : Mem t w a b n f) (o : Obj) : Mem t (w.alloc o) a b n f := ⟨h.ptr.alloc o, h.row.alloc o, h.rng, h.ne, h.le, h.mul⟩
theorem cell0 (h : Mem t w a b n f) : w.cell? ⟨a, 0, none⟩ = some (.slice (some ⟨b, 0, none⟩) n n) := h.ptr.cell (by decide)
theorem cell (h : Mem t w a b n f) (i : Nat) (hi : i < n) : w.cell? ⟨b, i, none⟩ = some (.int .u8 (f i)) := h.row.cell hi
theorem lta (h : Mem t w a b n f) : a < w.heap.size := h.ptr.lt
theorem ltb (h : Mem t w a b n f) : b < w.heap.size := h.row.lt
theorem congr (h : Mem t w a b n f) {g : Nat → Int} (e : ∀ i, i < n → f i = g i) : Mem t w a b n g :=
  ⟨h.ptr, h.row.congr (fun i hi => by rw [e i hi]), fun i hi => by rw [← e i hi]; exact h.rng i hi, h.ne, h.le, h.mul⟩
theorem setb (h : Mem t w a b n f) (i : Nat) (v : Int) (hv : 0 ≤ v ∧ v < 256) : Mem t (w.setCell ⟨b, i, none⟩ (.int .u8 v)) a b n (fun j => if j = i then v else f j) :=
  ⟨h.ptr.setOther h.ne _, (h.row.set i _).congr (fun j _ => by by_cases e : j = i <;> simp [e]), fun j hj => by by_cases e : j = i <;> simp [e, hv, h.rng j hj], h.ne, h.le, h.mul⟩
end Mem

/-- m bytes from p on, the lowest first. -/
def leN (f : Nat → Int) (p : Nat) : Nat → Int
  | 0 => 0
  | m + 1 => f p + 256 * leN f (p + 1) m

theorem leN_lt (f : Nat → Int) (n : Nat) (hf : ∀ i, i < n → 0 ≤ f i ∧ f i < 256) (p m : Nat) (h : p + m ≤ n) (hm : m ≤ 4) : 0 ≤ leN f p m ∧ leN f p m < 4294967296 := by
  have h4 : ∀ q, q < n → 0 ≤ f q ∧ f q < 256 := hf
  match m, hm with
  | 0, _ => simp [leN]
  | 1, _ => simp only [leN]; have := h4 p (by omega); omega
  | 2, _ => simp only [leN]; have := h4 p (by omega); have := h4 (p + 1) (by omega); omega
  | 3, _ => simp only [leN]; have := h4 p (by omega); have := h4 (p + 1) (by omega); have := h4 (p + 1 + 1) (by omega); omega
  | 4, _ => simp only [leN]; have := h4 p (by omega); have := h4 (p + 1) (by omega); have := h4 (p + 1 + 1) (by omega); have := h4 (p + 1 + 1 + 1) (by omega); omega

theorem leN_step (f : Nat → Int) (p k s : Nat) (h : 0 < k) (hk : k ≤ s) : leN f (p + (k - 1)) (s - (k - 1)) = f (p + (k - 1)) + 256 * leN f (p + k) (s - k) := by
  rw [show s - (k - 1) = (s - k) + 1 from by omega]
  simp only [leN]
  rw [show p + (k - 1) + 1 = p + k from by omega]

theorem or_byte (x y : Int) (h0 : 0 ≤ x) (h1 : x < 4294967296) (h2 : 0 ≤ y) (h3 : y < 256) : bits .or .i64 (x * 256) y = x * 256 + y :=
  bits_join .i64 62 (by decide) (fun n _ _ => by rw [IntKind.wrap_i64]; omega) 8 (x * 256) y (by omega) (by omega) (by omega) h2 h3 (by omega)

/-- byte i of v, the lowest first. -/
def byteN (v : Int) (i : Nat) : Int := v / 2 ^ (8 * i) % 256
theorem byteN_rng (v : Int) (i : Nat) : 0 ≤ byteN v i ∧ byteN v i < 256 := by
  unfold byteN
  omega
/-- m bytes of v put from p on. -/
def stN (f : Nat → Int) (p m : Nat) (v : Int) : Nat → Int := fun j => if p ≤ j ∧ j < p + m then byteN v (j - p) else f j

def okB (n : Nat) (addr size : Int) : Bool := decide ((size = 1 ∨ size = 2 ∨ size = 4) ∧ 0 ≤ addr ∧ addr % size = 0 ∧ addr + size ≤ n)
/-- What a load tells. -/
def ldV (n : Nat) (f : Nat → Int) (addr size : Int) : Int := if okB n addr size = true then leN f addr.toNat size.toNat else 0
/-- What a store makes of the bytes. -/
def stV (n : Nat) (f : Nat → Int) (addr size v : Int) : Nat → Int := if okB n addr size = true then stN f addr.toNat size.toNat v else f

theorem okB_true {n : Nat} {addr size : Int} (h : okB n addr size = true) : (size = 1 ∨ size = 2 ∨ size = 4) ∧ 0 ≤ addr ∧ addr % size = 0 ∧ addr + size ≤ n := of_decide_eq_true h
theorem okB_false {n : Nat} {addr size : Int} (h : okB n addr size = false) : ¬ ((size = 1 ∨ size = 2 ∨ size = 4) ∧ 0 ≤ addr ∧ addr % size = 0 ∧ addr + size ≤ n) := of_decide_eq_false h

theorem ret2_slice {a : Option Addr} {b : Bool} {n m : Nat} (h : n = m) : Ending.returned (.tuple #[.slice a n n, .bool b]) = .returned (.tuple #[.slice a m m, .bool b]) := by rw [h]


end Go.Proofs.Ytiedfglkjkaefaa

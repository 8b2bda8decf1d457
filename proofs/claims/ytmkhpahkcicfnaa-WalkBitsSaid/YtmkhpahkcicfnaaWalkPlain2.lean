/- Plain laws of walks over tables that are written out (WalkFar, WalkBits, WalkTwo). -/
import Derived.Test.YtmkhpahkcicfnaaOrOn
import Derived.Test.YtmkhpahkcicfnaaBoth
import Derived.Deep.DeepCutAuto
namespace Go.Proofs.Ytmkhpahkcicfnaa
open Go.RowKit

theorem ent_of {n : Nat} {f : Nat → Int} {ptbr vp p e : Int} (h1 : okB n (adr1 ptbr vp) 4 = true) (h2 : ldV n f (adr1 ptbr vp) 4 = p) (h3 : dirB p = true) (h4 : okB n (adr2 p vp) 4 = true) (h5 : ldV n f (adr2 p vp) 4 = e) : entOf n f ptbr vp = .ent e := by
  unfold entOf
  rw [h1, h2, h3, h4, h5]
  rfl
theorem ent_bus2 {n : Nat} {f : Nat → Int} {ptbr vp p : Int} (h1 : okB n (adr1 ptbr vp) 4 = true) (h2 : ldV n f (adr1 ptbr vp) 4 = p) (h3 : dirB p = true) (h4 : okB n (adr2 p vp) 4 = false) : entOf n f ptbr vp = .bus2 p := by
  unfold entOf
  rw [h1, h2, h3, h4]
  rfl
theorem ent_bus {n : Nat} {f : Nat → Int} {ptbr vp : Int} (h1 : okB n (adr1 ptbr vp) 4 = false) : entOf n f ptbr vp = .bus := by
  unfold entOf
  rw [h1]
  rfl
theorem poke_yes {n : Nat} {p : PokeD} {l : List PokeD} {f : Nat → Int} (h : 0 ≤ p.at_ ∧ p.at_ ≤ 1048576) : pokes n (p :: l) f = pokes n l (stV n f (4 * p.at_) 4 p.v) := by
  show List.foldl _ (if pokeB p = true then _ else _) l = _
  rw [if_pos (show pokeB p = true from decide_eq_true h)]
  rfl

/-- WalkFar. -/
theorem far_law (pages root next vpn kind : Int) (hp : 2 ≤ pages ∧ pages ≤ 32) (hr : 0 ≤ root ∧ root ≤ 64) (hn : 0 ≤ next ∧ next ≤ 64) (hv : 0 ≤ vpn ∧ vpn ≤ 1023) (hne : next ≠ root) :
    walkV (pgN pages) (pokes (pgN pages) [⟨root * 1024, next * 4096 + 1⟩] (fun _ => 0)) (2147483648 + root) (vpn * 4096) kind false = (0, if pages ≤ root ∨ pages ≤ next then 4 else needFault kind) ∧
    (mapV (pgN pages) (pokes (pgN pages) [⟨root * 1024, next * 4096 + 1⟩] (fun _ => 0)) (2147483648 + root) vpn).2 = false := by
  have hn' : (pgN pages : Int) = pages * 4096 := by unfold pgN; omega
  obtain ⟨n, hnn⟩ : ∃ n, pgN pages = n := ⟨_, rfl⟩
  rw [hnn] at hn' ⊢
  clear hnn
  rw [poke_yes (by show 0 ≤ root * 1024 ∧ root * 1024 ≤ 1048576; omega)]
  show walkV n (stV n (fun _ => 0) (4 * (root * 1024)) 4 (next * 4096 + 1)) _ _ _ _ = _ ∧ (mapV n (stV n (fun _ => 0) (4 * (root * 1024)) 4 (next * 4096 + 1)) _ _).2 = _
  have ho := onB_on root (by omega) (by omega)
  have e1 : vpn * 4096 % 4294967296 / 4096 = vpn := by omega
  have e2 : vpn % 1048576 = vpn := by omega
  have a1 : adr1 (2147483648 + root) vpn = 4 * (root * 1024) := by unfold adr1; omega
  unfold walkV mapV
  rw [ho, e1, e2]
  simp only [Bool.true_eq_false, if_false]
  by_cases h1 : pages ≤ root
  · rw [ent_bus (by rw [a1]; exact okB_4f (by omega))]
    rw [if_pos (.inl h1)]
    exact ⟨rfl, rfl⟩
  · have k1 : okB n (4 * (root * 1024)) 4 = true := okB_4 (by omega) (by omega) (by omega)
    have l1 : ldV n (stV n (fun _ => 0) (4 * (root * 1024)) 4 (next * 4096 + 1)) (adr1 (2147483648 + root) vpn) 4 = next * 4096 + 1 := by rw [a1, ld_st_same k1]; omega
    have d1 : dirB (next * 4096 + 1) = true := by unfold dirB; simp; omega
    have a2 : adr2 (next * 4096 + 1) vpn = next * 4096 + 4 * vpn := by unfold adr2; omega
    by_cases h2 : pages ≤ next
    · rw [ent_bus2 (by rw [a1]; exact k1) l1 d1 (by rw [a2]; exact okB_4f (by omega))]
      rw [if_pos (.inr h2)]
      exact ⟨rfl, rfl⟩
    · rw [ent_of (e := 0) (by rw [a1]; exact k1) l1 d1 (by rw [a2]; exact okB_4 (by omega) (by omega) (by omega)) (by rw [a2, ld_st_other (by omega), ld_zero])]
      rw [if_neg (by omega)]
      exact ⟨rfl, rfl⟩

/-- WalkBits. -/
theorem bits_ent (frame bits va : Int) (hf : 0 ≤ frame ∧ frame ≤ 1048575) (hb : 0 ≤ bits ∧ bits < 32) (hv : 0 ≤ va ∧ va < 4294967296) :
    entOf 12288 (pokes 12288 [⟨1024 + va / 4194304, 8193⟩, ⟨2048 + va / 4096 % 1024, frame * 4096 + bits⟩] (fun _ => 0)) 2147483649 (va / 4096) = .ent (frame * 4096 + bits) := by
  rw [poke_yes (by show 0 ≤ 1024 + va / 4194304 ∧ 1024 + va / 4194304 ≤ 1048576; omega), poke_yes (by show 0 ≤ 2048 + va / 4096 % 1024 ∧ 2048 + va / 4096 % 1024 ≤ 1048576; omega)]
  show entOf 12288 (stV 12288 (stV 12288 (fun _ => 0) (4 * (1024 + va / 4194304)) 4 8193) (4 * (2048 + va / 4096 % 1024)) 4 (frame * 4096 + bits)) _ _ = _
  have a1 : adr1 2147483649 (va / 4096) = 4 * (1024 + va / 4194304) := by unfold adr1; omega
  have a2 : adr2 8193 (va / 4096) = 4 * (2048 + va / 4096 % 1024) := by unfold adr2; omega
  refine ent_of (p := 8193) ?_ ?_ rfl ?_ ?_
  · rw [a1]; exact okB_4 (by omega) (by omega) (by omega)
  · rw [a1, ld_st_other (by omega), ld_st_same (okB_4 (by omega) (by omega) (by omega))]; rfl
  · rw [a2]; exact okB_4 (by omega) (by omega) (by omega)
  · rw [a2, ld_st_same (okB_4 (by omega) (by omega) (by omega))]; omega

theorem acc_frame (frame bits kind : Int) (user : Bool) (hb : 0 ≤ bits ∧ bits < 32) : accB (frame * 4096 + bits) kind user = accB bits kind user := by
  unfold accB hasB
  rw [show (frame * 4096 + bits) % 2 = bits % 2 by omega, show (frame * 4096 + bits) / 8 % 2 = bits / 8 % 2 by omega, show (frame * 4096 + bits) / 4 % 2 = bits / 4 % 2 by omega, show (frame * 4096 + bits) / 2 % 2 = bits / 2 % 2 by omega, show (frame * 4096 + bits) / 16 % 2 = bits / 16 % 2 by omega]

theorem bits_law (frame bits va kind : Int) (user : Bool) (hf : 0 ≤ frame ∧ frame ≤ 1048575) (hb : 0 ≤ bits ∧ bits < 32) (hv : 0 ≤ va ∧ va < 4294967296) :
    walkV 12288 (pokes 12288 [⟨1024 + va / 4194304, 8193⟩, ⟨2048 + va / 4096 % 1024, frame * 4096 + bits⟩] (fun _ => 0)) 2147483649 va kind user = if accB bits kind user = true then (frame * 4096 + va % 4096, 0) else (0, needFault kind) := by
  unfold walkV
  rw [show onB 2147483649 = true from rfl, show va % 4294967296 = va by omega, bits_ent frame bits va hf hb hv]
  simp only [Bool.true_eq_false, if_false]
  rw [acc_frame _ _ _ _ hb, show (frame * 4096 + bits) / 4096 = frame by omega]

/-- WalkTwo. -/
def twoM (a b frame : Int) : Nat → Int := pokes 12288 [⟨1024, 8193⟩, ⟨2048 + a, frame * 4096 + 7⟩, ⟨2048 + b, frame * 4096 + 3⟩] (fun _ => 0)
theorem two_form (a b frame : Int) (ha : 0 ≤ a ∧ a ≤ 1023) (hb : 0 ≤ b ∧ b ≤ 1023) : twoM a b frame = stV 12288 (stV 12288 (stV 12288 (fun _ => 0) (4 * 1024) 4 8193) (4 * (2048 + a)) 4 (frame * 4096 + 7)) (4 * (2048 + b)) 4 (frame * 4096 + 3) := by
  unfold twoM
  rw [poke_yes (by show (0 : Int) ≤ 1024 ∧ (1024 : Int) ≤ 1048576; omega), poke_yes (by show 0 ≤ 2048 + a ∧ 2048 + a ≤ 1048576; omega), poke_yes (by show 0 ≤ 2048 + b ∧ 2048 + b ≤ 1048576; omega)]
  rfl
theorem two_ent {f : Nat → Int} (x e off : Int) (hx : 0 ≤ x ∧ x ≤ 1023) (ho : 0 ≤ off ∧ off ≤ 4095) (h1 : ldV 12288 f 4096 4 = 8193) (h2 : ldV 12288 f (4 * (2048 + x)) 4 = e) :
    entOf 12288 f 2147483649 ((x * 4096 + off) % 4294967296 / 4096) = .ent e := by
  have e0 : (x * 4096 + off) % 4294967296 / 4096 = x := by omega
  have a1 : adr1 2147483649 x = 4096 := by unfold adr1; omega
  have a2 : adr2 8193 x = 4 * (2048 + x) := by unfold adr2; omega
  rw [e0]
  refine ent_of (p := 8193) ?_ (by rw [a1]; exact h1) rfl ?_ (by rw [a2]; exact h2)
  · rw [a1]; exact okB_4 (by omega) (by omega) (by omega)
  · rw [a2]; exact okB_4 (by omega) (by omega) (by omega)

theorem two_walk {f : Nat → Int} (x e off kind : Int) (hx : 0 ≤ x ∧ x ≤ 1023) (ho : 0 ≤ off ∧ off ≤ 4095) (h1 : ldV 12288 f 4096 4 = 8193) (h2 : ldV 12288 f (4 * (2048 + x)) 4 = e) :
    walkV 12288 f 2147483649 (x * 4096 + off) kind false = if accB e kind false = true then (e / 4096 * 4096 + off, 0) else (0, needFault kind) := by
  unfold walkV
  rw [show onB 2147483649 = true from rfl, two_ent x e off hx ho h1 h2, show (x * 4096 + off) % 4096 = off by omega]
  rfl

theorem two_law (a b frame off : Int) (ha : 0 ≤ a ∧ a ≤ 1023) (hb : 0 ≤ b ∧ b ≤ 1023) (hab : a ≠ b) (hf : 0 ≤ frame ∧ frame ≤ 1048575) (ho : 0 ≤ off ∧ off ≤ 4095) :
    walkV 12288 (twoM a b frame) 2147483649 (a * 4096 + off) 2 false = (frame * 4096 + off, 0) ∧
    walkV 12288 (twoM a b frame) 2147483649 (b * 4096 + off) 1 false = (frame * 4096 + off, 0) ∧
    walkV 12288 (twoM a b frame) 2147483649 (b * 4096 + off) 2 false = (0, 7) ∧
    walkV 12288 (stV 12288 (twoM a b frame) (4 * (2048 + a)) 4 0) 2147483649 (a * 4096 + off) 2 false = (0, 7) := by
  have k1 : okB 12288 (4 * 1024) 4 = true := by decide
  have ka : okB 12288 (4 * (2048 + a)) 4 = true := okB_4 (by omega) (by omega) (by omega)
  have kb : okB 12288 (4 * (2048 + b)) 4 = true := okB_4 (by omega) (by omega) (by omega)
  have l0 : ldV 12288 (twoM a b frame) 4096 4 = 8193 := by
    rw [two_form a b frame ha hb, ld_st_other (by omega), ld_st_other (by omega)]
    exact ld_st_same k1
  have la : ldV 12288 (twoM a b frame) (4 * (2048 + a)) 4 = frame * 4096 + 7 := by
    rw [two_form a b frame ha hb, ld_st_other (by omega), ld_st_same ka]; omega
  have lb : ldV 12288 (twoM a b frame) (4 * (2048 + b)) 4 = frame * 4096 + 3 := by
    rw [two_form a b frame ha hb, ld_st_same kb]; omega
  have acc : ∀ (e k : Int), accB e k false = (decide (e % 2 = 1) && (hasB e k && ((!false || decide (e / 16 % 2 = 1)) && !(decide (k % 4 = 0) && (decide (e / 16 % 2 = 1) && !false))))) := fun _ _ => rfl
  refine ⟨?_, ?_, ?_, ?_⟩
  · rw [two_walk a _ off 2 ha ho l0 la, show accB (frame * 4096 + 7) 2 false = true by rw [acc]; simp [hasB]; omega, show (frame * 4096 + 7) / 4096 = frame by omega]
    rfl
  · rw [two_walk b _ off 1 hb ho l0 lb, show accB (frame * 4096 + 3) 1 false = true by rw [acc]; simp [hasB]; omega, show (frame * 4096 + 3) / 4096 = frame by omega]
    rfl
  · rw [two_walk b _ off 2 hb ho l0 lb, show accB (frame * 4096 + 3) 2 false = false by rw [acc]; simp [hasB]; omega]
    rfl
  · rw [two_walk a 0 off 2 ha ho (by rw [ld_st_other (by omega)]; exact l0) (by rw [ld_st_same ka]; rfl), show accB 0 2 false = false from rfl]
    rfl

theorem both_at (pages : Int) {g m n : Nat} (l : List PokeD) (w : World) {t : TypeId} {cs : Array Value} (hb : Box w g t cs) (hc : cs.toList = l.flatMap pokeCells) (hm : l.length = m) (hm0 : m ≤ 100) (hn : pgN pages = n) :
    Calls Try.prog 29 #[.int .i64 pages, .slice (some ⟨g, 0, none⟩) m m] w fun e w' => ∃ a b c d, Two w w' n (pokes n l (fun _ => 0)) e a b c d := by
  subst hm hn
  refine both_any pages l w (hb.lst _ _ 2 _ hc (by rw [flat_length pokeCells 2 (fun _ => rfl)]) (Nat.le_refl _) (by unfold maxLen; omega)) (fun ad e _ => ?_)
  obtain rfl := Option.some.inj e
  exact hb.lt

theorem w_any (x : Int) (w : World) : Calls Try.prog 19 #[.int .i64 x] w fun e w' => e = .returned (.int .i64 (x % 4294967296)) ∧ w = w' := by
  have e1 : bits .and .i64 x 4294967295 = x % 4294967296 := and32 x
  go_enter Try.func19, Try.ntmps19
  go_wp2
  go_ret
  exact ⟨rfl, rfl⟩
end Go.Proofs.Ytmkhpahkcicfnaa

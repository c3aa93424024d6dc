/- Plain facts on whole numbers: masks, sums going round. No condition. -/
import Derived.WalkKit
import Derived.WalkLawsBesides
import Derived.WalkSpells
import Derived.ScopeJumps
namespace Go.Proofs.Ytjmjnndmpeeppaa
open Go.RowKit

set_option maxRecDepth 10000 in
theorem bits_and_mask_i64 (x : Int) (j : Nat) (hj : j ≤ 62) : bits .and .i64 x ((2 : Int) ^ j - 1) = x % (2 : Int) ^ j := by
  have hp : (0 : Int) < 2 ^ j := Int.pow_pos (by decide)
  have h2 : (2 : Int) ^ j ≤ 2 ^ 62 := by
    have := Nat.pow_le_pow_right (n := 2) (by decide) hj
    exact_mod_cast this
  have hm0 := Int.emod_nonneg x (show ((2 : Int) ^ j) ≠ 0 by omega)
  have hm1 := Int.emod_lt_of_pos x hp
  have e64 : ((2 ^ 64 : Nat) : Int) = 18446744073709551616 := rfl
  have e62 : (2 : Int) ^ 62 = 4611686018427387904 := rfl
  have hN : ((BitVec.ofInt 64 x &&& BitVec.ofInt 64 ((2 : Int) ^ j - 1)).toNat : Int) = x % (2 : Int) ^ j := by
    have e1 : (BitVec.ofInt 64 ((2 : Int) ^ j - 1)).toNat = 2 ^ j - 1 := by
      rw [BitVec.toNat_ofInt, e64, Int.emod_eq_of_lt (by omega) (by omega)]
      have h1 := Nat.one_le_two_pow (n := j)
      have : ((2 : Int) ^ j - 1) = ((2 ^ j - 1 : Nat) : Int) := by
        rw [Int.natCast_sub h1]; simp
      rw [this]; rfl
    rw [BitVec.toNat_and, e1, Nat.and_two_pow_sub_one_eq_mod, BitVec.toNat_ofInt]
    have hdvd : ((2 : Int) ^ j) ∣ ((2 ^ 64 : Nat) : Int) := by
      refine ⟨2 ^ (64 - j), ?_⟩
      rw [← Int.pow_add, show j + (64 - j) = 64 by omega]; rfl
    rw [Int.natCast_emod, Int.toNat_of_nonneg (Int.emod_nonneg _ (by decide)), Int.emod_emod_of_dvd _ (by simpa using hdvd)]
    simp
  show IntKind.i64.wrap ((BitVec.ofInt 64 x &&& BitVec.ofInt 64 ((2 : Int) ^ j - 1)).toNat : Int) = _
  rw [hN, IntKind.wrap_i64]
  omega

/-- a fact kept from the walk -/
theorem hid {p : Prop} (h : p) : Hid p := h

theorem _root_.Go.RowKit.Below.then {w a b : World} (h : Below w.heap.size w a) (k : Below a.heap.size a b) : Below w.heap.size w b := h.trans (k.mono h.size)

/-- every old cell and every old mark reads as before -/
theorem bcell {W w1 : World} (hb : Below W.heap.size W w1) : (∀ b o, b < W.heap.size → w1.cell? ⟨b, o, none⟩ = W.cell? ⟨b, o, none⟩) ∧ (∀ b o, b < W.heap.size → w1.frozen? ⟨b, o, none⟩ = W.frozen? ⟨b, o, none⟩) :=
  ⟨fun b o h => hb.cell (p := ⟨b, o, none⟩) h, fun b o h => hb.frozen (p := ⟨b, o, none⟩) h⟩

/-- A scope in which the run may jump forward to one label, once: at the jump the walk goes on with what stands behind the label. -/
theorem wp_scope_once {P : Program} {Q : Exit → Act → World → Prop} {a : Act} {w : World} {c rest : Code} (l : Nat) (hf : findLabel c l = some rest)
    (first : c.wp P (Exit.jump l (fun a w => rest.wp P (Exit.noGoto Q) a w) Q) a w) : (Code.scope c).wp P Q a w := by
  refine wp_scope_jumps l (fun a w => rest.wp P (Exit.noGoto Q) a w) (fun _ _ => 0) hf first ?_
  intro a w h
  refine wp_mono h ?_
  intro e a w q
  cases e <;> first | exact q | exact q.elim

theorem and32 (x : Int) : bits .and .i64 x 4294967295 = x % 4294967296 := bits_and_mask_i64 x 32 (by decide)

theorem ret_int {k : IntKind} {a b : Int} (h : a = b) : Ending.returned (.int k a) = .returned (.int k b) := by rw [h]
theorem ret_bool {a b : Bool} (h : a = b) : Ending.returned (.bool a) = .returned (.bool b) := by rw [h]

/-- a sum going round -/
def wadd (s n : Int) : Int := (s + n) % 4294967296
/-- how far a is behind b, going round -/
def wdiff (a b : Int) : Int := (a - b + 2147483648) % 4294967296 - 2147483648
/-- how far a is behind b, going round, from 0 on -/
def woff (a b : Int) : Int := (a - b) % 4294967296

theorem wadd_bd (s n : Int) : 0 ≤ wadd s n ∧ wadd s n < 4294967296 := by unfold wadd; omega
theorem wdiff_bd (a b : Int) : -2147483648 ≤ wdiff a b ∧ wdiff a b < 2147483648 := by unfold wdiff; omega
theorem woff_bd (a b : Int) : 0 ≤ woff a b ∧ woff a b < 4294967296 := by unfold woff; omega
attribute [irreducible] wadd wdiff woff
end Go.Proofs.Ytjmjnndmpeeppaa

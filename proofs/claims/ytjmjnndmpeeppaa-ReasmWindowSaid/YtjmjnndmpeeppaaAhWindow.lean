/- What lies beyond the window: plain law. Condition: lengths. -/
import Derived.Test.YtjmjnndmpeeppaaAhWake
namespace Go.Proofs.Ytjmjnndmpeeppaa
open Go.RowKit
set_option linter.unusedVariables false
set_option linter.unusedSimpArgs false
set_option maxRecDepth 100000
set_option maxHeartbeats 4000000

section
variable {f : Int} (hf : 0 ≤ f ∧ f ≤ 4294967295) {big : List Int}
include hf
theorem wdiff_0 : wdiff f f = 0 := by have := wdiff_self f 0 (by omega) (by omega); rwa [wadd0 hf] at this
theorem win3 : addS f [] (wadd f 2048) big = (f, [], []) := by
  have d0 : wdiff (wadd f 2048) f = 2048 := wdiff_self f 2048 (by omega) (by omega)
  have := addS_of (may0 hf) (s := wadd f 2048) (xs := big) [] [] (by decide) rfl (by decide) (fun i hi => by
    rw [winS_get _ _ _ _ _ hi, d0, if_neg (by omega)]
    rfl)
  rw [this]
  exact Prod.ext (wadd0 hf) rfl
variable (hl : big.length = 2148)
include hl
theorem win1 : addS f [] f big = (wadd f 2048, [], big.take 2048) := by
  have lt : (big.take 2048).length = 2048 := by simp; omega
  have d0 := wdiff_0 hf
  have := addS_of (may0 hf) (s := f) (xs := big) (big.take 2048) [] (by omega) rfl (by decide) (fun i hi => by
    rw [winS_get _ _ _ _ _ hi, d0]
    simp only [getP, Option.none_or, Option.or_none]
    rw [if_pos (by omega), List.getElem?_take, if_pos hi]
    simp)
  rw [lt] at this
  exact this
theorem win2 : addS f [] (wadd f (-100)) big = (wadd f 2048, [], big.drop 100) := by
  have lt : (big.drop 100).length = 2048 := by simp; omega
  have d0 : wdiff (wadd f (-100)) f = -100 := by unfold wdiff wadd; omega
  have := addS_of (may0 hf) (s := wadd f (-100)) (xs := big) (big.drop 100) [] (by omega) rfl (by decide) (fun i hi => by
    rw [winS_get _ _ _ _ _ hi, d0]
    simp only [getP, Option.none_or, Option.or_none]
    rw [if_pos (by omega), List.getElem?_drop]
    congr 1; omega)
  rw [lt] at this
  exact this
end
/-- single bytes at odd places -/
def oddQ (f : Int) (big : List Int) (j : Nat) : Nat → List Pt
  | 0 => []
  | k + 1 => (wadd f ((2 * j + 1 : Nat) : Int), [big.getD j 0]) :: oddQ f big (j + 1) k
theorem oddQ_len (f : Int) (big : List Int) : ∀ (k j : Nat), (oddQ f big j k).length = k
  | 0, _ => rfl
  | k + 1, j => by rw [oddQ, List.length_cons, oddQ_len f big k]
theorem oddQ_succ (f : Int) (big : List Int) : ∀ (k j : Nat), oddQ f big j (k + 1) = oddQ f big j k ++ [(wadd f ((2 * (j + k) + 1 : Nat) : Int), [big.getD (j + k) 0])]
  | 0, j => rfl
  | k + 1, j => by
    rw [oddQ, oddQ_succ f big k (j + 1)]
    show _ :: (oddQ f big (j + 1) k ++ _) = _
    rw [show j + 1 + k = j + (k + 1) by omega]
    rfl
theorem oddQ_may (f : Int) (big : List Int) : ∀ (k j : Nat), j + k ≤ 100 → mayGo f ((2 * j : Nat) : Int) (oddQ f big j k) = true
  | 0, _, _ => rfl
  | k + 1, j, h => by
    have e := wdiff_self f ((2 * j + 1 : Nat) : Int) (by omega) (by omega)
    have ih := oddQ_may f big k (j + 1) (by omega)
    rw [oddQ, mayGo, mayStep, within_wadd, e]
    simp only [List.length_cons, List.length_nil]
    rw [show ((2 * j + 1 : Nat) : Int) + ((0 + 1 : Nat) : Int) = ((2 * (j + 1) : Nat) : Int) by omega, ih]
    simp only [Bool.true_and, Bool.and_true, Bool.and_eq_true, decide_eq_true_eq]
    exact ⟨by omega, by omega, by omega, by omega⟩
theorem getP_app (n : Int) : ∀ (ps qs : List Pt) (i : Nat), getP n (ps ++ qs) i = (getP n ps i).or (getP n qs i)
  | [], qs, i => by simp [getP]
  | p :: ps, qs, i => by simp only [List.cons_append, getP, getP_app n ps qs i, Option.or_assoc]
theorem oddQ_mayB {f : Int} (hf : 0 ≤ f ∧ f ≤ 4294967295) (big : List Int) {k : Nat} (hk : k ≤ 8) : mayB f (oddQ f big 0 k) = true := by
  simp only [mayB, within_of hf, Bool.true_and, Bool.and_eq_true, decide_eq_true_eq, oddQ_len]
  exact ⟨hk, oddQ_may f big k 0 (by omega)⟩
theorem oddQ_may2 (f : Int) (big : List Int) (d : Nat) (c : Int) : ∀ (k j : Nat), j + k ≤ 100 → 2 * (j + k) < d → d ≤ 2047 → mayGo f ((2 * j : Nat) : Int) (oddQ f big j k ++ [(wadd f d, [c])]) = true
  | 0, j, h, h1, h2 => by
    have e := wdiff_self f (d : Int) (by omega) (by omega)
    rw [oddQ, List.nil_append, mayGo, mayStep, within_wadd, e]
    simp only [mayGo, List.length_cons, List.length_nil, Bool.true_and, Bool.and_true, Bool.and_eq_true, decide_eq_true_eq]
    exact ⟨by omega, by omega, by omega, by omega⟩
  | k + 1, j, h, h1, h2 => by
    have e := wdiff_self f ((2 * j + 1 : Nat) : Int) (by omega) (by omega)
    have ih := oddQ_may2 f big d c k (j + 1) (by omega) (by omega) h2
    rw [oddQ, List.cons_append, mayGo, mayStep, within_wadd, e]
    simp only [List.length_cons, List.length_nil]
    rw [show ((2 * j + 1 : Nat) : Int) + ((0 + 1 : Nat) : Int) = ((2 * (j + 1) : Nat) : Int) by omega, ih]
    simp only [Bool.true_and, Bool.and_true, Bool.and_eq_true, decide_eq_true_eq]
    exact ⟨by omega, by omega, by omega, by omega⟩
/-- the next one comes: it is taken, or let go where there is no room -/
theorem odd_add {f : Int} (hf : 0 ≤ f ∧ f ≤ 4294967295) (big : List Int) {k i : Nat} (hk : k ≤ 8) (hi : i ≤ 9) (hki : k = min i 8) : addS f (oddQ f big 0 k) (wadd f ((2 * i + 1 : Nat) : Int)) [big.getD i 0] = (f, oddQ f big 0 (min (i + 1) 8), []) := by
  have hm := oddQ_mayB hf big hk
  have d0 := wdiff_self f ((2 * i + 1 : Nat) : Int) (by omega) (by omega)
  rw [addS_rea hm]
  have hq := oddQ_may2 f big (2 * i + 1) (big.getD i 0) k 0 (by omega) (by omega) (by omega)
  have key := reaS_of (n := f) (ps := oddQ f big 0 k) (s := wadd f ((2 * i + 1 : Nat) : Int)) (xs := [big.getD i 0]) [] (oddQ f big 0 k ++ [(wadd f ((2 * i + 1 : Nat) : Int), [big.getD i 0])]) (by simp) hq (fun i' hi' => by
    rw [winS_get _ _ _ _ _ hi', d0, getP_app]
    simp only [List.getElem?_nil, Option.none_or]
    congr 1
    simp only [getP, d0, Option.or_none]
    rw [Int.toNat_natCast]
    by_cases h1 : 2 * i + 1 ≤ i'
    · rw [if_pos h1]
      by_cases h2 : i' = 2 * i + 1
      · subst h2
        rw [if_pos ⟨by omega, by simp⟩]
        simp
      · rw [if_neg (by simp; omega), List.getElem?_eq_none (by simp; omega)]
    · rw [if_neg h1, if_neg (by omega)])
  rw [key]
  have hl : (oddQ f big 0 k ++ [(wadd f ((2 * i + 1 : Nat) : Int), [big.getD i 0])]).length = k + 1 := by simp [oddQ_len]
  rw [hl]
  by_cases h8 : 8 < k + 1
  · rw [if_pos h8]
    have : k = 8 := by omega
    subst this
    rw [show min (i + 1) 8 = 8 by omega]
  · rw [if_neg h8]
    have hki2 : k = i := by omega
    subst hki2
    rw [show min (k + 1) 8 = k + 1 by omega, oddQ_succ]
    simp only [Nat.zero_add, List.length_nil]
    exact Prod.ext (wadd0 hf) rfl
/-- the first byte comes at last -/
theorem odd_last {f : Int} (hf : 0 ≤ f ∧ f ≤ 4294967295) (big : List Int) (h0 : big.getD 0 0 = 0) : addS f (oddQ f big 0 8) f [0] = (wadd f 2, oddQ f big 1 7, [0, 0]) := by
  have hm := oddQ_mayB hf big (k := 8) (Nat.le_refl _)
  have d0 : wdiff f f = 0 := by have := wdiff_self f 0 (by omega) (by omega); rwa [wadd0 hf] at this
  have d1 : wdiff (wadd f ((2 * 0 + 1 : Nat) : Int)) f = 1 := wdiff_self f 1 (by omega) (by omega)
  have hq := oddQ_may f big 7 1 (by omega)
  rw [addS_rea hm]
  have key := reaS_of (n := f) (ps := oddQ f big 0 8) (s := f) (xs := [0]) [0, 0] (oddQ f big 1 7) (by simp) hq (fun i hi => by
    rw [winS_get _ _ _ _ _ hi, d0, oddQ, getP, d1, h0]
    rcases i with _ | _ | i
    · have := getP_none (oddQ f big 1 7) 2 0 (by omega) hq (by omega)
      simp [this]
    · simp
    · rw [if_pos (by simp), if_neg (by simp; omega)]
      simp)
  rw [key, oddQ_len, if_neg (by omega)]
  rfl
end Go.Proofs.Ytjmjnndmpeeppaa

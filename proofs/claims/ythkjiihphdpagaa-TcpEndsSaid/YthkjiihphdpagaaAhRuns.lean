/- The runs of a window: plain law. No condition. -/
import Derived.Test.YthkjiihphdpagaaPkAB
namespace Go.Proofs.Ythkjiihphdpagaa
open Go.RowKit
set_option linter.unusedVariables false
set_option linter.unusedSimpArgs false

abbrev Win := List (Option Int)
def isS (w : Win) (i : Nat) : Bool := (w.getD i none).isSome
def vals (w : Win) : List Int := w.map fun o => o.getD 0
def seg (w : Win) (j m : Nat) : List Int := ((vals w).drop j).take (m - j)
def addLast (c : Int) : List Pt → List Pt
  | [] => []
  | [p] => [(p.1, p.2 ++ [c])]
  | p :: q :: l => p :: addLast c (q :: l)
theorem addLast_snoc (c : Int) (p : Pt) : ∀ l : List Pt, addLast c (l ++ [p]) = l ++ [(p.1, p.2 ++ [c])]
  | [] => rfl
  | [q] => rfl
  | q :: r :: l => by
    have := addLast_snoc c p (r :: l)
    simp only [List.cons_append] at this ⊢
    rw [addLast, this]
/-- the runs from t on, below n -/
def runsT (nx : Int) (w : Win) (t : Nat) : Nat → List Pt
  | 0 => []
  | n + 1 => if n < t then [] else if isS w n then (if t < n ∧ isS w (n - 1) then addLast ((vals w).getD n 0) (runsT nx w t n) else runsT nx w t n ++ [(wadd nx n, [(vals w).getD n 0])]) else runsT nx w t n
theorem runsT_le (nx : Int) (w : Win) (t : Nat) : ∀ n, n ≤ t → runsT nx w t n = []
  | 0, _ => rfl
  | n + 1, h => by rw [runsT, if_pos (by omega)]
theorem runsT_no {nx : Int} {w : Win} {t n : Nat} (h : isS w n = false) : runsT nx w t (n + 1) = runsT nx w t n := by
  rw [runsT]
  split
  · rw [runsT_le nx w t n (by omega)]
  · simp [h]
theorem runsT_y1 {nx : Int} {w : Win} {t n : Nat} (ht : t < n) (hs : isS w n = true) (hp : isS w (n - 1) = true) : runsT nx w t (n + 1) = addLast ((vals w).getD n 0) (runsT nx w t n) := by
  rw [runsT, if_neg (by omega), hs, if_pos rfl, if_pos ⟨ht, hp⟩]
theorem runsT_y2 {nx : Int} {w : Win} {t n : Nat} (ht : t ≤ n) (hs : isS w n = true) (hp : t = n ∨ isS w (n - 1) = false) : runsT nx w t (n + 1) = runsT nx w t n ++ [(wadd nx n, [(vals w).getD n 0])] := by
  rw [runsT, if_neg (by omega), hs, if_pos rfl, if_neg (by rintro ⟨h1, h2⟩; rcases hp with h | h; omega; rw [h] at h2; cases h2)]
theorem vals_len (w : Win) : (vals w).length = w.length := by simp [vals]
theorem seg_one {w : Win} {j : Nat} (h : j < w.length) : seg w j (j + 1) = [(vals w).getD j 0] := by
  have h' : j < (vals w).length := by rw [vals_len]; exact h
  unfold seg
  rw [show j + 1 - j = 0 + 1 by omega, List.drop_eq_getElem_cons h', List.take_succ_cons, List.take_zero]
  simp [List.getD, h']
theorem seg_snoc {w : Win} {j m : Nat} (hj : j ≤ m) (h : m < w.length) : seg w j (m + 1) = seg w j m ++ [(vals w).getD m 0] := by
  have h' : m < (vals w).length := by rw [vals_len]; exact h
  unfold seg
  rw [show m + 1 - j = (m - j) + 1 by omega, List.take_add_one]
  congr 1
  rw [List.getElem?_drop, show j + (m - j) = m by omega]
  simp [List.getD, h']
/-- a run is one piece -/
theorem runsT_run {nx : Int} {w : Win} {t j : Nat} (ht : t ≤ j) (hb : j = t ∨ isS w (j - 1) = false) : ∀ m, j < m → m ≤ w.length → (∀ i, j ≤ i → i < m → isS w i = true) → runsT nx w t m = runsT nx w t j ++ [(wadd nx j, seg w j m)]
  | 0, h, _, _ => by omega
  | m + 1, h, hl, hs => by
    rw [runsT, if_neg (by omega), hs m (by omega) (by omega), if_pos rfl]
    by_cases e : m = j
    · subst e
      rw [if_neg (by rintro ⟨h1, h2⟩; rcases hb with rfl | hb; omega; rw [hb] at h2; cases h2), seg_one (by omega)]
    · rw [if_pos ⟨by omega, hs (m - 1) (by omega) (by omega)⟩, runsT_run ht hb m (by omega) (by omega) (fun i h1 h2 => hs i h1 (by omega)), addLast_snoc, seg_snoc (by omega) (by omega)]
/-- nothing for a while -/
theorem runsT_skip {nx : Int} {w : Win} {t j : Nat} : ∀ m, j ≤ m → (∀ i, j ≤ i → i < m → isS w i = false) → runsT nx w t m = runsT nx w t j
  | 0, h, _ => by have : j = 0 := by omega
                  rw [this]
  | m + 1, h, hs => by
    by_cases e : m + 1 = j
    · rw [e]
    · rw [runsT_no (hs m (by omega) (by omega)), runsT_skip m (by omega) (fun i h1 h2 => hs i h1 (by omega))]
theorem runsT_ne {nx : Int} {w : Win} {t n : Nat} (ht : t ≤ n) (hs : isS w n = true) : runsT nx w t (n + 1) ≠ [] := by
  rw [runsT, if_neg (by omega), hs, if_pos rfl]
  split
  · rename_i h
    obtain ⟨h1, h2⟩ := h
    have := runsT_ne (nx := nx) (t := t) (n := n - 1) (by omega) h2
    rw [show n - 1 + 1 = n by omega] at this
    obtain ⟨l, p, e⟩ : ∃ l p, runsT nx w t n = l ++ [p] := ⟨_, _, (List.dropLast_concat_getLast this).symm⟩
    rw [e, addLast_snoc]
    simp
  · simp
termination_by n
decreasing_by omega
/-- the first run apart -/
theorem runsT_split {nx : Int} {w : Win} {t : Nat} (ht : isS w t = false) (hs : ∀ i, i < t → isS w i = true) (hl : t ≤ w.length) : ∀ n, t ≤ n → runsT nx w 0 n = (if t = 0 then [] else [(wadd nx 0, seg w 0 t)]) ++ runsT nx w t n
  | 0, h => by have : t = 0 := by omega
               subst this; rfl
  | n + 1, h => by
    by_cases e : n + 1 = t
    · rw [runsT_le nx w t _ (by omega), if_neg (by omega), ← e, runsT_run (j := 0) (Nat.le_refl _) (.inl rfl) (n + 1) (by omega) (by omega) (fun i _ h2 => hs i (by omega)), runsT_le nx w 0 0 (Nat.le_refl _)]
      rfl
    · have ih := runsT_split (nx := nx) ht hs hl n (by omega)
      cases hn : isS w n with
      | false => rw [runsT_no hn, runsT_no hn, ih]
      | true =>
        have hnt : n ≠ t := by rintro rfl; rw [ht] at hn; cases hn
        cases hp : isS w (n - 1) with
        | false => rw [runsT_y2 (by omega) hn (.inr hp), runsT_y2 (by omega) hn (.inr hp), ih, List.append_assoc]
        | true =>
          have h1 : n - 1 ≠ t := by intro e2; rw [e2, ht] at hp; cases hp
          have hne := runsT_ne (nx := nx) (t := t) (n := n - 1) (by omega) hp
          rw [show n - 1 + 1 = n by omega] at hne
          obtain ⟨l, p, e⟩ : ∃ l p, runsT nx w t n = l ++ [p] := ⟨_, _, (List.dropLast_concat_getLast hne).symm⟩
          rw [runsT_y1 (by omega) hn hp, runsT_y1 (by omega) hn hp, ih, e, ← List.append_assoc, addLast_snoc, addLast_snoc, List.append_assoc]
theorem addLast_len (c : Int) : ∀ l : List Pt, (addLast c l).length = l.length
  | [] => rfl
  | [p] => rfl
  | p :: q :: l => by rw [addLast, List.length_cons, addLast_len c (q :: l)]; rfl
theorem runsT_len (nx : Int) (w : Win) (t : Nat) : ∀ n, (runsT nx w t n).length ≤ n
  | 0 => Nat.le_refl _
  | n + 1 => by
    have := runsT_len nx w t n
    rw [runsT]
    split
    · simp
    · split
      · split
        · rw [addLast_len]; omega
        · simp; omega
      · omega
end Go.Proofs.Ythkjiihphdpagaa

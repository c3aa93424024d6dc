/- Contracts and plain laws, one behind the other: AhPut, AhWin. Conditions are said at each. -/
import Derived.Test.YtceohcbokbalhaaGreatAhRunsX
/- Bytes come to a buffer: on data. No condition but lengths. -/
namespace Go.Proofs.YtceohcbokbalhaaGreat
open Go.RowKit
set_option linter.unusedVariables false
set_option linter.unusedSimpArgs false
set_option maxRecDepth 100000
set_option maxHeartbeats 4000000
theorem slG' {P : Program} {o : Oper} {sl : List AV} {h : List Own} {t e : TypeId} {x : Operand} {rd : List (Nat × Own)} {r sz : Nat} {rows rows' : List (List AV)} {lo hi mx : Option Operand} {l hh mm : Option Int} (ho : o.op = .slice t x lo hi mx) (hx : ae sl x = .glist r sz rows) (hlo : abnd sl lo = some l) (hhi : abnd sl hi = some hh) (hmx : abnd sl mx = some mm) (he : elemT P t = some e) (hs : sizeT P e = some sz) (hl : alive (ofL h) (.glist r sz rows) = some rd)
    (hc : 0 ≤ l.getD 0 ∧ l.getD 0 ≤ hh.getD rows.length ∧ hh.getD rows.length ≤ mm.getD rows.length ∧ mm.getD rows.length ≤ rows.length ∧ (mm = none ∨ hh ≠ none)) (hr : (rows.drop (l.getD 0).toNat).take (hh.getD rows.length - l.getD 0).toNat = rows') : aop P o sl h = some ⟨.list r sz rows', rd, []⟩ := hr ▸ slG ho hx hlo hhi hmx he hs hl hc
theorem mayGo_in (n : Int) : ∀ (ps : List Pt) (e : Int), 0 ≤ e → mayGo n e ps = true → PtsIn n ps
  | [], _, _, _ => fun p hp => by cases hp
  | p :: ps, e, he, h => by
    simp only [mayGo, mayStep, Bool.and_eq_true, decide_eq_true_eq] at h
    obtain ⟨⟨h1, h2, h3, h4, h5⟩, h6⟩ := h
    intro q hq
    rcases List.mem_cons.1 hq with rfl | hq
    · exact ⟨by omega, by omega⟩
    · exact mayGo_in n ps _ (by omega) h6 q hq
theorem mayB_in {n : Int} {ps : List Pt} (h : mayB n ps = true) : (0 ≤ n ∧ n ≤ 4294967295) ∧ ps.length ≤ 8 ∧ PtsIn n ps := by
  simp only [mayB, Bool.and_eq_true, decide_eq_true_eq] at h
  exact ⟨within_t h.1, h.2.1, mayGo_in n ps 0 (Int.le_refl _) h.2.2⟩
end Go.Proofs.YtceohcbokbalhaaGreat

/- The window of a buffer: plain law. No condition but bounds. -/
namespace Go.Proofs.YtceohcbokbalhaaGreat
open Go.RowKit
set_option linter.unusedVariables false
set_option linter.unusedSimpArgs false
abbrev at_ (w : Win) (i : Nat) : Option Int := w.getD i none
theorem seg_len {w : Win} {j m : Nat} (h : m ≤ w.length) : (seg w j m).length = m - j := by
  unfold seg
  simp [vals_len]; omega
def lead : Win → Nat
  | some _ :: w => lead w + 1
  | _ => 0
theorem lead_le : ∀ w : Win, lead w ≤ w.length
  | [] => Nat.le_refl _
  | some _ :: w => by have := lead_le w; simp only [lead, List.length_cons]; omega
  | none :: w => Nat.zero_le _
theorem lead_no : ∀ w : Win, isS w (lead w) = false
  | [] => rfl
  | some c :: w => by
    have := lead_no w
    simpa [isS, List.getD, lead] using this
  | none :: w => rfl
theorem isS_out {w : Win} {i : Nat} (h : w.length ≤ i) : isS w i = false := by simp [isS, List.getD, List.getElem?_eq_none h]
def winS (n : Int) (ps : List Pt) (s : Int) (xs : List Int) : Win :=
  layW (layP n win0 ps) (max (wdiff s n) 0).toNat ((xs.drop (max (wdiff s n) 0 - wdiff s n).toNat).take (min (wdiff s n + xs.length) 2048 - max (wdiff s n) 0).toNat)
theorem winS_len (n : Int) (ps : List Pt) (s : Int) (xs : List Int) : (winS n ps s xs).length = 2048 := by rw [winS, layW_len, layP_len, win0_len]
def reaS (n : Int) (ps : List Pt) (s : Int) (xs : List Int) : Int × List Pt × List Int :=
  if 8 < (runsT n (winS n ps s xs) (lead (winS n ps s xs)) 2048).length then (n, ps, []) else
    (wadd n (lead (winS n ps s xs)), runsT n (winS n ps s xs) (lead (winS n ps s xs)) 2048, seg (winS n ps s xs) 0 (lead (winS n ps s xs)))
theorem find_end (f : Nat → Bool) (b : Bool) (hi : Nat) : ∀ (k lo : Nat), hi - lo = k → lo ≤ hi → ∃ j, lo ≤ j ∧ j ≤ hi ∧ (∀ i, lo ≤ i → i < j → f i = b) ∧ (j < hi → f j = !b)
  | 0, lo, hk, h => ⟨lo, Nat.le_refl _, h, fun i a c => by omega, fun a => by omega⟩
  | k + 1, lo, hk, h => by
    by_cases hf : f lo = b
    · obtain ⟨j, a, c, d, e⟩ := find_end f b hi k (lo + 1) (by omega) (by omega)
      refine ⟨j, by omega, c, fun i h1 h2 => ?_, e⟩
      by_cases hi : i = lo
      · rw [hi]; exact hf
      · exact d i (by omega) h2
    · exact ⟨lo, Nat.le_refl _, h, fun i a c => by omega, fun _ => by cases b <;> cases hv : f lo <;> simp_all⟩
theorem runsT_lo {nx : Int} {w : Win} {lo j : Nat} (hlo : lo ≤ j) (h : ∀ i, lo ≤ i → i < j → isS w i = false) : ∀ n, runsT nx w lo n = runsT nx w j n
  | 0 => rfl
  | n + 1 => by
    have ih := runsT_lo (nx := nx) hlo h n
    cases hs : isS w n with
    | false => rw [runsT_no hs, runsT_no hs, ih]
    | true =>
      by_cases h1 : n < lo
      · rw [runsT_le _ _ _ _ (by omega), runsT_le _ _ _ _ (by omega)]
      · have h2 : j ≤ n := by
          rcases Nat.lt_or_ge n j with h3 | h3
          · have := h n (by omega) h3; rw [hs] at this; cases this
          · exact h3
        cases hp : isS w (n - 1) with
        | false => rw [runsT_y2 (by omega) hs (.inr hp), runsT_y2 h2 hs (.inr hp), ih]
        | true =>
          by_cases h3 : n = j
          · by_cases h4 : lo = j
            · rw [h4]
            · have := h (n - 1) (by omega) (by omega); rw [hp] at this; cases this
          · rw [runsT_y1 (by omega) hs hp, runsT_y1 (by omega) hs hp, ih]
theorem runsT_head {nx : Int} {w : Win} {j m : Nat} (hjm : j < m) (hs : ∀ i, j ≤ i → i < m → isS w i = true) (hm : isS w m = false) (hl : m ≤ w.length) : ∀ n, m ≤ n → runsT nx w j n = (wadd nx j, seg w j m) :: runsT nx w m n
  | 0, h => by omega
  | n + 1, h => by
    by_cases e : n + 1 = m
    · have r := runsT_run (nx := nx) (w := w) (t := j) (j := j) (Nat.le_refl _) (.inl rfl) m hjm hl hs
      rw [e, r, runsT_le nx w j j (Nat.le_refl _), runsT_le nx w m m (Nat.le_refl _)]
      rfl
    · have ih := runsT_head (nx := nx) hjm hs hm hl n (by omega)
      cases hn : isS w n with
      | false => rw [runsT_no hn, runsT_no hn, ih]
      | true =>
        have hnt : n ≠ m := by rintro rfl; rw [hm] at hn; cases hn
        cases hp : isS w (n - 1) with
        | false => rw [runsT_y2 (by omega) hn (.inr hp), runsT_y2 (by omega) hn (.inr hp), ih, List.cons_append]
        | true =>
          have h1 : n - 1 ≠ m := by intro e2; rw [e2, hm] at hp; cases hp
          have hne := runsT_ne (nx := nx) (t := m) (n := n - 1) (by omega) hp
          rw [show n - 1 + 1 = n by omega] at hne
          rw [runsT_y1 (by omega) hn hp, runsT_y1 (by omega) hn hp, ih]
          cases hr : runsT nx w m n with
          | nil => exact absurd hr hne
          | cons q l => rfl
inductive Runs (nx : Int) (w : Win) : Nat → List Pt → Prop
  | nil (lo : Nat) (h : ∀ i, lo ≤ i → i < 2048 → isS w i = false) : Runs nx w lo []
  | cons (lo j m : Nat) (l : List Pt) (h1 : lo ≤ j) (h2 : j < m) (h3 : m ≤ 2048) (h4 : ∀ i, lo ≤ i → i < j → isS w i = false) (h5 : ∀ i, j ≤ i → i < m → isS w i = true) (h6 : isS w m = false) (h7 : Runs nx w m l) : Runs nx w lo ((wadd nx j, seg w j m) :: l)
theorem runsT_runs {nx : Int} {w : Win} (hw : w.length = 2048) : ∀ (k lo : Nat), 2048 - lo = k → lo ≤ 2048 → Runs nx w lo (runsT nx w lo 2048) := by
  intro k
  induction k using Nat.strongRecOn with
  | ind k ih =>
    intro lo hk hlo
    obtain ⟨j, a, b, c, d⟩ := find_end (isS w) false 2048 _ lo rfl hlo
    rw [runsT_lo a c]
    rcases Nat.lt_or_ge j 2048 with hj | hj
    · obtain ⟨m, a2, b2, c2, d2⟩ := find_end (isS w) true 2048 _ j rfl b
      have hjm : j < m := by
        rcases Nat.lt_or_ge j m with h | h
        · exact h
        · have : j = m := by omega
          have h1 := d hj
          have h2 := d2 (by omega)
          rw [← this, h1] at h2; cases h2
      have hm : isS w m = false := by
        rcases Nat.lt_or_ge m 2048 with h | h
        · exact d2 h
        · exact isS_out (by omega)
      rw [runsT_head hjm c2 hm (by omega) 2048 b2]
      exact .cons lo j m _ a hjm b2 c c2 hm (ih (2048 - m) (by omega) m rfl b2)
    · rw [runsT_le _ _ _ _ hj]
      exact .nil lo fun i h1 h2 => c i h1 (by omega)
theorem wdiff_add2 (n : Int) {a b : Int} (h0 : 0 ≤ a - b) (h1 : a - b < 2147483648) : wdiff (wadd n a) (wadd n b) = a - b := by
  unfold wdiff wadd
  omega
theorem within_wadd (a b : Int) : within (wadd a b) 4294967295 = true := by
  have := wadd_bd a b
  simp only [within, Bool.and_eq_true, decide_eq_true_eq]
  omega
theorem Runs.may {nx : Int} {w : Win} (hw : w.length = 2048) {t : Nat} : ∀ {lo : Nat} {l : List Pt}, Runs nx w lo l → t ≤ lo → isS w lo = false → mayGo (wadd nx t) ((lo : Int) - t) l = true := by
  intro lo l h
  induction h with
  | nil lo h => intro _ _; rfl
  | cons lo j m l h1 h2 h3 h4 h5 h6 h7 ih =>
    intro ht h0
    have hlj : lo < j := by
      rcases Nat.lt_or_ge lo j with h | h
      · exact h
      · have : lo = j := by omega
        subst this
        have := h5 lo (Nat.le_refl _) h2
        rw [h0] at this; cases this
    have e := wdiff_add2 nx (a := j) (b := t) (by omega) (by omega)
    have sl := seg_len (w := w) (j := j) (m := m) (by omega)
    rw [mayGo, mayStep, within_wadd, e, sl]
    have := ih (by omega) h6
    rw [show ((j : Int) - t + ((m - j : Nat) : Int)) = (m : Int) - t by omega, this]
    simp only [Bool.true_and, Bool.and_true, Bool.and_eq_true, decide_eq_true_eq]
    exact ⟨by omega, by omega, by omega, by omega⟩
end Go.Proofs.YtceohcbokbalhaaGreat

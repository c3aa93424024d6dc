/- A stream's pieces in whatever order: plain law. Condition: bounds on lengths. -/
import Derived.Test.YtjmjnndmpeeppaaAhWake
import Derived.Test.YtjmjnndmpeeppaaAhRef
namespace Go.Proofs.Ytjmjnndmpeeppaa
open Go.RowKit
set_option linter.unusedVariables false
set_option linter.unusedSimpArgs false
set_option maxRecDepth 100000
set_option maxHeartbeats 4000000

theorem wdiff_near (f : Int) {a b : Int} (h0 : -2147483648 < a - b) (h1 : a - b < 2147483648) : wdiff (wadd f a) (wadd f b) = a - b := by
  unfold wdiff wadd
  omega
theorem runsT_congr {nx : Int} {w v : Win} {lo : Nat} (h : ∀ i, lo ≤ i → at_ w i = at_ v i) : ∀ n, runsT nx w lo n = runsT nx v lo n
  | 0 => rfl
  | n + 1 => by
    have ih := runsT_congr (nx := nx) h n
    by_cases hn : n < lo
    · rw [runsT_le _ _ _ _ (by omega), runsT_le _ _ _ _ (by omega)]
    · have e := h n (by omega)
      have es : isS w n = isS v n := by rw [at_isS, at_isS, e]
      cases hs : isS w n with
      | false => rw [runsT_no hs, runsT_no (es ▸ hs), ih]
      | true =>
        have hv := es ▸ hs
        have ev : (vals w).getD n 0 = (vals v).getD n 0 := by
          have h1 := at_vals hs
          have h2 := at_vals hv
          rw [e, h2] at h1
          exact (Option.some.inj h1).symm
        by_cases hl : n = lo
        · rw [runsT_y2 (by omega) hs (.inl hl.symm), runsT_y2 (by omega) hv (.inl hl.symm), ih, ev]
        · have e2 : isS w (n - 1) = isS v (n - 1) := by rw [at_isS, at_isS, h (n - 1) (by omega)]
          cases hp : isS w (n - 1) with
          | false => rw [runsT_y2 (by omega) hs (.inr hp), runsT_y2 (by omega) hv (.inr (e2 ▸ hp)), ih, ev]
          | true => rw [runsT_y1 (by omega) hs hp, runsT_y1 (by omega) hv (e2 ▸ hp), ih, ev]
theorem runsT_fewer (nx : Int) (w : Win) (t : Nat) : ∀ n, (runsT nx w t n).length ≤ (runsT nx w 0 n).length
  | 0 => Nat.le_refl _
  | n + 1 => by
    have ih := runsT_fewer nx w t n
    by_cases hn : n < t
    · rw [runsT_le _ _ _ _ (by omega)]; simp
    · cases hs : isS w n with
      | false => rw [runsT_no hs, runsT_no hs]; exact ih
      | true =>
        by_cases hl : n = t
        · rw [runsT_y2 (by omega) hs (.inl hl.symm), runsT_le _ _ _ _ (by omega)]
          have := runsT_ne (nx := nx) (Nat.zero_le n) hs
          have h2 := List.length_pos_iff.2 this
          simp; omega
        · cases hp : isS w (n - 1) with
          | false => rw [runsT_y2 (by omega) hs (.inr hp), runsT_y2 (by omega) hs (.inr hp)]; simp; omega
          | true => rw [runsT_y1 (by omega) hs hp, runsT_y1 (by omega) hs hp, addLast_len, addLast_len]; exact ih
theorem Runs.out {nx : Int} {w : Win} (hw : w.length = 2048) {t : Nat} : ∀ {lo : Nat} {l : List Pt}, Runs nx w lo l → t ≤ lo → ∀ i : Nat, 2048 ≤ t + i → getP (wadd nx t) l i = none := by
  intro lo l h
  induction h with
  | nil lo h => intro _ i _; rfl
  | cons lo j m l h1 h2 h3 h4 h5 h6 h7 ih =>
    intro ht i hi
    have e := wdiff_add2 nx (a := j) (b := t) (by omega) (by omega)
    have sl := seg_len (w := w) (j := j) (m := m) (by omega)
    rw [getP, ih (by omega) i hi]
    simp only [e]
    rw [show ((j : Int) - t).toNat = j - t by omega]
    split
    · rw [List.getElem?_eq_none (by omega)]; rfl
    · rfl
/-- what holds of a buffer of a stream, of which so much was told -/
structure StInv (B : List Int) (f : Int) (t : Nat) (n : Int) (ps : List Pt) : Prop where
  le : t ≤ B.length
  nx : n = wadd f t
  may : mayB n ps = true
  has : ∀ (i : Nat) (c : Int), getP n ps i = some c → B[t + i]? = some c
section
variable {B : List Int} {f : Int} {t : Nat} {n : Int} {ps : List Pt} {a size : Nat}
theorem StInv.win (h : StInv B f t n ps) (hB : B.length ≤ 3000) (ha : a ≤ B.length) (hs : size ≤ 200) {i : Nat} (hi : i < 2048) {c : Int} (hc : at_ (winS n ps (wadd f a) ((B.drop a).take size)) i = some c) : B[t + i]? = some c := by
  rw [winS_get _ _ _ _ _ hi] at hc
  cases hg : getP n ps i with
  | some c' => rw [hg] at hc; cases hc; exact h.has i _ hg
  | none =>
    rw [hg] at hc
    have hle := h.le
    have e := wdiff_near f (a := a) (b := t) (by omega) (by omega)
    rw [← h.nx] at e
    rw [e] at hc
    simp only [Option.none_or] at hc
    split at hc
    · rename_i hcond
      rw [List.getElem?_take] at hc
      split at hc
      · rw [List.getElem?_drop] at hc
        rw [show t + i = a + ((i : Int) - ((a : Int) - t)).toNat by omega]
        exact hc
      · cases hc
    · cases hc
theorem StInv.step (h : StInv B f t n ps) (hB : B.length ≤ 3000) (ha : a ≤ B.length) (hs : size ≤ 200) :
    ∃ t', t ≤ t' ∧ StInv B f t' (reaS n ps (wadd f a) ((B.drop a).take size)).1 (reaS n ps (wadd f a) ((B.drop a).take size)).2.1 ∧ (reaS n ps (wadd f a) ((B.drop a).take size)).2.2 = (B.drop t).take (t' - t) ∧
      (a ≤ t → a + size ≤ t' ∨ t' = B.length) := by
  obtain ⟨W, hW⟩ : ∃ W, winS n ps (wadd f a) ((B.drop a).take size) = W := ⟨_, rfl⟩
  have lW : W.length = 2048 := by rw [← hW, winS_len]
  have hwin : ∀ (i : Nat) (c : Int), i < 2048 → at_ W i = some c → B[t + i]? = some c := fun i c hi hc => h.win hB ha hs hi (by rw [hW]; exact hc)
  have hL := lead_le W
  rw [lW] at hL
  have hle := h.le
  have hall := lead_all W
  obtain ⟨L, hLe⟩ : ∃ L, lead W = L := ⟨_, rfl⟩
  have hno := lead_no W
  rw [hLe] at hL hall hno
  have hin : ∀ i, i < L → ∃ c, at_ W i = some c ∧ B[t + i]? = some c := fun i hi => by
    have h1 := hall i hi
    rw [at_isS] at h1
    obtain ⟨c, hc⟩ := Option.isSome_iff_exists.1 h1
    exact ⟨c, hc, hwin i c (by omega) hc⟩
  have htL : t + L ≤ B.length := by
    rcases Nat.eq_zero_or_pos L with h0 | h0
    · omega
    · obtain ⟨c, _, hc⟩ := hin (L - 1) (by omega)
      have := (List.getElem?_eq_some_iff.1 hc).1
      omega
  have hseg : seg W 0 L = (B.drop t).take L := by
    refine List.ext_getElem? fun k => ?_
    by_cases hk : k < L
    · have h1 := seg_get (w := W) (j := 0) (m := L) (k := k) (by omega) (by rw [Nat.zero_add]; exact hall k hk)
      obtain ⟨c, hc1, hc2⟩ := hin k hk
      rw [h1, Nat.zero_add, hc1, List.getElem?_take, if_pos hk, List.getElem?_drop, hc2]
    · rw [List.getElem?_eq_none (by rw [seg_len (by omega)]; omega), List.getElem?_eq_none (by simp; omega)]
  -- what the data themselves lay
  have hd : wdiff (wadd f a) n = (a : Int) - t := by
    have e := wdiff_near f (a := a) (b := t) (by omega) (by omega)
    rw [← h.nx] at e; exact e
  have hlen : ((B.drop a).take size).length = min size (B.length - a) := by simp
  have hlead : a ≤ t → t < min (a + size) B.length → min (a + size) B.length ≤ t + L ∧ (runsT n W L 2048).length ≤ 8 := fun hat hlt => by
    have hcov : ∀ i, i < min (a + size) B.length - t → isS W i = true := fun i hi => by
      have g := winS_get n ps (wadd f a) ((B.drop a).take size) i (by omega)
      rw [hW, hd, if_pos (by rw [hlen]; omega)] at g
      rw [isS_of g]
      cases getP n ps i with
      | some c => rfl
      | none =>
        rw [Option.none_or, List.getElem?_eq_getElem (by rw [hlen]; omega)]
        rfl
    have h1 : min (a + size) B.length - t ≤ L := by
      rcases Nat.lt_or_ge L (min (a + size) B.length - t) with h | h
      · have := hcov L h; rw [hno] at this; cases this
      · exact h
    refine ⟨by omega, ?_⟩
    have hc : ∀ i, L ≤ i → at_ W i = at_ (layP n win0 ps) i := fun i hi => by
      rcases Nat.lt_or_ge i 2048 with h2 | h2
      · rw [← hW, winS_get _ _ _ _ _ h2, win_get n ps i h2, hd, if_neg (by rw [hlen]; omega), Option.or_none]
      · simp only [at_, List.getD, List.getElem?_eq_none (show W.length ≤ i by omega), List.getElem?_eq_none (show (layP n win0 ps).length ≤ i by rw [layP_len, win0_len]; omega)]
    rw [runsT_congr hc]
    refine Nat.le_trans (runsT_fewer n _ L 2048) ?_
    have r := runs_pieces n (layP n win0 ps) (by rw [layP_len, win0_len]) 0 ps [] 0 (mayB_go h.may) (Nat.le_refl _) (by omega) (fun i _ h2 => win_get n ps i h2) rfl
    rw [r, List.nil_append]
    exact (mayB_in h.may).2.1
  unfold reaS
  rw [hW, hLe]
  by_cases h8 : 8 < (runsT n W L 2048).length
  · rw [if_pos h8]
    refine ⟨t, Nat.le_refl _, h, by simp, fun hat => ?_⟩
    rcases Nat.lt_or_ge t (min (a + size) B.length) with hlt | hge
    · have := (hlead hat hlt).2; omega
    · omega
  · rw [if_neg h8]
    have hruns := runsT_runs (nx := n) lW (2048 - L) L rfl hL
    have hmg := hruns.may lW (Nat.le_refl L) hno
    rw [show (L : Int) - L = 0 by omega] at hmg
    refine ⟨t + L, by omega, ⟨htL, ?_, ?_, fun i c hc => ?_⟩, ?_, fun hat => ?_⟩
    · show wadd n L = wadd f ((t + L : Nat) : Int)
      rw [h.nx, wadd_wadd]; congr 1
    · simp only [mayB, within_wadd, hmg, Bool.true_and, Bool.and_true, decide_eq_true_eq]; omega
    · dsimp only at hc
      rcases Nat.lt_or_ge (L + i) 2048 with hi | hi
      · rw [hruns.get lW (Nat.le_refl L) i (by omega) hi] at hc
        rw [Nat.add_assoc]
        exact hwin (L + i) c hi hc
      · rw [hruns.out lW (Nat.le_refl L) i hi] at hc; cases hc
    · show seg W 0 L = _
      rw [hseg]; congr 1; omega
    · rcases Nat.lt_or_ge t (min (a + size) B.length) with hlt | hge
      · have := (hlead hat hlt).1; omega
      · omega
theorem StInv.last (h : StInv B f B.length n ps) : ps = [] := by
  cases ps with
  | nil => rfl
  | cons p ps =>
    exfalso
    have hg := mayB_go h.may
    simp only [mayGo, mayStep, Bool.and_eq_true, decide_eq_true_eq] at hg
    obtain ⟨⟨_, h2, h3, _, _⟩, _⟩ := hg
    have := h.has (wdiff p.1 n).toNat (p.2[0]'(by omega)) (by
      rw [getP, if_pos (Nat.le_refl _), Nat.sub_self, List.getElem?_eq_getElem (by omega)]; rfl)
    have := (List.getElem?_eq_some_iff.1 this).1
    omega
end
end Go.Proofs.Ytjmjnndmpeeppaa

/- The window of a buffer: plain law. No condition but bounds. -/
import Derived.Test.YtjmjnndmpeeppaaAhPut
namespace Go.Proofs.Ytjmjnndmpeeppaa
open Go.RowKit
set_option linter.unusedVariables false
set_option linter.unusedSimpArgs false

/-- the byte at an offset -/
abbrev at_ (w : Win) (i : Nat) : Option Int := w.getD i none
theorem at_isS (w : Win) (i : Nat) : isS w i = (at_ w i).isSome := rfl
theorem at_vals {w : Win} {i : Nat} (h : isS w i = true) : at_ w i = some ((vals w).getD i 0) := by
  simp only [isS, at_, List.getD, vals, List.getElem?_map] at h ⊢
  cases hw : w[i]? with
  | none => rw [hw] at h; cases h
  | some o =>
    cases o with
    | none => rw [hw] at h; cases h
    | some c => rfl
theorem at_lt {w : Win} {i : Nat} (h : isS w i = true) : i < w.length := by
  rcases Nat.lt_or_ge i w.length with h' | h'
  · exact h'
  · simp [isS, List.getD, List.getElem?_eq_none h'] at h
theorem lay1_get (w : Win) (a : Nat) (c : Int) (i : Nat) (hi : i < w.length) : at_ (lay1 w a c) i = (at_ w i).or (if i = a then some c else none) := by
  unfold lay1
  split
  · rename_i e
    by_cases h : i = a
    · subst h
      have hi' := (List.getElem?_eq_some_iff.1 e).1
      simp only [at_, List.getD, List.getElem?_set_self hi', e, if_true]; rfl
    · simp only [at_, List.getD, List.getElem?_set_ne (Ne.symm h), if_neg h, Option.or_none]
  · rename_i e
    by_cases h : i = a
    · subst h
      obtain ⟨o, ho⟩ : ∃ o, w[i]? = some o := ⟨_, List.getElem?_eq_getElem hi⟩
      cases o with
      | none => exact absurd ho e
      | some c' => simp [at_, List.getD, ho]
    · simp [if_neg h]
theorem layW_get : ∀ (cs : List Int) (w : Win) (a i : Nat), i < w.length → at_ (layW w a cs) i = (at_ w i).or (if a ≤ i then cs[i - a]? else none)
  | [], w, a, i, hi => by simp [layW]
  | c :: cs, w, a, i, hi => by
    rw [layW, layW_get cs _ _ _ (by rw [lay1_len]; exact hi), lay1_get w a c i hi, Option.or_assoc]
    congr 1
    by_cases h : i = a
    · subst h; simp
    · by_cases h2 : a ≤ i
      · obtain ⟨k, hk⟩ : ∃ k, i - a = k + 1 := ⟨i - a - 1, by omega⟩
        rw [if_neg h, if_pos (by omega), if_pos h2, hk, show i - (a + 1) = k by omega]
        simp
      · rw [if_neg h, if_neg (by omega), if_neg h2]; rfl
def getP (n : Int) : List Pt → Nat → Option Int
  | [], _ => none
  | p :: ps, i => (if (wdiff p.1 n).toNat ≤ i then p.2[i - (wdiff p.1 n).toNat]? else none).or (getP n ps i)
theorem layP_get (n : Int) : ∀ (ps : List Pt) (w : Win) (i : Nat), i < w.length → at_ (layP n w ps) i = (at_ w i).or (getP n ps i)
  | [], w, i, hi => by simp [layP, getP]
  | p :: ps, w, i, hi => by
    show at_ (layP n (layW w (wdiff p.1 n).toNat p.2) ps) i = _
    rw [layP_get n ps _ i (by rw [layW_len]; exact hi), layW_get _ _ _ _ hi, getP, Option.or_assoc]
theorem win0_at (i : Nat) : at_ win0 i = none := by
  unfold win0
  simp only [at_, List.getD, List.getElem?_replicate]
  split <;> rfl
/-- what a buffer's window has -/
theorem win_get (n : Int) (ps : List Pt) (i : Nat) (hi : i < 2048) : at_ (layP n win0 ps) i = getP n ps i := by
  rw [layP_get n ps win0 i (by rw [win0_len]; exact hi), win0_at]; rfl

/-! ### a buffer's pieces are its window's runs -/
theorem getP_none {n : Int} : ∀ (ps : List Pt) (e : Int) (i : Nat), 0 ≤ e → mayGo n e ps = true → (i : Int) ≤ e → getP n ps i = none
  | [], e, i, _, _, _ => rfl
  | p :: ps, e, i, he, h, hi => by
    simp only [mayGo, mayStep, Bool.and_eq_true, decide_eq_true_eq] at h
    obtain ⟨⟨h1, h2, h3, h4, h5⟩, h6⟩ := h
    rw [getP, if_neg (by omega), getP_none ps _ i (by omega) h6 (by omega)]
    rfl
theorem wadd_wdiff {s n : Int} (hs : 0 ≤ s ∧ s ≤ 4294967295) : wadd n (wdiff s n) = s := by
  unfold wadd wdiff
  omega
theorem isS_of {w : Win} {i : Nat} {o : Option Int} (h : at_ w i = o) : isS w i = o.isSome := by rw [at_isS, h]
theorem seg_eq {w : Win} {j : Nat} {xs : List Int} (h : ∀ k, k < xs.length → at_ w (j + k) = xs[k]?) : seg w j (j + xs.length) = xs := by
  refine List.ext_getElem? fun k => ?_
  unfold seg
  rw [List.getElem?_take]
  by_cases hk : k < xs.length
  · rw [if_pos (by omega), List.getElem?_drop]
    have h1 := h k hk
    rw [List.getElem?_eq_getElem hk] at h1 ⊢
    have h2 : isS w (j + k) = true := isS_of h1
    have h3 := at_vals h2
    rw [h1] at h3
    have h4 : j + k < (vals w).length := by rw [vals_len]; exact at_lt h2
    rw [List.getElem?_eq_getElem h4]
    simp only [List.getD, List.getElem?_eq_getElem h4, Option.getD_some] at h3
    exact h3.symm
  · rw [if_neg (by omega), List.getElem?_eq_none (by omega)]
theorem seg_get {w : Win} {j m k : Nat} (hk : j + k < m) (h : isS w (j + k) = true) : (seg w j m)[k]? = at_ w (j + k) := by
  unfold seg
  have h4 : j + k < (vals w).length := by rw [vals_len]; exact at_lt h
  rw [List.getElem?_take, if_pos (by omega), List.getElem?_drop, at_vals h]
  simp [List.getD, List.getElem?_eq_getElem h4]
theorem seg_len {w : Win} {j m : Nat} (h : m ≤ w.length) : (seg w j m).length = m - j := by
  unfold seg
  simp [vals_len]; omega
theorem runs_pieces (n : Int) (W : Win) (hW : W.length = 2048) (t : Nat) : ∀ (ps pre : List Pt) (e : Nat), mayGo n e ps = true → t ≤ e → e ≤ 2048 → (∀ i, e ≤ i → i < 2048 → at_ W i = getP n ps i) → runsT n W t e = pre → runsT n W t 2048 = pre ++ ps
  | [], pre, e, _, ht, he, hg, hr => by
    rw [runsT_skip 2048 he (fun i h1 h2 => by rw [isS_of (hg i h1 h2)]; rfl), hr, List.append_nil]
  | (s, xs) :: ps, pre, e, h, ht, he, hg, hr => by
    simp only [mayGo, mayStep, Bool.and_eq_true, decide_eq_true_eq] at h
    obtain ⟨⟨h1, h2, h3, h4, h5⟩, h6⟩ := h
    obtain ⟨d, hd⟩ : ∃ d : Nat, wdiff s n = d := ⟨(wdiff s n).toNat, by omega⟩
    rw [hd] at h3 h5 h6
    have hx : 0 < xs.length := by omega
    have gd : (wdiff s n).toNat = d := by omega
    have lo : ∀ i, e ≤ i → i < d → isS W i = false := fun i a b => by
      rw [isS_of (hg i a (by omega)), getP, gd, if_neg (by omega), getP_none ps _ i (by omega) h6 (by omega)]
      rfl
    have mid : ∀ k, k < xs.length → at_ W (d + k) = xs[k]? := fun k hk => by
      rw [hg (d + k) (by omega) (by omega), getP, gd, if_pos (by omega), show d + k - d = k by omega, List.getElem?_eq_getElem hk]
      rfl
    have r1 := runsT_skip (nx := n) (w := W) (t := t) (j := e) d (by omega) lo
    have r2 := runsT_run (nx := n) (w := W) (t := t) (j := d) (by omega) (.inr (lo (d - 1) (by omega) (by omega))) (d + xs.length) (by omega) (by omega) (fun i a b => by
      have hk : i - d < xs.length := by omega
      rw [show i = d + (i - d) by omega, isS_of (mid (i - d) hk), List.getElem?_eq_getElem hk]
      rfl)
    rw [r1, hr, seg_eq mid, ← hd, wadd_wdiff (within_t h1)] at r2
    rw [runs_pieces n W hW t ps _ (d + xs.length) (by simpa using h6) (by omega) (by omega) (fun i a b => by
      have hk : xs.length ≤ i - d := by omega
      rw [hg i (by omega) b, getP, gd, if_pos (by omega), List.getElem?_eq_none hk]
      rfl) r2]
    simp
/-! ### how many lead -/
def lead : Win → Nat
  | some _ :: w => lead w + 1
  | _ => 0
theorem lead_le : ∀ w : Win, lead w ≤ w.length
  | [] => Nat.le_refl _
  | some _ :: w => by have := lead_le w; simp only [lead, List.length_cons]; omega
  | none :: w => Nat.zero_le _
theorem lead_all : ∀ (w : Win) (i : Nat), i < lead w → isS w i = true
  | [], i, h => by simp [lead] at h
  | some c :: w, 0, h => rfl
  | some c :: w, i + 1, h => by
    have := lead_all w i (by simp only [lead] at h; omega)
    simpa [isS, List.getD] using this
  | none :: w, i, h => by simp [lead] at h
theorem lead_no : ∀ w : Win, isS w (lead w) = false
  | [] => rfl
  | some c :: w => by
    have := lead_no w
    simpa [isS, List.getD, lead] using this
  | none :: w => rfl
theorem lead_eq {w : Win} {t : Nat} (h1 : ∀ i, i < t → isS w i = true) (h2 : isS w t = false) : lead w = t := by
  rcases Nat.lt_trichotomy (lead w) t with h | h | h
  · have := h1 _ h; rw [lead_no] at this; cases this
  · exact h
  · have := lead_all w t h; rw [h2] at this; cases this
theorem isS_out {w : Win} {i : Nat} (h : w.length ≤ i) : isS w i = false := by simp [isS, List.getD, List.getElem?_eq_none h]
/-! ### what comes of bytes that come -/
def winS (n : Int) (ps : List Pt) (s : Int) (xs : List Int) : Win :=
  layW (layP n win0 ps) (max (wdiff s n) 0).toNat ((xs.drop (max (wdiff s n) 0 - wdiff s n).toNat).take (min (wdiff s n + xs.length) 2048 - max (wdiff s n) 0).toNat)
theorem winS_len (n : Int) (ps : List Pt) (s : Int) (xs : List Int) : (winS n ps s xs).length = 2048 := by rw [winS, layW_len, layP_len, win0_len]
theorem winS_get (n : Int) (ps : List Pt) (s : Int) (xs : List Int) (i : Nat) (hi : i < 2048) :
    at_ (winS n ps s xs) i = (getP n ps i).or (if wdiff s n ≤ i ∧ (i : Int) - wdiff s n < xs.length then xs[((i : Int) - wdiff s n).toNat]? else none) := by
  rw [winS, layW_get _ _ _ _ (by rw [layP_len, win0_len]; exact hi), win_get n ps i hi]
  congr 1
  have hd := wdiff_bd s n
  by_cases h : wdiff s n ≤ i ∧ (i : Int) - wdiff s n < xs.length
  · rw [if_pos h, if_pos (by omega), List.getElem?_take, if_pos (by omega), List.getElem?_drop]
    congr 1
    omega
  · rw [if_neg h]
    split
    · rw [List.getElem?_eq_none]
      simp
      omega
    · rfl
/-- the page's own -/
def reaS (n : Int) (ps : List Pt) (s : Int) (xs : List Int) : Int × List Pt × List Int :=
  if 8 < (runsT n (winS n ps s xs) (lead (winS n ps s xs)) 2048).length then (n, ps, []) else
    (wadd n (lead (winS n ps s xs)), runsT n (winS n ps s xs) (lead (winS n ps s xs)) 2048, seg (winS n ps s xs) 0 (lead (winS n ps s xs)))
theorem runsT_first {nx : Int} {w : Win} {t : Nat} : ∀ {n : Nat} {p : Pt} {l : List Pt}, runsT nx w t n = p :: l → isS w t = false → ∃ j : Nat, t < j ∧ j < n ∧ p.1 = wadd nx j
  | 0, p, l, h, _ => by simp [runsT] at h
  | n + 1, p, l, h, h0 => by
    by_cases hn : n < t
    · rw [runsT_le nx w t _ (by omega)] at h; cases h
    · cases hs : isS w n with
      | false => rw [runsT_no hs] at h; obtain ⟨j, a, b, c⟩ := runsT_first h h0; exact ⟨j, a, by omega, c⟩
      | true =>
        have hnt : n ≠ t := by rintro rfl; rw [h0] at hs; cases hs
        cases hp : isS w (n - 1) with
        | false =>
          rw [runsT_y2 (by omega) hs (.inr hp)] at h
          cases hr : runsT nx w t n with
          | nil => rw [hr] at h; simp at h; exact ⟨n, by omega, by omega, by rw [← h.1]⟩
          | cons q l' => rw [hr] at h; simp at h; obtain ⟨j, a, b, c⟩ := runsT_first hr h0; exact ⟨j, a, by omega, by rw [← h.1]; exact c⟩
        | true =>
          rw [runsT_y1 (by omega) hs hp] at h
          cases hr : runsT nx w t n with
          | nil => rw [hr] at h; simp [addLast] at h
          | cons q l' =>
            rw [hr] at h
            obtain ⟨j, a, b, c⟩ := runsT_first hr h0
            cases l' with
            | nil => simp [addLast] at h; exact ⟨j, a, by omega, by rw [← h.1]; exact c⟩
            | cons r l'' => simp [addLast] at h; exact ⟨j, a, by omega, by rw [← h.1]; exact c⟩
theorem wadd0 {n : Int} (hn : 0 ≤ n ∧ n ≤ 4294967295) : wadd n 0 = n := by unfold wadd; omega
theorem wadd_ne {n : Int} (hn : 0 ≤ n ∧ n ≤ 4294967295) {j : Nat} (h0 : 0 < j) (h1 : j < 4294967296) : wadd n j ≠ n := by unfold wadd; omega
theorem mayB_go {n : Int} {ps : List Pt} (h : mayB n ps = true) : mayGo n 0 ps = true := by
  simp only [mayB, Bool.and_eq_true] at h; exact h.2.2
theorem runsT_0 {n : Int} {w : Win} : runsT n w 0 0 = [] := rfl
/-- the program's is the page's own -/
theorem addS_rea {n : Int} {ps : List Pt} (h : mayB n ps = true) (s : Int) (xs : List Int) : addS n ps s xs = reaS n ps s xs := by
  obtain ⟨hn, h8, hin⟩ := mayB_in h
  have hg := mayB_go h
  obtain ⟨W, hW⟩ : ∃ W, winS n ps s xs = W := ⟨_, rfl⟩
  have lW : W.length = 2048 := by rw [← hW, winS_len]
  by_cases hk : max (wdiff s n) 0 < min (wdiff s n + xs.length) 2048
  · rw [addS, if_pos hk, reaS]
    have e : layW (layP n win0 ps) (max (wdiff s n) 0).toNat ((xs.drop (max (wdiff s n) 0 - wdiff s n).toNat).take (min (wdiff s n + xs.length) 2048 - max (wdiff s n) 0).toNat) = W := hW
    rw [e, hW]
    have hl := lead_le W
    have sp := runsT_split (nx := n) (w := W) (t := lead W) (lead_no W) (lead_all W) hl 2048 (by omega)
    rw [sp]
    by_cases h0 : lead W = 0
    · rw [if_pos h0, List.nil_append, h0]
      have hno : isS W 0 = false := by have := lead_no W; rw [h0] at this; exact this
      cases hr : runsT n W 0 2048 with
      | nil =>
        exfalso
        have d0 := wdiff_bd s n
        have g := winS_get n ps s xs (max (wdiff s n) 0).toNat (by omega)
        rw [hW, if_pos (by omega), List.getElem?_eq_getElem (by omega)] at g
        have h2 : isS W (max (wdiff s n) 0).toNat = true := by
          rw [isS_of g]; cases getP n ps (max (wdiff s n) 0).toNat <;> rfl
        exact runsT_ne2 (nx := n) (Nat.zero_le _) h2 2048 (by omega) hr
      | cons p l =>
        obtain ⟨j, a, b, c⟩ := runsT_first hr hno
        rw [putR, if_neg (by rw [c]; exact wadd_ne hn a (by omega))]
        have e0 : seg W 0 0 = [] := by simp [seg]
        rw [e0, show wadd n ((0 : Nat) : Int) = n from wadd0 hn]
        rfl
    · rw [if_neg h0]
      show putR n ps ((wadd n 0, seg W 0 (lead W)) :: runsT n W (lead W) 2048) = _
      rw [putR, if_pos (wadd0 hn), seg_len hl]
      rfl
  · rw [addS, if_neg hk, reaS]
    have d0 := wdiff_bd s n
    have g : ∀ i, i < 2048 → at_ W i = getP n ps i := fun i hi => by
      rw [← hW, winS_get n ps s xs i hi, if_neg (by omega), Option.or_none]
    have h0 : lead W = 0 := lead_eq (fun i h => by omega) (by rw [isS_of (g 0 (by omega)), getP_none ps 0 0 (Int.le_refl _) hg (by omega)]; rfl)
    have r := runs_pieces n W lW 0 ps [] 0 hg (Nat.le_refl _) (by omega) (fun i _ h => g i h) rfl
    rw [hW, h0, r, List.nil_append, if_neg (by omega), show wadd n ((0 : Nat) : Int) = n from wadd0 hn]
    simp [seg]
/-- what comes of them, by what the window has -/
theorem reaS_of {n : Int} {ps : List Pt} {s : Int} {xs : List Int} (ts : List Int) (qs : List Pt) (ht : ts.length ≤ 2048) (hq : mayGo n ts.length qs = true) (hg : ∀ i, i < 2048 → at_ (winS n ps s xs) i = (ts[i]?).or (getP n qs i)) :
    reaS n ps s xs = if 8 < qs.length then (n, ps, []) else (wadd n ts.length, qs, ts) := by
  obtain ⟨W, hW⟩ : ∃ W, winS n ps s xs = W := ⟨_, rfl⟩
  have lW : W.length = 2048 := by rw [← hW, winS_len]
  rw [hW] at hg
  have hl : lead W = ts.length := by
    refine lead_eq (fun i h => ?_) ?_
    · rw [isS_of (hg i (by omega)), List.getElem?_eq_getElem h]; rfl
    · rcases Nat.lt_or_ge ts.length 2048 with h | h
      · rw [isS_of (hg _ h), List.getElem?_eq_none (Nat.le_refl _), getP_none qs _ _ (by omega) hq (Int.le_refl _)]; rfl
      · exact isS_out (by omega)
  have hs : seg W 0 ts.length = ts := by
    have := seg_eq (w := W) (j := 0) (xs := ts) fun k hk => by
      rw [Nat.zero_add, hg k (by omega), List.getElem?_eq_getElem hk]; rfl
    rwa [Nat.zero_add] at this
  have r := runs_pieces n W lW ts.length qs [] ts.length hq (Nat.le_refl _) ht (fun i h1 h2 => by
    rw [hg i h2, List.getElem?_eq_none h1]; rfl) (runsT_le n W _ _ (Nat.le_refl _))
  rw [reaS, hW, hl, r, hs, List.nil_append]
/-! ### the runs, one by one -/
theorem find_end (f : Nat → Bool) (b : Bool) (hi : Nat) : ∀ (k lo : Nat), hi - lo = k → lo ≤ hi → ∃ j, lo ≤ j ∧ j ≤ hi ∧ (∀ i, lo ≤ i → i < j → f i = b) ∧ (j < hi → f j = !b)
  | 0, lo, hk, h => ⟨lo, Nat.le_refl _, h, fun i a c => by omega, fun a => by omega⟩
  | k + 1, lo, hk, h => by
    by_cases hf : f lo = b
    · obtain ⟨j, a, c, d, e⟩ := find_end f b hi k (lo + 1) (by omega) (by omega)
      refine ⟨j, by omega, c, fun i h1 h2 => ?_, e⟩
      by_cases hi : i = lo
      · rw [hi]; exact hf
      · exact d i (by omega) h2
    · exact ⟨lo, Nat.le_refl _, h, fun i a c => by omega, fun _ => by cases b <;> cases hv : f lo <;> simp_all⟩
theorem runsT_lo {nx : Int} {w : Win} {lo j : Nat} (hlo : lo ≤ j) (h : ∀ i, lo ≤ i → i < j → isS w i = false) : ∀ n, runsT nx w lo n = runsT nx w j n
  | 0 => rfl
  | n + 1 => by
    have ih := runsT_lo (nx := nx) hlo h n
    cases hs : isS w n with
    | false => rw [runsT_no hs, runsT_no hs, ih]
    | true =>
      by_cases h1 : n < lo
      · rw [runsT_le _ _ _ _ (by omega), runsT_le _ _ _ _ (by omega)]
      · have h2 : j ≤ n := by
          rcases Nat.lt_or_ge n j with h3 | h3
          · have := h n (by omega) h3; rw [hs] at this; cases this
          · exact h3
        cases hp : isS w (n - 1) with
        | false => rw [runsT_y2 (by omega) hs (.inr hp), runsT_y2 h2 hs (.inr hp), ih]
        | true =>
          by_cases h3 : n = j
          · by_cases h4 : lo = j
            · rw [h4]
            · have := h (n - 1) (by omega) (by omega); rw [hp] at this; cases this
          · rw [runsT_y1 (by omega) hs hp, runsT_y1 (by omega) hs hp, ih]
theorem runsT_head {nx : Int} {w : Win} {j m : Nat} (hjm : j < m) (hs : ∀ i, j ≤ i → i < m → isS w i = true) (hm : isS w m = false) (hl : m ≤ w.length) : ∀ n, m ≤ n → runsT nx w j n = (wadd nx j, seg w j m) :: runsT nx w m n
  | 0, h => by omega
  | n + 1, h => by
    by_cases e : n + 1 = m
    · have r := runsT_run (nx := nx) (w := w) (t := j) (j := j) (Nat.le_refl _) (.inl rfl) m hjm hl hs
      rw [e, r, runsT_le nx w j j (Nat.le_refl _), runsT_le nx w m m (Nat.le_refl _)]
      rfl
    · have ih := runsT_head (nx := nx) hjm hs hm hl n (by omega)
      cases hn : isS w n with
      | false => rw [runsT_no hn, runsT_no hn, ih]
      | true =>
        have hnt : n ≠ m := by rintro rfl; rw [hm] at hn; cases hn
        cases hp : isS w (n - 1) with
        | false => rw [runsT_y2 (by omega) hn (.inr hp), runsT_y2 (by omega) hn (.inr hp), ih, List.cons_append]
        | true =>
          have h1 : n - 1 ≠ m := by intro e2; rw [e2, hm] at hp; cases hp
          have hne := runsT_ne (nx := nx) (t := m) (n := n - 1) (by omega) hp
          rw [show n - 1 + 1 = n by omega] at hne
          rw [runsT_y1 (by omega) hn hp, runsT_y1 (by omega) hn hp, ih]
          cases hr : runsT nx w m n with
          | nil => exact absurd hr hne
          | cons q l => rfl
/-- the runs of a window, one by one -/
inductive Runs (nx : Int) (w : Win) : Nat → List Pt → Prop
  | nil (lo : Nat) (h : ∀ i, lo ≤ i → i < 2048 → isS w i = false) : Runs nx w lo []
  | cons (lo j m : Nat) (l : List Pt) (h1 : lo ≤ j) (h2 : j < m) (h3 : m ≤ 2048) (h4 : ∀ i, lo ≤ i → i < j → isS w i = false) (h5 : ∀ i, j ≤ i → i < m → isS w i = true) (h6 : isS w m = false) (h7 : Runs nx w m l) : Runs nx w lo ((wadd nx j, seg w j m) :: l)
theorem runsT_runs {nx : Int} {w : Win} (hw : w.length = 2048) : ∀ (k lo : Nat), 2048 - lo = k → lo ≤ 2048 → Runs nx w lo (runsT nx w lo 2048) := by
  intro k
  induction k using Nat.strongRecOn with
  | ind k ih =>
    intro lo hk hlo
    obtain ⟨j, a, b, c, d⟩ := find_end (isS w) false 2048 _ lo rfl hlo
    rw [runsT_lo a c]
    rcases Nat.lt_or_ge j 2048 with hj | hj
    · obtain ⟨m, a2, b2, c2, d2⟩ := find_end (isS w) true 2048 _ j rfl b
      have hjm : j < m := by
        rcases Nat.lt_or_ge j m with h | h
        · exact h
        · have : j = m := by omega
          have h1 := d hj
          have h2 := d2 (by omega)
          rw [← this, h1] at h2; cases h2
      have hm : isS w m = false := by
        rcases Nat.lt_or_ge m 2048 with h | h
        · exact d2 h
        · exact isS_out (by omega)
      rw [runsT_head hjm c2 hm (by omega) 2048 b2]
      exact .cons lo j m _ a hjm b2 c c2 hm (ih (2048 - m) (by omega) m rfl b2)
    · rw [runsT_le _ _ _ _ hj]
      exact .nil lo fun i h1 h2 => c i h1 (by omega)
theorem wdiff_add2 (n : Int) {a b : Int} (h0 : 0 ≤ a - b) (h1 : a - b < 2147483648) : wdiff (wadd n a) (wadd n b) = a - b := by
  unfold wdiff wadd
  omega
theorem within_wadd (a b : Int) : within (wadd a b) 4294967295 = true := by
  have := wadd_bd a b
  simp only [within, Bool.and_eq_true, decide_eq_true_eq]
  omega
/-- they may be a buffer's -/
theorem Runs.may {nx : Int} {w : Win} (hw : w.length = 2048) {t : Nat} : ∀ {lo : Nat} {l : List Pt}, Runs nx w lo l → t ≤ lo → isS w lo = false → mayGo (wadd nx t) ((lo : Int) - t) l = true := by
  intro lo l h
  induction h with
  | nil lo h => intro _ _; rfl
  | cons lo j m l h1 h2 h3 h4 h5 h6 h7 ih =>
    intro ht h0
    have hlj : lo < j := by
      rcases Nat.lt_or_ge lo j with h | h
      · exact h
      · have : lo = j := by omega
        subst this
        have := h5 lo (Nat.le_refl _) h2
        rw [h0] at this; cases this
    have e := wdiff_add2 nx (a := j) (b := t) (by omega) (by omega)
    have sl := seg_len (w := w) (j := j) (m := m) (by omega)
    rw [mayGo, mayStep, within_wadd, e, sl]
    have := ih (by omega) h6
    rw [show ((j : Int) - t + ((m - j : Nat) : Int)) = (m : Int) - t by omega, this]
    simp only [Bool.true_and, Bool.and_true, Bool.and_eq_true, decide_eq_true_eq]
    exact ⟨by omega, by omega, by omega, by omega⟩
/-- what they have is what the window has -/
theorem Runs.get {nx : Int} {w : Win} (hw : w.length = 2048) {t : Nat} : ∀ {lo : Nat} {l : List Pt}, Runs nx w lo l → t ≤ lo → ∀ i : Nat, lo ≤ t + i → t + i < 2048 → getP (wadd nx t) l i = at_ w (t + i) := by
  intro lo l h
  induction h with
  | nil lo h =>
    intro ht i h1 h2
    have := h (t + i) h1 h2
    rw [at_isS] at this
    cases ha : at_ w (t + i) with
    | none => rfl
    | some c => rw [ha] at this; cases this
  | cons lo j m l h1 h2 h3 h4 h5 h6 h7 ih =>
    intro ht i hi hi2
    have e := wdiff_add2 nx (a := j) (b := t) (by omega) (by omega)
    have sl := seg_len (w := w) (j := j) (m := m) (by omega)
    rw [getP]
    simp only [e]
    rw [show ((j : Int) - t).toNat = j - t by omega]
    rcases Nat.lt_or_ge (t + i) j with hj | hj
    · have := h4 (t + i) hi hj
      rw [at_isS] at this
      rw [if_neg (by omega)]
      have hn : at_ w (t + i) = none := by
        cases ha : at_ w (t + i) with
        | none => rfl
        | some c => rw [ha] at this; cases this
      rw [hn]
      have hm := h7.may hw (t := t) (by omega) h6
      rw [getP_none l _ i (by omega) hm (by omega)]
      rfl
    · rw [if_pos (by omega)]
      rcases Nat.lt_or_ge (t + i) m with hm | hm
      · have hs := h5 (t + i) hj hm
        have := seg_get (w := w) (j := j) (m := m) (k := i - (j - t)) (by omega) (by rw [show j + (i - (j - t)) = t + i by omega]; exact hs)
        rw [this, show j + (i - (j - t)) = t + i by omega, at_vals hs]
        rfl
      · rw [List.getElem?_eq_none (by omega), ih (by omega) i hm hi2]
        rfl
end Go.Proofs.Ytjmjnndmpeeppaa

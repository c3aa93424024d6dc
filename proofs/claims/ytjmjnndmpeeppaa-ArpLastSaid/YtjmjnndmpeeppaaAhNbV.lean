/- The page's own neighbours on data: one is learnt, a tick. Condition: lengths. -/
import Derived.Test.YtjmjnndmpeeppaaAhNbW
-- light
namespace Go.Proofs.Ytjmjnndmpeeppaa
open Go.RowKit
set_option linter.unusedVariables false
set_option linter.unusedSimpArgs false
set_option maxRecDepth 100000
set_option maxHeartbeats 4000000

theorem refTick_l (l : List Nb) (hm : mayN l = true) : ACallL Try.prog 40 [.list 0 3 (l.map nbR)] [.perm] (.glist 1 3 ((tickS l).map nbR)) [.perm, .uniq] := by
  have px := pl_nbs l
  obtain ⟨hall, h16⟩ := mayN_all hm
  have lb : (l.map nbR).length = l.length := by simp
  refine ACallL.of_ev mixed Try.func40 rfl (fun a w => Try.call40 a w) (congrArg Array.toList Try.results40) Try.ntmps40 fun B hB => ?_
  ((conv => whnf); (repeat' ((first | (with_reducible refine qif_n ?_) | (with_reducible refine qif_t (by assumption) ?_) | (with_reducible refine qif_f (by assumption) ?_) | ((with_reducible refine qif_t ?_ ?_); focus decide) | ((with_reducible refine qif_f ?_ ?_); focus decide) | (with_reducible refine And.intro (orderOk_i ?ho) ?_; (case ho => kernel_rfl)) | (with_reducible refine qif_i (fun _ => ?_) (fun _ => ?_)) | (with_reducible refine frcVs_i ?_) | (with_reducible refine frcRs_i ?_)) <;> (conv => whnf))))
  refine qAW.loopE mixed (X := Nat) (fun k => slotsOf 28 [(0, .list 0 3 (l.map nbR)), (3, .glist 1 3 ((tickS (l.take k)).map nbR)), (4, .val (.int .i64 k))]) (fun k => [.perm, .uniq])
    (fun k => k ≤ l.length) (fun k => l.length - k) 0 (Nat.zero_le _) ?_ ?_
  · (refine qConv.of hB [] [(0, 0)] [] (by rfl) ?_; focus ((conv => whnf); (repeat (refine And.intro ?_ ?_; rotate_left; (conv => whnf))); exact trivial; all_goals (try (first | (with_reducible rfl) | (refine RowsRen.pl rfl rfl ?_; first | assumption | (focus (unfold PlRows; (repeat (first | exact .val _ | assumption | exact .any | (refine .agg _ ?_) | (refine .tup _ ?_) | (refine .list _ _ ?_) | (refine PlRows.mapF _ _ fun _ _ => ?_) | (simp only [List.forall_mem_cons]) | (refine ⟨?_, ?_⟩) | (exact fun _ h => absurd h List.not_mem_nil))); done)) | (focus (refine PlRows.mapF _ _ fun _ _ => ?_; (repeat (first | exact .val _ | assumption | exact .any | (refine .agg _ ?_) | (refine .tup _ ?_) | (refine .list _ _ ?_) | (refine PlRows.mapF _ _ fun _ _ => ?_) | (simp only [List.forall_mem_cons]) | (refine ⟨?_, ?_⟩) | (exact fun _ h => absurd h List.not_mem_nil))); done)))))))
    all_goals first | rfl | (simp; done)
  · rintro E k hk hE
    by_cases hlt : k < l.length
    · obtain ⟨⟨ip, mac, age⟩, hp⟩ : ∃ p, l[k]? = some p := ⟨_, List.getElem?_eq_getElem hlt⟩
      have hrow : (l.map nbR)[(k : Int).toNat]? = some (nR ip mac age) := by simp [hp]
      have hage : 0 ≤ age ∧ age ≤ 600 := by
        have := hall k hlt
        simp only [okAt, List.getD, hp, Option.getD_some, okN, Bool.and_eq_true, decide_eq_true_eq] at this
        exact this.1.2
      have w := IntWalk.i64_in (k + 1) (by omega)
      have w2 := IntWalk.i64_in (age + 1) (by omega)
      have hs := tickS_snoc hp
      dsimp only at hs
      obtain ⟨T, hT⟩ : ∃ T, tickS (l.take k) = T := ⟨_, rfl⟩
      have hTl : (T.map nbR).length ≤ 16 := by rw [← hT]; simp only [tickS, List.length_map]; exact Nat.le_trans (List.length_filter_le _ _) (by simp; omega)
      rw [hT] at hs ⊢
      by_cases ha : age + 1 ≤ 600
      · rw [if_pos ha] at hs
        have hsn : T.map nbR ++ [nR ip mac (IntKind.i64.wrap (age + 1))] = (T ++ [(ip, mac, age + 1)]).map nbR := by rw [w2]; simp
        ((conv => whnf); (repeat (with_reducible refine frcRs_i ?_; (conv => whnf))); subst hE)
        ((conv => whnf); (repeat' ((first | (with_reducible refine qif_n ?_) | (with_reducible refine qif_t (by assumption) ?_) | (with_reducible refine qif_f (by assumption) ?_) | ((with_reducible refine qif_t ?_ ?_); focus decide) | ((with_reducible refine qif_f ?_ ?_); focus decide) | (with_reducible refine And.intro (orderOk_i ?ho) ?_; (case ho => kernel_rfl)) | ((with_reducible refine qif_t ?_ ?_); focus (simp [hlt, w2, ha]; done)) | ((with_reducible refine qif_f ?_ ?_); focus (simp [hlt, w2, ha]; done)) | (with_reducible refine qif_i (fun _ => ?_) (fun _ => ?_)) | (with_reducible refine frcVs_i ?_) | (with_reducible refine frcRs_i ?_) | (refine qCase_i (idxL rfl rfl rfl rfl rfl rfl (by omega) hrow) ?_) | (refine qCase_i (apG' (nb := 24) rfl rfl rfl rfl rfl rfl rfl rfl rfl rfl ⟨Nat.zero_lt_succ _, Nat.zero_lt_succ _, rfl⟩ rfl (Nat.le_trans (Nat.mul_le_mul_right _ (Nat.add_le_add hTl (Nat.le_refl 1))) (by decide)) hsn) ?_)) <;> (conv => whnf))))
        refine ⟨k + 1, by omega, by omega, ?_⟩
        dsimp only
        rw [hs]
        (refine qConv.of hB [] [(0, 0), (4, 1)] [] (by rfl) ?_; focus ((conv => whnf); (repeat (refine And.intro ?_ ?_; rotate_left; (conv => whnf))); exact trivial; all_goals (try (first | (with_reducible rfl) | (refine RowsRen.pl rfl rfl ?_; first | assumption | (focus (unfold PlRows; (repeat (first | exact .val _ | assumption | exact .any | (refine .agg _ ?_) | (refine .tup _ ?_) | (refine .list _ _ ?_) | (refine PlRows.mapF _ _ fun _ _ => ?_) | (simp only [List.forall_mem_cons]) | (refine ⟨?_, ?_⟩) | (exact fun _ h => absurd h List.not_mem_nil))); done)) | (focus (refine PlRows.mapF _ _ fun _ _ => ?_; (repeat (first | exact .val _ | assumption | exact .any | (refine .agg _ ?_) | (refine .tup _ ?_) | (refine .list _ _ ?_) | (refine PlRows.mapF _ _ fun _ _ => ?_) | (simp only [List.forall_mem_cons]) | (refine ⟨?_, ?_⟩) | (exact fun _ h => absurd h List.not_mem_nil))); done)))))))
        all_goals first | rfl | (simp [w]; done)
      · rw [if_neg ha] at hs
        ((conv => whnf); (repeat (with_reducible refine frcRs_i ?_; (conv => whnf))); subst hE)
        ((conv => whnf); (repeat' ((first | (with_reducible refine qif_n ?_) | (with_reducible refine qif_t (by assumption) ?_) | (with_reducible refine qif_f (by assumption) ?_) | ((with_reducible refine qif_t ?_ ?_); focus decide) | ((with_reducible refine qif_f ?_ ?_); focus decide) | (with_reducible refine And.intro (orderOk_i ?ho) ?_; (case ho => kernel_rfl)) | ((with_reducible refine qif_t ?_ ?_); focus (simp [hlt, w2, ha]; done)) | ((with_reducible refine qif_f ?_ ?_); focus (simp [hlt, w2, ha]; done)) | (with_reducible refine qif_i (fun _ => ?_) (fun _ => ?_)) | (with_reducible refine frcVs_i ?_) | (with_reducible refine frcRs_i ?_) | (refine qCase_i (idxL rfl rfl rfl rfl rfl rfl (by omega) hrow) ?_)) <;> (conv => whnf))))
        refine ⟨k + 1, by omega, by omega, ?_⟩
        dsimp only
        rw [hs]
        (refine qConv.of hB [] [(0, 0), (1, 1)] [] (by rfl) ?_; focus ((conv => whnf); (repeat (refine And.intro ?_ ?_; rotate_left; (conv => whnf))); exact trivial; all_goals (try (first | (with_reducible rfl) | (refine RowsRen.pl rfl rfl ?_; first | assumption | (focus (unfold PlRows; (repeat (first | exact .val _ | assumption | exact .any | (refine .agg _ ?_) | (refine .tup _ ?_) | (refine .list _ _ ?_) | (refine PlRows.mapF _ _ fun _ _ => ?_) | (simp only [List.forall_mem_cons]) | (refine ⟨?_, ?_⟩) | (exact fun _ h => absurd h List.not_mem_nil))); done)) | (focus (refine PlRows.mapF _ _ fun _ _ => ?_; (repeat (first | exact .val _ | assumption | exact .any | (refine .agg _ ?_) | (refine .tup _ ?_) | (refine .list _ _ ?_) | (refine PlRows.mapF _ _ fun _ _ => ?_) | (simp only [List.forall_mem_cons]) | (refine ⟨?_, ?_⟩) | (exact fun _ h => absurd h List.not_mem_nil))); done)))))))
        all_goals first | rfl | (simp [w]; done)
    · have e : l.take k = l := List.take_of_length_le (by omega)
      rw [e]
      ((conv => whnf); (repeat (with_reducible refine frcRs_i ?_; (conv => whnf))); subst hE)
      ((conv => whnf); (repeat' ((first | (with_reducible refine qif_n ?_) | (with_reducible refine qif_t (by assumption) ?_) | (with_reducible refine qif_f (by assumption) ?_) | ((with_reducible refine qif_t ?_ ?_); focus decide) | ((with_reducible refine qif_f ?_ ?_); focus decide) | (with_reducible refine And.intro (orderOk_i ?ho) ?_; (case ho => kernel_rfl)) | ((with_reducible refine qif_t ?_ ?_); focus (simp [hlt]; done)) | ((with_reducible refine qif_f ?_ ?_); focus (simp [hlt]; done)) | (with_reducible refine qif_i (fun _ => ?_) (fun _ => ?_)) | (with_reducible refine frcVs_i ?_) | (with_reducible refine frcRs_i ?_)) <;> (conv => whnf))))
      (refine qConv.of hB [] [(0, 0), (1, 1)] [] (by rfl) ?_; focus ((conv => whnf); (repeat (refine And.intro ?_ ?_; rotate_left; (conv => whnf))); exact trivial; all_goals (try (first | (with_reducible rfl) | (refine RowsRen.pl rfl rfl ?_; first | assumption | (focus (unfold PlRows; (repeat (first | exact .val _ | assumption | exact .any | (refine .agg _ ?_) | (refine .tup _ ?_) | (refine .list _ _ ?_) | (refine PlRows.mapF _ _ fun _ _ => ?_) | (simp only [List.forall_mem_cons]) | (refine ⟨?_, ?_⟩) | (exact fun _ h => absurd h List.not_mem_nil))); done)) | (focus (refine PlRows.mapF _ _ fun _ _ => ?_; (repeat (first | exact .val _ | assumption | exact .any | (refine .agg _ ?_) | (refine .tup _ ?_) | (refine .list _ _ ?_) | (refine PlRows.mapF _ _ fun _ _ => ?_) | (simp only [List.forall_mem_cons]) | (refine ⟨?_, ?_⟩) | (exact fun _ h => absurd h List.not_mem_nil))); done)))))))
      all_goals rfl
/-- the page's walk through them: what is told so far, and whether the new one is -/
def stN (l : List Nb) (ip mac o : Int) : Nat → List Nb × Bool
  | 0 => ([], false)
  | k + 1 =>
    let s := stN l ip mac o k
    let p := l.getD k (0, 0, 0)
    let s1 := if s.2 = false ∧ ip ≤ p.1 then (s.1 ++ [(ip, mac, 0)], true) else s
    if (k : Int) = o then s1 else (s1.1 ++ [p], s1.2)
def learnR (l : List Nb) (ip mac o : Int) : List Nb := if (stN l ip mac o l.length).2 then (stN l ip mac o l.length).1 else (stN l ip mac o l.length).1 ++ [(ip, mac, 0)]
/-- without the one at a place -/
def wo (o : Int) : Nat → List Nb → List Nb
  | _, [] => []
  | i, p :: l => if (i : Int) = o then wo o (i + 1) l else p :: wo o (i + 1) l
theorem wo_app (o : Int) : ∀ (l l' : List Nb) (i : Nat), wo o i (l ++ l') = wo o i l ++ wo o (i + l.length) l'
  | [], l', i => by simp [wo]
  | p :: l, l', i => by
    simp only [List.cons_append, wo, wo_app o l l' (i + 1), List.length_cons]
    rw [show i + 1 + l.length = i + (l.length + 1) by omega]
    split <;> simp
theorem wo_id (o : Int) : ∀ (l : List Nb) (i : Nat), (o < i ∨ i + l.length ≤ o) → wo o i l = l
  | [], i, _ => rfl
  | p :: l, i, h => by
    rw [wo, if_neg (by simp at h; omega), wo_id o l (i + 1) (by simp at h ⊢; omega)]
theorem wo_erase : ∀ (l : List Nb) (i j : Nat), wo ((i + j : Nat) : Int) i l = l.eraseIdx j
  | [], i, j => by simp [wo]
  | p :: l, i, 0 => by rw [wo, if_pos (by simp), List.eraseIdx_cons_zero, wo_id _ _ _ (.inl (by omega))]
  | p :: l, i, j + 1 => by rw [wo, if_neg (by omega), List.eraseIdx_cons_succ, show i + (j + 1) = i + 1 + j by omega, wo_erase l (i + 1) j]
theorem stN_eq {l : List Nb} (hs : srt l) (ip mac o : Int) : ∀ k, k ≤ l.length → stN l ip mac o k = if k ≤ posN l ip then (wo o 0 (l.take k), false) else (wo o 0 (l.take (posN l ip)) ++ [(ip, mac, 0)] ++ wo o (posN l ip) ((l.take k).drop (posN l ip)), true)
  | 0, _ => by simp [stN, wo]
  | k + 1, h => by
    obtain ⟨p, hp⟩ : ∃ p, l[k]? = some p := ⟨_, List.getElem?_eq_getElem (by omega)⟩
    have hlt := posN_lt ip hs hp
    have hple := posN_le ip l
    have hg : l.getD k (0, 0, 0) = p := by simp [List.getD, hp]
    have ht := take_snoc hp
    have ltk : (l.take k).length = k := by simp; omega
    rw [stN, stN_eq hs ip mac o k (by omega), hg]
    by_cases h1 : k + 1 ≤ posN l ip
    · rw [if_pos (show k ≤ posN l ip by omega), if_pos h1]
      have h2 : ¬ ip ≤ p.1 := by have := hlt.2 (by omega); omega
      simp only [h2, and_false, if_false]
      rw [ht, wo_app, ltk, Nat.zero_add]
      simp only [wo]
      split <;> simp
    · rw [if_neg h1]
      by_cases h3 : k ≤ posN l ip
      · have hk : k = posN l ip := by omega
        have h2 : ip ≤ p.1 := by
          rcases Int.lt_or_le p.1 ip with h | h
          · have := hlt.1 h; omega
          · exact h
        rw [if_pos h3]
        simp only [h2, and_self, if_true]
        rw [ht, ← hk, List.drop_append_of_le_length (by omega), List.drop_of_length_le (by omega)]
        simp only [List.nil_append, wo]
        split <;> simp
      · rw [if_neg h3]
        simp only [Bool.true_eq_false, false_and, if_false]
        rw [ht, List.drop_append_of_le_length (by omega), wo_app, List.length_drop, ltk, show posN l ip + (k - posN l ip) = k by omega]
        simp only [wo]
        split <;> simp
theorem learnR_eq {l : List Nb} (hs : srt l) (ip mac o : Int) : learnR l ip mac o = wo o 0 (l.take (posN l ip)) ++ [(ip, mac, 0)] ++ wo o (posN l ip) (l.drop (posN l ip)) := by
  have hple := posN_le ip l
  unfold learnR
  rw [stN_eq hs ip mac o _ (Nat.le_refl _)]
  by_cases h : l.length ≤ posN l ip
  · rw [if_pos h]
    have : posN l ip = l.length := by omega
    simp [this, wo]
  · rw [if_neg h]
    simp [List.take_of_length_le]
theorem posN_app {t : Int} : ∀ {a b : List Nb}, (∀ p ∈ a, p.1 < t) → (∀ p ∈ b, ¬ p.1 < t) → posN (a ++ b) t = a.length
  | [], [], _, _ => rfl
  | [], q :: b, _, hb => by simp [posN, hb q (by simp)]
  | p :: a, b, ha, hb => by
    rw [List.cons_append, posN, if_pos (ha p (by simp)), posN_app (fun q hq => ha q (by simp [hq])) hb, List.length_cons]
theorem wo_sub (o : Int) : ∀ (l : List Nb) (i : Nat), (wo o i l).Sublist l
  | [], i => .refl _
  | p :: l, i => by
    rw [wo]
    split
    · exact (wo_sub o l (i + 1)).cons _
    · exact (wo_sub o l (i + 1)).cons_cons _
theorem posN_split {l : List Nb} (hs : srt l) (t : Int) : (∀ p ∈ l.take (posN l t), p.1 < t) ∧ ∀ p ∈ l.drop (posN l t), ¬ p.1 < t := by
  refine ⟨fun p hp => ?_, fun p hp h => ?_⟩
  · obtain ⟨i, hi⟩ := List.getElem?_of_mem hp
    have hlt : i < posN l t := by have := (List.getElem?_eq_some_iff.1 hi).1; simp at this; omega
    rw [List.getElem?_take, if_pos hlt] at hi
    exact (posN_lt t hs hi).2 hlt
  · obtain ⟨i, hi⟩ := List.getElem?_of_mem hp
    rw [List.getElem?_drop] at hi
    have := (posN_lt t hs hi).1 h
    omega
/-- whom the page lets go of -/
def letN (l : List Nb) (ip : Int) : Int := if thereN l ip then posN l ip else if l.length = 16 then oldN l 16 else -1
theorem learn_same {l : List Nb} (hs : srt l) (h16 : l.length ≤ 16) (ip mac : Int) : learnR l ip mac (letN l ip) = learnS l ip mac := by
  rw [learnR_eq hs]
  have hple := posN_le ip l
  have ltk : (l.take (posN l ip)).length = posN l ip := by simp; omega
  unfold letN learnS
  by_cases ht : thereN l ip = true
  · rw [if_pos ht, if_pos ht]
    have hlt : posN l ip < l.length := by
      rcases Nat.lt_or_ge (posN l ip) l.length with h | h
      · exact h
      · unfold thereN at ht; rw [List.getElem?_eq_none h] at ht; cases ht
    rw [wo_id _ _ _ (.inr (by rw [ltk]; omega))]
    have := wo_erase (l.drop (posN l ip)) (posN l ip) 0
    rw [Nat.add_zero] at this
    rw [this, List.set_eq_take_append_cons_drop, if_pos hlt, List.drop_eq_getElem_cons hlt]
    simp
  · rw [if_neg ht, if_neg ht]
    by_cases hl : l.length = 16
    · rw [if_pos hl, if_pos hl]
      have he := wo_erase l 0 (oldN l 16)
      rw [Nat.zero_add] at he
      have hsp : l = l.take (posN l ip) ++ l.drop (posN l ip) := (List.take_append_drop _ _).symm
      have h2 : l.eraseIdx (oldN l 16) = wo (oldN l 16) 0 (l.take (posN l ip)) ++ wo (oldN l 16) (posN l ip) (l.drop (posN l ip)) := by
        rw [← he]
        have := wo_app ((oldN l 16 : Nat) : Int) (l.take (posN l ip)) (l.drop (posN l ip)) 0
        rw [List.take_append_drop, ltk, Nat.zero_add] at this
        exact this
      rw [h2]
      have hpp := posN_app (t := ip) (a := wo ((oldN l 16 : Nat) : Int) 0 (l.take (posN l ip))) (b := wo ((oldN l 16 : Nat) : Int) (posN l ip) (l.drop (posN l ip)))
        (fun p hp => (posN_split hs ip).1 p ((wo_sub _ _ _).mem hp)) (fun p hp => (posN_split hs ip).2 p ((wo_sub _ _ _).mem hp))
      rw [hpp, List.take_left' rfl, List.drop_left' rfl]
    · rw [if_neg hl, if_neg hl, wo_id _ _ _ (.inl (by omega)), wo_id _ _ _ (.inl (by omega))]
theorem stN_len (l : List Nb) (ip mac o : Int) : ∀ k, (stN l ip mac o k).1.length ≤ 2 * k
  | 0 => Nat.le_refl _
  | k + 1 => by
    have := stN_len l ip mac o k
    simp only [stN]
    split <;> split <;> simp <;> omega
theorem refLearn_l (l : List Nb) (ip mac : Int) (hm : mayN l = true) : ACallL Try.prog 43 [.list 0 3 (l.map nbR), .val (.int .i64 ip), .val (.int .i64 mac)] [.perm] (.glist 1 3 ((learnS l ip mac).map nbR)) [.perm, .uniq] := by
  have px := pl_nbs l
  have h16 := (mayN_all hm).2
  have hsr := mayN_srt hm
  have lb : (l.map nbR).length = l.length := by simp
  have cF := fdR_l l ip hsr (by omega)
  rw [← learn_same hsr h16 ip mac]
  obtain ⟨o, ho⟩ : ∃ o, letN l ip = o := ⟨_, rfl⟩
  rw [ho]
  obtain ⟨res, hres⟩ : ∃ r, learnR l ip mac o = r := ⟨_, rfl⟩
  rw [hres]
  obtain ⟨st, st0, stS, stL, hst⟩ : ∃ st : Nat → List Nb × Bool, st 0 = ([], false) ∧ (∀ k, st (k + 1) = if (k : Int) = o then (if (st k).2 = false ∧ ip ≤ (l.getD k (0, 0, 0)).1 then ((st k).1 ++ [(ip, mac, 0)], true) else st k) else ((if (st k).2 = false ∧ ip ≤ (l.getD k (0, 0, 0)).1 then ((st k).1 ++ [(ip, mac, 0)], true) else st k).1 ++ [l.getD k (0, 0, 0)], (if (st k).2 = false ∧ ip ≤ (l.getD k (0, 0, 0)).1 then ((st k).1 ++ [(ip, mac, 0)], true) else st k).2)) ∧
      (∀ k, (st k).1.length ≤ 2 * k) ∧ stN l ip mac o = st := ⟨stN l ip mac o, rfl, fun _ => rfl, stN_len l ip mac o, rfl⟩
  unfold learnR at hres
  rw [hst] at hres
  clear hst
  by_cases ht : thereN l ip = true
  · have hf : fdR l ip = posN l ip := by simp [fdR, ht]
    have hn : letN l ip = posN l ip := by simp [letN, ht]
    rw [hf, ← hn, ho] at cF
    have ho0 : ¬ o < 0 := by rw [← ho, hn]; omega
    refine ACallL.of_ev mixed Try.func43 rfl (fun a w => Try.call43 a w) (congrArg Array.toList Try.results43) Try.ntmps43 fun B hB => ?_
    ((conv => whnf); (repeat' ((first | (with_reducible refine qif_n ?_) | (with_reducible refine qif_t (by assumption) ?_) | (with_reducible refine qif_f (by assumption) ?_) | ((with_reducible refine qif_t ?_ ?_); focus decide) | ((with_reducible refine qif_f ?_ ?_); focus decide) | (with_reducible refine And.intro (orderOk_i ?ho) ?_; (case ho => kernel_rfl)) | ((with_reducible refine qif_t ?_ ?_); focus (simp [ho0]; done)) | ((with_reducible refine qif_f ?_ ?_); focus (simp [ho0]; done)) | (with_reducible refine qif_i (fun _ => ?_) (fun _ => ?_)) | (with_reducible refine frcVs_i ?_) | (with_reducible refine frcRs_i ?_) | ((with_reducible refine qCall.pure (cF) ?_ ?_ ?_ ?_); rotate_left 3; rotate_left; exact trivial; exact (by repeat (first | exact .val _ | assumption | exact .any | (refine .agg _ ?_) | (refine .tup _ ?_) | (refine .list _ _ ?_) | (refine PlRows.mapF _ _ fun _ _ => ?_) | (simp only [List.forall_mem_cons]) | (refine ⟨?_, ?_⟩) | (exact fun _ h => absurd h List.not_mem_nil))); exact (by repeat (first | exact .val _ | assumption | exact .any | (refine .agg _ ?_) | (refine .tup _ ?_) | (refine .list _ _ ?_) | (refine PlRows.mapF _ _ fun _ _ => ?_) | (simp only [List.forall_mem_cons]) | (refine ⟨?_, ?_⟩) | (exact fun _ h => absurd h List.not_mem_nil))))) <;> (conv => whnf))))
    refine qAW.loopE mixed (X := Nat) (fun k => slotsOf 82 [(0, .list 0 3 (l.map nbR)), (1, .val (.int .i64 ip)), (2, .val (.int .i64 mac)), (7, .val (.int .i64 o)), (9, .glist 1 3 ((st k).1.map nbR)), (10, .val (.bool (st k).2)), (11, .val (.int .i64 k))]) (fun k => [.perm, .uniq])
      (fun k => k ≤ l.length) (fun k => l.length - k) 0 (Nat.zero_le _) ?_ ?_
    · rw [st0]
      (refine qConv.of hB [] [(0, 0)] [] (by rfl) ?_; focus ((conv => whnf); (repeat (refine And.intro ?_ ?_; rotate_left; (conv => whnf))); exact trivial; all_goals (try (first | (with_reducible rfl) | (refine RowsRen.pl rfl rfl ?_; first | assumption | (focus (unfold PlRows; (repeat (first | exact .val _ | assumption | exact .any | (refine .agg _ ?_) | (refine .tup _ ?_) | (refine .list _ _ ?_) | (refine PlRows.mapF _ _ fun _ _ => ?_) | (simp only [List.forall_mem_cons]) | (refine ⟨?_, ?_⟩) | (exact fun _ h => absurd h List.not_mem_nil))); done)) | (focus (refine PlRows.mapF _ _ fun _ _ => ?_; (repeat (first | exact .val _ | assumption | exact .any | (refine .agg _ ?_) | (refine .tup _ ?_) | (refine .list _ _ ?_) | (refine PlRows.mapF _ _ fun _ _ => ?_) | (simp only [List.forall_mem_cons]) | (refine ⟨?_, ?_⟩) | (exact fun _ h => absurd h List.not_mem_nil))); done)))))))
      all_goals rfl
    · intro E k hk hE
      have hlen := stL k
      obtain ⟨⟨m, inn⟩, hst⟩ : ∃ p, st k = p := ⟨_, rfl⟩
      by_cases hlt : (k : Int) < l.length
      · obtain ⟨⟨i1, m1, a1⟩, hp⟩ : ∃ p, l[k]? = some p := ⟨_, List.getElem?_eq_getElem (by omega)⟩
        have hrow : (l.map nbR)[(k : Int).toNat]? = some (nR i1 m1 a1) := by simp [hp]
        have w := IntWalk.i64_in (k + 1) (by omega)
        have hstep := stS k
        rw [hst] at hstep hlen ⊢
        rw [show l.getD k (0, 0, 0) = (i1, m1, a1) by simp [List.getD, hp]] at hstep
        dsimp only at hstep hlen
        have hml : (m.map nbR).length ≤ 32 := by simp; omega
        have hml2 : ((m ++ [(ip, mac, 0)]).map nbR).length ≤ 33 := by simp at hml ⊢; omega
        have sn1 : m.map nbR ++ [nR ip mac 0] = (m ++ [(ip, mac, 0)]).map nbR := by simp
        have sn2 : m.map nbR ++ [nR i1 m1 a1] = (m ++ [(i1, m1, a1)]).map nbR := by simp
        have sn3 : (m ++ [(ip, mac, 0)]).map nbR ++ [nR i1 m1 a1] = (m ++ [(ip, mac, 0)] ++ [(i1, m1, a1)]).map nbR := by simp
        cases inn with
        | true =>
          by_cases hkb : ((k : Int) == o) = true
          · have hko : (k : Int) = o := by simpa using hkb
            have hkn : ((k : Int) != o) = false := by simp [hko]
            simp only [Bool.true_eq_false, false_and, if_false, hko, if_true] at hstep
            clear hko
            ((conv => whnf); (repeat (with_reducible refine frcRs_i ?_; (conv => whnf))); subst hE)
            ((conv => whnf); (repeat' ((first | (with_reducible refine qif_n ?_) | (with_reducible refine qif_t (by assumption) ?_) | (with_reducible refine qif_f (by assumption) ?_) | ((with_reducible refine qif_t ?_ ?_); focus decide) | ((with_reducible refine qif_f ?_ ?_); focus decide) | (with_reducible refine And.intro (orderOk_i ?ho) ?_; (case ho => kernel_rfl)) | ((with_reducible refine qif_t ?_ ?_); focus (simp [hlt]; done)) | ((with_reducible refine qif_f ?_ ?_); focus (simp [hlt]; done)) | (with_reducible refine qif_i (fun _ => ?_) (fun _ => ?_)) | (with_reducible refine frcVs_i ?_) | (with_reducible refine frcRs_i ?_) | (refine qCase_i (idxL rfl rfl rfl rfl rfl rfl (by omega) hrow) ?_)) <;> (conv => whnf))))
            refine ⟨k + 1, by omega, by omega, ?_⟩
            dsimp only
            rw [hstep]
            (refine qConv.of hB [] [(0, 0), (1, 1)] [] (by rfl) ?_; focus ((conv => whnf); (repeat (refine And.intro ?_ ?_; rotate_left; (conv => whnf))); exact trivial; all_goals (try (first | (with_reducible rfl) | (refine RowsRen.pl rfl rfl ?_; first | assumption | (focus (unfold PlRows; (repeat (first | exact .val _ | assumption | exact .any | (refine .agg _ ?_) | (refine .tup _ ?_) | (refine .list _ _ ?_) | (refine PlRows.mapF _ _ fun _ _ => ?_) | (simp only [List.forall_mem_cons]) | (refine ⟨?_, ?_⟩) | (exact fun _ h => absurd h List.not_mem_nil))); done)) | (focus (refine PlRows.mapF _ _ fun _ _ => ?_; (repeat (first | exact .val _ | assumption | exact .any | (refine .agg _ ?_) | (refine .tup _ ?_) | (refine .list _ _ ?_) | (refine PlRows.mapF _ _ fun _ _ => ?_) | (simp only [List.forall_mem_cons]) | (refine ⟨?_, ?_⟩) | (exact fun _ h => absurd h List.not_mem_nil))); done)))))))
            all_goals first | rfl | (simp [w]; done)
          · have hko : ¬ (k : Int) = o := by simpa using hkb
            have hkn : ((k : Int) != o) = true := by simpa using hko
            simp only [Bool.true_eq_false, false_and, if_false, hko] at hstep
            ((conv => whnf); (repeat (with_reducible refine frcRs_i ?_; (conv => whnf))); subst hE)
            ((conv => whnf); (repeat' ((first | (with_reducible refine qif_n ?_) | (with_reducible refine qif_t (by assumption) ?_) | (with_reducible refine qif_f (by assumption) ?_) | ((with_reducible refine qif_t ?_ ?_); focus decide) | ((with_reducible refine qif_f ?_ ?_); focus decide) | (with_reducible refine And.intro (orderOk_i ?ho) ?_; (case ho => kernel_rfl)) | ((with_reducible refine qif_t ?_ ?_); focus (simp [hlt]; done)) | ((with_reducible refine qif_f ?_ ?_); focus (simp [hlt]; done)) | (with_reducible refine qif_i (fun _ => ?_) (fun _ => ?_)) | (with_reducible refine frcVs_i ?_) | (with_reducible refine frcRs_i ?_) | (refine qCase_i (idxL rfl rfl rfl rfl rfl rfl (by omega) hrow) ?_) | (refine qCase_i (apG' (nb := 24) rfl rfl rfl rfl rfl rfl rfl rfl rfl rfl ⟨Nat.zero_lt_succ _, Nat.zero_lt_succ _, rfl⟩ rfl (Nat.le_trans (Nat.mul_le_mul_right _ (Nat.add_le_add hml (Nat.le_refl 1))) (by decide)) sn2) ?_)) <;> (conv => whnf))))
            refine ⟨k + 1, by omega, by omega, ?_⟩
            dsimp only
            rw [hstep]
            (refine qConv.of hB [] [(0, 0), (3, 1)] [] (by rfl) ?_; focus ((conv => whnf); (repeat (refine And.intro ?_ ?_; rotate_left; (conv => whnf))); exact trivial; all_goals (try (first | (with_reducible rfl) | (refine RowsRen.pl rfl rfl ?_; first | assumption | (focus (unfold PlRows; (repeat (first | exact .val _ | assumption | exact .any | (refine .agg _ ?_) | (refine .tup _ ?_) | (refine .list _ _ ?_) | (refine PlRows.mapF _ _ fun _ _ => ?_) | (simp only [List.forall_mem_cons]) | (refine ⟨?_, ?_⟩) | (exact fun _ h => absurd h List.not_mem_nil))); done)) | (focus (refine PlRows.mapF _ _ fun _ _ => ?_; (repeat (first | exact .val _ | assumption | exact .any | (refine .agg _ ?_) | (refine .tup _ ?_) | (refine .list _ _ ?_) | (refine PlRows.mapF _ _ fun _ _ => ?_) | (simp only [List.forall_mem_cons]) | (refine ⟨?_, ?_⟩) | (exact fun _ h => absurd h List.not_mem_nil))); done)))))))
            all_goals first | rfl | (simp [w]; done)
        | false =>
          by_cases hge : ip ≤ i1
          · by_cases hkb : ((k : Int) == o) = true
            · have hko : (k : Int) = o := by simpa using hkb
              have hkn : ((k : Int) != o) = false := by simp [hko]
              simp only [true_and, and_false, if_false, hko, hge, and_self, if_true] at hstep
              clear hko
              ((conv => whnf); (repeat (with_reducible refine frcRs_i ?_; (conv => whnf))); subst hE)
              ((conv => whnf); (repeat' ((first | (with_reducible refine qif_n ?_) | (with_reducible refine qif_t (by assumption) ?_) | (with_reducible refine qif_f (by assumption) ?_) | ((with_reducible refine qif_t ?_ ?_); focus decide) | ((with_reducible refine qif_f ?_ ?_); focus decide) | (with_reducible refine And.intro (orderOk_i ?ho) ?_; (case ho => kernel_rfl)) | ((with_reducible refine qif_t ?_ ?_); focus (simp [hlt, hge]; done)) | ((with_reducible refine qif_f ?_ ?_); focus (simp [hlt, hge]; done)) | (with_reducible refine qif_i (fun _ => ?_) (fun _ => ?_)) | (with_reducible refine frcVs_i ?_) | (with_reducible refine frcRs_i ?_) | (refine qCase_i (idxL rfl rfl rfl rfl rfl rfl (by omega) hrow) ?_) | (refine qCase_i (apG' (nb := 24) rfl rfl rfl rfl rfl rfl rfl rfl rfl rfl ⟨Nat.zero_lt_succ _, Nat.zero_lt_succ _, rfl⟩ rfl (Nat.le_trans (Nat.mul_le_mul_right _ (Nat.add_le_add hml (Nat.le_refl 1))) (by decide)) sn1) ?_)) <;> (conv => whnf))))
              refine ⟨k + 1, by omega, by omega, ?_⟩
              dsimp only
              rw [hstep]
              (refine qConv.of hB [] [(0, 0), (3, 1)] [] (by rfl) ?_; focus ((conv => whnf); (repeat (refine And.intro ?_ ?_; rotate_left; (conv => whnf))); exact trivial; all_goals (try (first | (with_reducible rfl) | (refine RowsRen.pl rfl rfl ?_; first | assumption | (focus (unfold PlRows; (repeat (first | exact .val _ | assumption | exact .any | (refine .agg _ ?_) | (refine .tup _ ?_) | (refine .list _ _ ?_) | (refine PlRows.mapF _ _ fun _ _ => ?_) | (simp only [List.forall_mem_cons]) | (refine ⟨?_, ?_⟩) | (exact fun _ h => absurd h List.not_mem_nil))); done)) | (focus (refine PlRows.mapF _ _ fun _ _ => ?_; (repeat (first | exact .val _ | assumption | exact .any | (refine .agg _ ?_) | (refine .tup _ ?_) | (refine .list _ _ ?_) | (refine PlRows.mapF _ _ fun _ _ => ?_) | (simp only [List.forall_mem_cons]) | (refine ⟨?_, ?_⟩) | (exact fun _ h => absurd h List.not_mem_nil))); done)))))))
              all_goals first | rfl | (simp [w]; done)
            · have hko : ¬ (k : Int) = o := by simpa using hkb
              have hkn : ((k : Int) != o) = true := by simpa using hko
              simp only [true_and, and_false, if_false, hko, hge, and_self, if_true] at hstep
              ((conv => whnf); (repeat (with_reducible refine frcRs_i ?_; (conv => whnf))); subst hE)
              ((conv => whnf); (repeat' ((first | (with_reducible refine qif_n ?_) | (with_reducible refine qif_t (by assumption) ?_) | (with_reducible refine qif_f (by assumption) ?_) | ((with_reducible refine qif_t ?_ ?_); focus decide) | ((with_reducible refine qif_f ?_ ?_); focus decide) | (with_reducible refine And.intro (orderOk_i ?ho) ?_; (case ho => kernel_rfl)) | ((with_reducible refine qif_t ?_ ?_); focus (simp [hlt, hge]; done)) | ((with_reducible refine qif_f ?_ ?_); focus (simp [hlt, hge]; done)) | (with_reducible refine qif_i (fun _ => ?_) (fun _ => ?_)) | (with_reducible refine frcVs_i ?_) | (with_reducible refine frcRs_i ?_) | (refine qCase_i (idxL rfl rfl rfl rfl rfl rfl (by omega) hrow) ?_) | (refine qCase_i (apG' (nb := 24) rfl rfl rfl rfl rfl rfl rfl rfl rfl rfl ⟨Nat.zero_lt_succ _, Nat.zero_lt_succ _, rfl⟩ rfl (Nat.le_trans (Nat.mul_le_mul_right _ (Nat.add_le_add hml (Nat.le_refl 1))) (by decide)) sn1) ?_) | (refine qCase_i (apG' (nb := 24) rfl rfl rfl rfl rfl rfl rfl rfl rfl rfl ⟨Nat.zero_lt_succ _, Nat.zero_lt_succ _, rfl⟩ rfl (Nat.le_trans (Nat.mul_le_mul_right _ (Nat.add_le_add hml2 (Nat.le_refl 1))) (by decide)) sn3) ?_)) <;> (conv => whnf))))
              refine ⟨k + 1, by omega, by omega, ?_⟩
              dsimp only
              rw [hstep]
              (refine qConv.of hB [] [(0, 0), (5, 1)] [] (by rfl) ?_; focus ((conv => whnf); (repeat (refine And.intro ?_ ?_; rotate_left; (conv => whnf))); exact trivial; all_goals (try (first | (with_reducible rfl) | (refine RowsRen.pl rfl rfl ?_; first | assumption | (focus (unfold PlRows; (repeat (first | exact .val _ | assumption | exact .any | (refine .agg _ ?_) | (refine .tup _ ?_) | (refine .list _ _ ?_) | (refine PlRows.mapF _ _ fun _ _ => ?_) | (simp only [List.forall_mem_cons]) | (refine ⟨?_, ?_⟩) | (exact fun _ h => absurd h List.not_mem_nil))); done)) | (focus (refine PlRows.mapF _ _ fun _ _ => ?_; (repeat (first | exact .val _ | assumption | exact .any | (refine .agg _ ?_) | (refine .tup _ ?_) | (refine .list _ _ ?_) | (refine PlRows.mapF _ _ fun _ _ => ?_) | (simp only [List.forall_mem_cons]) | (refine ⟨?_, ?_⟩) | (exact fun _ h => absurd h List.not_mem_nil))); done)))))))
              all_goals first | rfl | (simp [w]; done)
          · by_cases hkb : ((k : Int) == o) = true
            · have hko : (k : Int) = o := by simpa using hkb
              have hkn : ((k : Int) != o) = false := by simp [hko]
              simp only [true_and, and_false, if_false, hko, hge, and_self, if_true] at hstep
              clear hko
              ((conv => whnf); (repeat (with_reducible refine frcRs_i ?_; (conv => whnf))); subst hE)
              ((conv => whnf); (repeat' ((first | (with_reducible refine qif_n ?_) | (with_reducible refine qif_t (by assumption) ?_) | (with_reducible refine qif_f (by assumption) ?_) | ((with_reducible refine qif_t ?_ ?_); focus decide) | ((with_reducible refine qif_f ?_ ?_); focus decide) | (with_reducible refine And.intro (orderOk_i ?ho) ?_; (case ho => kernel_rfl)) | ((with_reducible refine qif_t ?_ ?_); focus (simp [hlt, hge]; done)) | ((with_reducible refine qif_f ?_ ?_); focus (simp [hlt, hge]; done)) | (with_reducible refine qif_i (fun _ => ?_) (fun _ => ?_)) | (with_reducible refine frcVs_i ?_) | (with_reducible refine frcRs_i ?_) | (refine qCase_i (idxL rfl rfl rfl rfl rfl rfl (by omega) hrow) ?_)) <;> (conv => whnf))))
              refine ⟨k + 1, by omega, by omega, ?_⟩
              dsimp only
              rw [hstep]
              (refine qConv.of hB [] [(0, 0), (1, 1)] [] (by rfl) ?_; focus ((conv => whnf); (repeat (refine And.intro ?_ ?_; rotate_left; (conv => whnf))); exact trivial; all_goals (try (first | (with_reducible rfl) | (refine RowsRen.pl rfl rfl ?_; first | assumption | (focus (unfold PlRows; (repeat (first | exact .val _ | assumption | exact .any | (refine .agg _ ?_) | (refine .tup _ ?_) | (refine .list _ _ ?_) | (refine PlRows.mapF _ _ fun _ _ => ?_) | (simp only [List.forall_mem_cons]) | (refine ⟨?_, ?_⟩) | (exact fun _ h => absurd h List.not_mem_nil))); done)) | (focus (refine PlRows.mapF _ _ fun _ _ => ?_; (repeat (first | exact .val _ | assumption | exact .any | (refine .agg _ ?_) | (refine .tup _ ?_) | (refine .list _ _ ?_) | (refine PlRows.mapF _ _ fun _ _ => ?_) | (simp only [List.forall_mem_cons]) | (refine ⟨?_, ?_⟩) | (exact fun _ h => absurd h List.not_mem_nil))); done)))))))
              all_goals first | rfl | (simp [w]; done)
            · have hko : ¬ (k : Int) = o := by simpa using hkb
              have hkn : ((k : Int) != o) = true := by simpa using hko
              simp only [true_and, and_false, if_false, hko, hge, and_self, if_true] at hstep
              ((conv => whnf); (repeat (with_reducible refine frcRs_i ?_; (conv => whnf))); subst hE)
              ((conv => whnf); (repeat' ((first | (with_reducible refine qif_n ?_) | (with_reducible refine qif_t (by assumption) ?_) | (with_reducible refine qif_f (by assumption) ?_) | ((with_reducible refine qif_t ?_ ?_); focus decide) | ((with_reducible refine qif_f ?_ ?_); focus decide) | (with_reducible refine And.intro (orderOk_i ?ho) ?_; (case ho => kernel_rfl)) | ((with_reducible refine qif_t ?_ ?_); focus (simp [hlt, hge]; done)) | ((with_reducible refine qif_f ?_ ?_); focus (simp [hlt, hge]; done)) | (with_reducible refine qif_i (fun _ => ?_) (fun _ => ?_)) | (with_reducible refine frcVs_i ?_) | (with_reducible refine frcRs_i ?_) | (refine qCase_i (idxL rfl rfl rfl rfl rfl rfl (by omega) hrow) ?_) | (refine qCase_i (apG' (nb := 24) rfl rfl rfl rfl rfl rfl rfl rfl rfl rfl ⟨Nat.zero_lt_succ _, Nat.zero_lt_succ _, rfl⟩ rfl (Nat.le_trans (Nat.mul_le_mul_right _ (Nat.add_le_add hml (Nat.le_refl 1))) (by decide)) sn2) ?_)) <;> (conv => whnf))))
              refine ⟨k + 1, by omega, by omega, ?_⟩
              dsimp only
              rw [hstep]
              (refine qConv.of hB [] [(0, 0), (3, 1)] [] (by rfl) ?_; focus ((conv => whnf); (repeat (refine And.intro ?_ ?_; rotate_left; (conv => whnf))); exact trivial; all_goals (try (first | (with_reducible rfl) | (refine RowsRen.pl rfl rfl ?_; first | assumption | (focus (unfold PlRows; (repeat (first | exact .val _ | assumption | exact .any | (refine .agg _ ?_) | (refine .tup _ ?_) | (refine .list _ _ ?_) | (refine PlRows.mapF _ _ fun _ _ => ?_) | (simp only [List.forall_mem_cons]) | (refine ⟨?_, ?_⟩) | (exact fun _ h => absurd h List.not_mem_nil))); done)) | (focus (refine PlRows.mapF _ _ fun _ _ => ?_; (repeat (first | exact .val _ | assumption | exact .any | (refine .agg _ ?_) | (refine .tup _ ?_) | (refine .list _ _ ?_) | (refine PlRows.mapF _ _ fun _ _ => ?_) | (simp only [List.forall_mem_cons]) | (refine ⟨?_, ?_⟩) | (exact fun _ h => absurd h List.not_mem_nil))); done)))))))
              all_goals first | rfl | (simp [w]; done)
      · have hkl : k = l.length := by omega
        rw [hst] at hlen ⊢
        have hml : (m.map nbR).length ≤ 32 := by simp at hlen ⊢; omega
        have sn1 : m.map nbR ++ [nR ip mac 0] = (m ++ [(ip, mac, 0)]).map nbR := by simp
        rw [← hkl, hst] at hres
        dsimp only at hres
        cases inn with
        | true =>
          rw [if_pos rfl] at hres
          ((conv => whnf); (repeat (with_reducible refine frcRs_i ?_; (conv => whnf))); subst hE)
          ((conv => whnf); (repeat' ((first | (with_reducible refine qif_n ?_) | (with_reducible refine qif_t (by assumption) ?_) | (with_reducible refine qif_f (by assumption) ?_) | ((with_reducible refine qif_t ?_ ?_); focus decide) | ((with_reducible refine qif_f ?_ ?_); focus decide) | (with_reducible refine And.intro (orderOk_i ?ho) ?_; (case ho => kernel_rfl)) | ((with_reducible refine qif_t ?_ ?_); focus (simp [hlt]; done)) | ((with_reducible refine qif_f ?_ ?_); focus (simp [hlt]; done)) | (with_reducible refine qif_i (fun _ => ?_) (fun _ => ?_)) | (with_reducible refine frcVs_i ?_) | (with_reducible refine frcRs_i ?_)) <;> (conv => whnf))))
          rw [← hres]
          (refine qConv.of hB [] [(0, 0), (1, 1)] [] (by rfl) ?_; focus ((conv => whnf); (repeat (refine And.intro ?_ ?_; rotate_left; (conv => whnf))); exact trivial; all_goals (try (first | (with_reducible rfl) | (refine RowsRen.pl rfl rfl ?_; first | assumption | (focus (unfold PlRows; (repeat (first | exact .val _ | assumption | exact .any | (refine .agg _ ?_) | (refine .tup _ ?_) | (refine .list _ _ ?_) | (refine PlRows.mapF _ _ fun _ _ => ?_) | (simp only [List.forall_mem_cons]) | (refine ⟨?_, ?_⟩) | (exact fun _ h => absurd h List.not_mem_nil))); done)) | (focus (refine PlRows.mapF _ _ fun _ _ => ?_; (repeat (first | exact .val _ | assumption | exact .any | (refine .agg _ ?_) | (refine .tup _ ?_) | (refine .list _ _ ?_) | (refine PlRows.mapF _ _ fun _ _ => ?_) | (simp only [List.forall_mem_cons]) | (refine ⟨?_, ?_⟩) | (exact fun _ h => absurd h List.not_mem_nil))); done)))))))
          all_goals rfl
        | false =>
          rw [if_neg (by decide)] at hres
          ((conv => whnf); (repeat (with_reducible refine frcRs_i ?_; (conv => whnf))); subst hE)
          ((conv => whnf); (repeat' ((first | (with_reducible refine qif_n ?_) | (with_reducible refine qif_t (by assumption) ?_) | (with_reducible refine qif_f (by assumption) ?_) | ((with_reducible refine qif_t ?_ ?_); focus decide) | ((with_reducible refine qif_f ?_ ?_); focus decide) | (with_reducible refine And.intro (orderOk_i ?ho) ?_; (case ho => kernel_rfl)) | ((with_reducible refine qif_t ?_ ?_); focus (simp [hlt]; done)) | ((with_reducible refine qif_f ?_ ?_); focus (simp [hlt]; done)) | (with_reducible refine qif_i (fun _ => ?_) (fun _ => ?_)) | (with_reducible refine frcVs_i ?_) | (with_reducible refine frcRs_i ?_) | (refine qCase_i (apG' (nb := 24) rfl rfl rfl rfl rfl rfl rfl rfl rfl rfl ⟨Nat.zero_lt_succ _, Nat.zero_lt_succ _, rfl⟩ rfl (Nat.le_trans (Nat.mul_le_mul_right _ (Nat.add_le_add hml (Nat.le_refl 1))) (by decide)) sn1) ?_)) <;> (conv => whnf))))
          rw [← hres]
          (refine qConv.of hB [] [(0, 0), (3, 1)] [] (by rfl) ?_; focus ((conv => whnf); (repeat (refine And.intro ?_ ?_; rotate_left; (conv => whnf))); exact trivial; all_goals (try (first | (with_reducible rfl) | (refine RowsRen.pl rfl rfl ?_; first | assumption | (focus (unfold PlRows; (repeat (first | exact .val _ | assumption | exact .any | (refine .agg _ ?_) | (refine .tup _ ?_) | (refine .list _ _ ?_) | (refine PlRows.mapF _ _ fun _ _ => ?_) | (simp only [List.forall_mem_cons]) | (refine ⟨?_, ?_⟩) | (exact fun _ h => absurd h List.not_mem_nil))); done)) | (focus (refine PlRows.mapF _ _ fun _ _ => ?_; (repeat (first | exact .val _ | assumption | exact .any | (refine .agg _ ?_) | (refine .tup _ ?_) | (refine .list _ _ ?_) | (refine PlRows.mapF _ _ fun _ _ => ?_) | (simp only [List.forall_mem_cons]) | (refine ⟨?_, ?_⟩) | (exact fun _ h => absurd h List.not_mem_nil))); done)))))))
          all_goals rfl
  · have ht : thereN l ip = false := by simpa using ht
    have hf : fdR l ip = -1 := by simp [fdR, ht]
    rw [hf] at cF
    by_cases h15 : l.length = 16
    · have hn : letN l ip = oldN l 16 := by simp [letN, ht, h15]
      obtain ⟨old, old0, oldS, oldL, hold⟩ : ∃ old : Nat → Nat, old 0 = 0 ∧ (∀ k, old (k + 1) = if (l.getD (old k) (0, 0, 0)).2.2 < (l.getD k (0, 0, 0)).2.2 then k else old k) ∧ (∀ k, old k ≤ k - 1) ∧ oldN l = old := ⟨oldN l, rfl, fun _ => rfl, oldN_lt l, rfl⟩
      rw [hold] at hn
      clear hold
      rw [hn] at ho
      have old1 : old 1 = 0 := by have := oldL 1; omega
      have hge : ¬ (l.length : Int) < 16 := by omega
      have hge' : (16 : Int) ≤ l.length := by omega
      refine ACallL.of_ev mixed Try.func43 rfl (fun a w => Try.call43 a w) (congrArg Array.toList Try.results43) Try.ntmps43 fun B hB => ?_
      ((conv => whnf); (repeat' ((first | (with_reducible refine qif_n ?_) | (with_reducible refine qif_t (by assumption) ?_) | (with_reducible refine qif_f (by assumption) ?_) | ((with_reducible refine qif_t ?_ ?_); focus decide) | ((with_reducible refine qif_f ?_ ?_); focus decide) | (with_reducible refine And.intro (orderOk_i ?ho) ?_; (case ho => kernel_rfl)) | ((with_reducible refine qif_t ?_ ?_); focus (simp [hge']; done)) | ((with_reducible refine qif_f ?_ ?_); focus (simp [hge']; done)) | (with_reducible refine qif_i (fun _ => ?_) (fun _ => ?_)) | (with_reducible refine frcVs_i ?_) | (with_reducible refine frcRs_i ?_) | ((with_reducible refine qCall.pure (cF) ?_ ?_ ?_ ?_); rotate_left 3; rotate_left; exact trivial; exact (by repeat (first | exact .val _ | assumption | exact .any | (refine .agg _ ?_) | (refine .tup _ ?_) | (refine .list _ _ ?_) | (refine PlRows.mapF _ _ fun _ _ => ?_) | (simp only [List.forall_mem_cons]) | (refine ⟨?_, ?_⟩) | (exact fun _ h => absurd h List.not_mem_nil))); exact (by repeat (first | exact .val _ | assumption | exact .any | (refine .agg _ ?_) | (refine .tup _ ?_) | (refine .list _ _ ?_) | (refine PlRows.mapF _ _ fun _ _ => ?_) | (simp only [List.forall_mem_cons]) | (refine ⟨?_, ?_⟩) | (exact fun _ h => absurd h List.not_mem_nil))))) <;> (conv => whnf))))
      refine qAW.loopE mixed (X := Nat) (fun k => slotsOf 82 [(0, .list 0 3 (l.map nbR)), (1, .val (.int .i64 ip)), (2, .val (.int .i64 mac)), (7, .val (.int .i64 (old k))), (8, .val (.int .i64 k))]) (fun k => [.perm])
        (fun k => 1 ≤ k ∧ k ≤ 16) (fun k => 16 - k) 1 ⟨Nat.le_refl _, by decide⟩ ?_ ?_
      · rw [old1]
        (refine qConv.of hB [] [(0, 0)] [] (by rfl) ?_; focus ((conv => whnf); (repeat (refine And.intro ?_ ?_; rotate_left; (conv => whnf))); exact trivial; all_goals (try (first | (with_reducible rfl) | (refine RowsRen.pl rfl rfl ?_; first | assumption | (focus (unfold PlRows; (repeat (first | exact .val _ | assumption | exact .any | (refine .agg _ ?_) | (refine .tup _ ?_) | (refine .list _ _ ?_) | (refine PlRows.mapF _ _ fun _ _ => ?_) | (simp only [List.forall_mem_cons]) | (refine ⟨?_, ?_⟩) | (exact fun _ h => absurd h List.not_mem_nil))); done)) | (focus (refine PlRows.mapF _ _ fun _ _ => ?_; (repeat (first | exact .val _ | assumption | exact .any | (refine .agg _ ?_) | (refine .tup _ ?_) | (refine .list _ _ ?_) | (refine PlRows.mapF _ _ fun _ _ => ?_) | (simp only [List.forall_mem_cons]) | (refine ⟨?_, ?_⟩) | (exact fun _ h => absurd h List.not_mem_nil))); done)))))))
        all_goals rfl
      · rintro E k ⟨hk1, hk⟩ hE
        by_cases hlt : (k : Int) < l.length
        · have w := IntWalk.i64_in (k + 1) (by omega)
          obtain ⟨⟨i1, m1, a1⟩, h1⟩ : ∃ p, l[k]? = some p := ⟨_, List.getElem?_eq_getElem (by omega)⟩
          have hok := oldL k
          have hstep : old (k + 1) = if (l.getD (old k) (0, 0, 0)).2.2 < a1 then k else old k := by rw [oldS, show l.getD k (0, 0, 0) = (i1, m1, a1) by simp [List.getD, h1]]
          obtain ⟨o', ho'⟩ : ∃ o, old k = o := ⟨_, rfl⟩
          rw [ho'] at hok hstep ⊢
          obtain ⟨⟨i2, m2, a2⟩, h2⟩ : ∃ p, l[o']? = some p := ⟨_, List.getElem?_eq_getElem (by omega)⟩
          have hgo : (l.getD o' (0, 0, 0)).2.2 = a2 := by simp [List.getD, h2]
          rw [hgo] at hstep
          have r1 : (l.map nbR)[(k : Int).toNat]? = some (nR i1 m1 a1) := by simp [h1]
          have r2 : (l.map nbR)[(o' : Int).toNat]? = some (nR i2 m2 a2) := by simp [h2]
          by_cases ha : a2 < a1
          · rw [if_pos ha] at hstep
            ((conv => whnf); (repeat (with_reducible refine frcRs_i ?_; (conv => whnf))); subst hE)
            ((conv => whnf); (repeat' ((first | (with_reducible refine qif_n ?_) | (with_reducible refine qif_t (by assumption) ?_) | (with_reducible refine qif_f (by assumption) ?_) | ((with_reducible refine qif_t ?_ ?_); focus decide) | ((with_reducible refine qif_f ?_ ?_); focus decide) | (with_reducible refine And.intro (orderOk_i ?ho) ?_; (case ho => kernel_rfl)) | ((with_reducible refine qif_t ?_ ?_); focus (simp [hlt, ha]; done)) | ((with_reducible refine qif_f ?_ ?_); focus (simp [hlt, ha]; done)) | (with_reducible refine qif_i (fun _ => ?_) (fun _ => ?_)) | (with_reducible refine frcVs_i ?_) | (with_reducible refine frcRs_i ?_) | (refine qCase_i (idxL rfl rfl rfl rfl rfl rfl (by omega) r1) ?_) | (refine qCase_i (idxL rfl rfl rfl rfl rfl rfl (by omega) r2) ?_)) <;> (conv => whnf))))
            refine ⟨k + 1, ⟨by omega, by omega⟩, by omega, ?_⟩
            rw [hstep]
            (refine qConv.of hB [] [(0, 0)] [] (by rfl) ?_; focus ((conv => whnf); (repeat (refine And.intro ?_ ?_; rotate_left; (conv => whnf))); exact trivial; all_goals (try (first | (with_reducible rfl) | (refine RowsRen.pl rfl rfl ?_; first | assumption | (focus (unfold PlRows; (repeat (first | exact .val _ | assumption | exact .any | (refine .agg _ ?_) | (refine .tup _ ?_) | (refine .list _ _ ?_) | (refine PlRows.mapF _ _ fun _ _ => ?_) | (simp only [List.forall_mem_cons]) | (refine ⟨?_, ?_⟩) | (exact fun _ h => absurd h List.not_mem_nil))); done)) | (focus (refine PlRows.mapF _ _ fun _ _ => ?_; (repeat (first | exact .val _ | assumption | exact .any | (refine .agg _ ?_) | (refine .tup _ ?_) | (refine .list _ _ ?_) | (refine PlRows.mapF _ _ fun _ _ => ?_) | (simp only [List.forall_mem_cons]) | (refine ⟨?_, ?_⟩) | (exact fun _ h => absurd h List.not_mem_nil))); done)))))))
            all_goals first | rfl | (simp [w]; done)
          · rw [if_neg ha] at hstep
            ((conv => whnf); (repeat (with_reducible refine frcRs_i ?_; (conv => whnf))); subst hE)
            ((conv => whnf); (repeat' ((first | (with_reducible refine qif_n ?_) | (with_reducible refine qif_t (by assumption) ?_) | (with_reducible refine qif_f (by assumption) ?_) | ((with_reducible refine qif_t ?_ ?_); focus decide) | ((with_reducible refine qif_f ?_ ?_); focus decide) | (with_reducible refine And.intro (orderOk_i ?ho) ?_; (case ho => kernel_rfl)) | ((with_reducible refine qif_t ?_ ?_); focus (simp [hlt, ha]; done)) | ((with_reducible refine qif_f ?_ ?_); focus (simp [hlt, ha]; done)) | (with_reducible refine qif_i (fun _ => ?_) (fun _ => ?_)) | (with_reducible refine frcVs_i ?_) | (with_reducible refine frcRs_i ?_) | (refine qCase_i (idxL rfl rfl rfl rfl rfl rfl (by omega) r1) ?_) | (refine qCase_i (idxL rfl rfl rfl rfl rfl rfl (by omega) r2) ?_)) <;> (conv => whnf))))
            refine ⟨k + 1, ⟨by omega, by omega⟩, by omega, ?_⟩
            rw [hstep]
            (refine qConv.of hB [] [(0, 0)] [] (by rfl) ?_; focus ((conv => whnf); (repeat (refine And.intro ?_ ?_; rotate_left; (conv => whnf))); exact trivial; all_goals (try (first | (with_reducible rfl) | (refine RowsRen.pl rfl rfl ?_; first | assumption | (focus (unfold PlRows; (repeat (first | exact .val _ | assumption | exact .any | (refine .agg _ ?_) | (refine .tup _ ?_) | (refine .list _ _ ?_) | (refine PlRows.mapF _ _ fun _ _ => ?_) | (simp only [List.forall_mem_cons]) | (refine ⟨?_, ?_⟩) | (exact fun _ h => absurd h List.not_mem_nil))); done)) | (focus (refine PlRows.mapF _ _ fun _ _ => ?_; (repeat (first | exact .val _ | assumption | exact .any | (refine .agg _ ?_) | (refine .tup _ ?_) | (refine .list _ _ ?_) | (refine PlRows.mapF _ _ fun _ _ => ?_) | (simp only [List.forall_mem_cons]) | (refine ⟨?_, ?_⟩) | (exact fun _ h => absurd h List.not_mem_nil))); done)))))))
            all_goals first | rfl | (simp [w]; done)
        · have hk16 : k = 16 := by omega
          have hok : ((old k : Nat) : Int) = o := by rw [hk16]; exact ho
          rw [hok]
          ((conv => whnf); (repeat (with_reducible refine frcRs_i ?_; (conv => whnf))); subst hE)
          ((conv => whnf); (repeat' ((first | (with_reducible refine qif_n ?_) | (with_reducible refine qif_t (by assumption) ?_) | (with_reducible refine qif_f (by assumption) ?_) | ((with_reducible refine qif_t ?_ ?_); focus decide) | ((with_reducible refine qif_f ?_ ?_); focus decide) | (with_reducible refine And.intro (orderOk_i ?ho) ?_; (case ho => kernel_rfl)) | ((with_reducible refine qif_t ?_ ?_); focus (simp [hlt]; done)) | ((with_reducible refine qif_f ?_ ?_); focus (simp [hlt]; done)) | (with_reducible refine qif_i (fun _ => ?_) (fun _ => ?_)) | (with_reducible refine frcVs_i ?_) | (with_reducible refine frcRs_i ?_)) <;> (conv => whnf))))
          clear hlt hk hk1 hk16 hok
          refine qAW.loopE mixed (X := Nat) (fun k => slotsOf 82 [(0, .list 0 3 (l.map nbR)), (1, .val (.int .i64 ip)), (2, .val (.int .i64 mac)), (7, .val (.int .i64 o)), (9, .glist 1 3 ((st k).1.map nbR)), (10, .val (.bool (st k).2)), (11, .val (.int .i64 k))]) (fun k => [.perm, .uniq])
            (fun k => k ≤ l.length) (fun k => l.length - k) 0 (Nat.zero_le _) ?_ ?_
          · rw [st0]
            (refine qConv.of hB [] [(0, 0)] [] (by rfl) ?_; focus ((conv => whnf); (repeat (refine And.intro ?_ ?_; rotate_left; (conv => whnf))); exact trivial; all_goals (try (first | (with_reducible rfl) | (refine RowsRen.pl rfl rfl ?_; first | assumption | (focus (unfold PlRows; (repeat (first | exact .val _ | assumption | exact .any | (refine .agg _ ?_) | (refine .tup _ ?_) | (refine .list _ _ ?_) | (refine PlRows.mapF _ _ fun _ _ => ?_) | (simp only [List.forall_mem_cons]) | (refine ⟨?_, ?_⟩) | (exact fun _ h => absurd h List.not_mem_nil))); done)) | (focus (refine PlRows.mapF _ _ fun _ _ => ?_; (repeat (first | exact .val _ | assumption | exact .any | (refine .agg _ ?_) | (refine .tup _ ?_) | (refine .list _ _ ?_) | (refine PlRows.mapF _ _ fun _ _ => ?_) | (simp only [List.forall_mem_cons]) | (refine ⟨?_, ?_⟩) | (exact fun _ h => absurd h List.not_mem_nil))); done)))))))
            all_goals rfl
          · intro E k hk hE
            have hlen := stL k
            obtain ⟨⟨m, inn⟩, hst⟩ : ∃ p, st k = p := ⟨_, rfl⟩
            by_cases hlt : (k : Int) < l.length
            · obtain ⟨⟨i1, m1, a1⟩, hp⟩ : ∃ p, l[k]? = some p := ⟨_, List.getElem?_eq_getElem (by omega)⟩
              have hrow : (l.map nbR)[(k : Int).toNat]? = some (nR i1 m1 a1) := by simp [hp]
              have w := IntWalk.i64_in (k + 1) (by omega)
              have hstep := stS k
              rw [hst] at hstep hlen ⊢
              rw [show l.getD k (0, 0, 0) = (i1, m1, a1) by simp [List.getD, hp]] at hstep
              dsimp only at hstep hlen
              have hml : (m.map nbR).length ≤ 32 := by simp; omega
              have hml2 : ((m ++ [(ip, mac, 0)]).map nbR).length ≤ 33 := by simp at hml ⊢; omega
              have sn1 : m.map nbR ++ [nR ip mac 0] = (m ++ [(ip, mac, 0)]).map nbR := by simp
              have sn2 : m.map nbR ++ [nR i1 m1 a1] = (m ++ [(i1, m1, a1)]).map nbR := by simp
              have sn3 : (m ++ [(ip, mac, 0)]).map nbR ++ [nR i1 m1 a1] = (m ++ [(ip, mac, 0)] ++ [(i1, m1, a1)]).map nbR := by simp
              cases inn with
              | true =>
                by_cases hkb : ((k : Int) == o) = true
                · have hko : (k : Int) = o := by simpa using hkb
                  have hkn : ((k : Int) != o) = false := by simp [hko]
                  simp only [Bool.true_eq_false, false_and, if_false, hko, if_true] at hstep
                  clear hko
                  ((conv => whnf); (repeat (with_reducible refine frcRs_i ?_; (conv => whnf))); subst hE)
                  ((conv => whnf); (repeat' ((first | (with_reducible refine qif_n ?_) | (with_reducible refine qif_t (by assumption) ?_) | (with_reducible refine qif_f (by assumption) ?_) | ((with_reducible refine qif_t ?_ ?_); focus decide) | ((with_reducible refine qif_f ?_ ?_); focus decide) | (with_reducible refine And.intro (orderOk_i ?ho) ?_; (case ho => kernel_rfl)) | ((with_reducible refine qif_t ?_ ?_); focus (simp [hlt]; done)) | ((with_reducible refine qif_f ?_ ?_); focus (simp [hlt]; done)) | (with_reducible refine qif_i (fun _ => ?_) (fun _ => ?_)) | (with_reducible refine frcVs_i ?_) | (with_reducible refine frcRs_i ?_) | (refine qCase_i (idxL rfl rfl rfl rfl rfl rfl (by omega) hrow) ?_)) <;> (conv => whnf))))
                  refine ⟨k + 1, by omega, by omega, ?_⟩
                  dsimp only
                  rw [hstep]
                  (refine qConv.of hB [] [(0, 0), (1, 1)] [] (by rfl) ?_; focus ((conv => whnf); (repeat (refine And.intro ?_ ?_; rotate_left; (conv => whnf))); exact trivial; all_goals (try (first | (with_reducible rfl) | (refine RowsRen.pl rfl rfl ?_; first | assumption | (focus (unfold PlRows; (repeat (first | exact .val _ | assumption | exact .any | (refine .agg _ ?_) | (refine .tup _ ?_) | (refine .list _ _ ?_) | (refine PlRows.mapF _ _ fun _ _ => ?_) | (simp only [List.forall_mem_cons]) | (refine ⟨?_, ?_⟩) | (exact fun _ h => absurd h List.not_mem_nil))); done)) | (focus (refine PlRows.mapF _ _ fun _ _ => ?_; (repeat (first | exact .val _ | assumption | exact .any | (refine .agg _ ?_) | (refine .tup _ ?_) | (refine .list _ _ ?_) | (refine PlRows.mapF _ _ fun _ _ => ?_) | (simp only [List.forall_mem_cons]) | (refine ⟨?_, ?_⟩) | (exact fun _ h => absurd h List.not_mem_nil))); done)))))))
                  all_goals first | rfl | (simp [w]; done)
                · have hko : ¬ (k : Int) = o := by simpa using hkb
                  have hkn : ((k : Int) != o) = true := by simpa using hko
                  simp only [Bool.true_eq_false, false_and, if_false, hko] at hstep
                  ((conv => whnf); (repeat (with_reducible refine frcRs_i ?_; (conv => whnf))); subst hE)
                  ((conv => whnf); (repeat' ((first | (with_reducible refine qif_n ?_) | (with_reducible refine qif_t (by assumption) ?_) | (with_reducible refine qif_f (by assumption) ?_) | ((with_reducible refine qif_t ?_ ?_); focus decide) | ((with_reducible refine qif_f ?_ ?_); focus decide) | (with_reducible refine And.intro (orderOk_i ?ho) ?_; (case ho => kernel_rfl)) | ((with_reducible refine qif_t ?_ ?_); focus (simp [hlt]; done)) | ((with_reducible refine qif_f ?_ ?_); focus (simp [hlt]; done)) | (with_reducible refine qif_i (fun _ => ?_) (fun _ => ?_)) | (with_reducible refine frcVs_i ?_) | (with_reducible refine frcRs_i ?_) | (refine qCase_i (idxL rfl rfl rfl rfl rfl rfl (by omega) hrow) ?_) | (refine qCase_i (apG' (nb := 24) rfl rfl rfl rfl rfl rfl rfl rfl rfl rfl ⟨Nat.zero_lt_succ _, Nat.zero_lt_succ _, rfl⟩ rfl (Nat.le_trans (Nat.mul_le_mul_right _ (Nat.add_le_add hml (Nat.le_refl 1))) (by decide)) sn2) ?_)) <;> (conv => whnf))))
                  refine ⟨k + 1, by omega, by omega, ?_⟩
                  dsimp only
                  rw [hstep]
                  (refine qConv.of hB [] [(0, 0), (3, 1)] [] (by rfl) ?_; focus ((conv => whnf); (repeat (refine And.intro ?_ ?_; rotate_left; (conv => whnf))); exact trivial; all_goals (try (first | (with_reducible rfl) | (refine RowsRen.pl rfl rfl ?_; first | assumption | (focus (unfold PlRows; (repeat (first | exact .val _ | assumption | exact .any | (refine .agg _ ?_) | (refine .tup _ ?_) | (refine .list _ _ ?_) | (refine PlRows.mapF _ _ fun _ _ => ?_) | (simp only [List.forall_mem_cons]) | (refine ⟨?_, ?_⟩) | (exact fun _ h => absurd h List.not_mem_nil))); done)) | (focus (refine PlRows.mapF _ _ fun _ _ => ?_; (repeat (first | exact .val _ | assumption | exact .any | (refine .agg _ ?_) | (refine .tup _ ?_) | (refine .list _ _ ?_) | (refine PlRows.mapF _ _ fun _ _ => ?_) | (simp only [List.forall_mem_cons]) | (refine ⟨?_, ?_⟩) | (exact fun _ h => absurd h List.not_mem_nil))); done)))))))
                  all_goals first | rfl | (simp [w]; done)
              | false =>
                by_cases hge : ip ≤ i1
                · by_cases hkb : ((k : Int) == o) = true
                  · have hko : (k : Int) = o := by simpa using hkb
                    have hkn : ((k : Int) != o) = false := by simp [hko]
                    simp only [true_and, and_false, if_false, hko, hge, and_self, if_true] at hstep
                    clear hko
                    ((conv => whnf); (repeat (with_reducible refine frcRs_i ?_; (conv => whnf))); subst hE)
                    ((conv => whnf); (repeat' ((first | (with_reducible refine qif_n ?_) | (with_reducible refine qif_t (by assumption) ?_) | (with_reducible refine qif_f (by assumption) ?_) | ((with_reducible refine qif_t ?_ ?_); focus decide) | ((with_reducible refine qif_f ?_ ?_); focus decide) | (with_reducible refine And.intro (orderOk_i ?ho) ?_; (case ho => kernel_rfl)) | ((with_reducible refine qif_t ?_ ?_); focus (simp [hlt, hge]; done)) | ((with_reducible refine qif_f ?_ ?_); focus (simp [hlt, hge]; done)) | (with_reducible refine qif_i (fun _ => ?_) (fun _ => ?_)) | (with_reducible refine frcVs_i ?_) | (with_reducible refine frcRs_i ?_) | (refine qCase_i (idxL rfl rfl rfl rfl rfl rfl (by omega) hrow) ?_) | (refine qCase_i (apG' (nb := 24) rfl rfl rfl rfl rfl rfl rfl rfl rfl rfl ⟨Nat.zero_lt_succ _, Nat.zero_lt_succ _, rfl⟩ rfl (Nat.le_trans (Nat.mul_le_mul_right _ (Nat.add_le_add hml (Nat.le_refl 1))) (by decide)) sn1) ?_)) <;> (conv => whnf))))
                    refine ⟨k + 1, by omega, by omega, ?_⟩
                    dsimp only
                    rw [hstep]
                    (refine qConv.of hB [] [(0, 0), (3, 1)] [] (by rfl) ?_; focus ((conv => whnf); (repeat (refine And.intro ?_ ?_; rotate_left; (conv => whnf))); exact trivial; all_goals (try (first | (with_reducible rfl) | (refine RowsRen.pl rfl rfl ?_; first | assumption | (focus (unfold PlRows; (repeat (first | exact .val _ | assumption | exact .any | (refine .agg _ ?_) | (refine .tup _ ?_) | (refine .list _ _ ?_) | (refine PlRows.mapF _ _ fun _ _ => ?_) | (simp only [List.forall_mem_cons]) | (refine ⟨?_, ?_⟩) | (exact fun _ h => absurd h List.not_mem_nil))); done)) | (focus (refine PlRows.mapF _ _ fun _ _ => ?_; (repeat (first | exact .val _ | assumption | exact .any | (refine .agg _ ?_) | (refine .tup _ ?_) | (refine .list _ _ ?_) | (refine PlRows.mapF _ _ fun _ _ => ?_) | (simp only [List.forall_mem_cons]) | (refine ⟨?_, ?_⟩) | (exact fun _ h => absurd h List.not_mem_nil))); done)))))))
                    all_goals first | rfl | (simp [w]; done)
                  · have hko : ¬ (k : Int) = o := by simpa using hkb
                    have hkn : ((k : Int) != o) = true := by simpa using hko
                    simp only [true_and, and_false, if_false, hko, hge, and_self, if_true] at hstep
                    ((conv => whnf); (repeat (with_reducible refine frcRs_i ?_; (conv => whnf))); subst hE)
                    ((conv => whnf); (repeat' ((first | (with_reducible refine qif_n ?_) | (with_reducible refine qif_t (by assumption) ?_) | (with_reducible refine qif_f (by assumption) ?_) | ((with_reducible refine qif_t ?_ ?_); focus decide) | ((with_reducible refine qif_f ?_ ?_); focus decide) | (with_reducible refine And.intro (orderOk_i ?ho) ?_; (case ho => kernel_rfl)) | ((with_reducible refine qif_t ?_ ?_); focus (simp [hlt, hge]; done)) | ((with_reducible refine qif_f ?_ ?_); focus (simp [hlt, hge]; done)) | (with_reducible refine qif_i (fun _ => ?_) (fun _ => ?_)) | (with_reducible refine frcVs_i ?_) | (with_reducible refine frcRs_i ?_) | (refine qCase_i (idxL rfl rfl rfl rfl rfl rfl (by omega) hrow) ?_) | (refine qCase_i (apG' (nb := 24) rfl rfl rfl rfl rfl rfl rfl rfl rfl rfl ⟨Nat.zero_lt_succ _, Nat.zero_lt_succ _, rfl⟩ rfl (Nat.le_trans (Nat.mul_le_mul_right _ (Nat.add_le_add hml (Nat.le_refl 1))) (by decide)) sn1) ?_) | (refine qCase_i (apG' (nb := 24) rfl rfl rfl rfl rfl rfl rfl rfl rfl rfl ⟨Nat.zero_lt_succ _, Nat.zero_lt_succ _, rfl⟩ rfl (Nat.le_trans (Nat.mul_le_mul_right _ (Nat.add_le_add hml2 (Nat.le_refl 1))) (by decide)) sn3) ?_)) <;> (conv => whnf))))
                    refine ⟨k + 1, by omega, by omega, ?_⟩
                    dsimp only
                    rw [hstep]
                    (refine qConv.of hB [] [(0, 0), (5, 1)] [] (by rfl) ?_; focus ((conv => whnf); (repeat (refine And.intro ?_ ?_; rotate_left; (conv => whnf))); exact trivial; all_goals (try (first | (with_reducible rfl) | (refine RowsRen.pl rfl rfl ?_; first | assumption | (focus (unfold PlRows; (repeat (first | exact .val _ | assumption | exact .any | (refine .agg _ ?_) | (refine .tup _ ?_) | (refine .list _ _ ?_) | (refine PlRows.mapF _ _ fun _ _ => ?_) | (simp only [List.forall_mem_cons]) | (refine ⟨?_, ?_⟩) | (exact fun _ h => absurd h List.not_mem_nil))); done)) | (focus (refine PlRows.mapF _ _ fun _ _ => ?_; (repeat (first | exact .val _ | assumption | exact .any | (refine .agg _ ?_) | (refine .tup _ ?_) | (refine .list _ _ ?_) | (refine PlRows.mapF _ _ fun _ _ => ?_) | (simp only [List.forall_mem_cons]) | (refine ⟨?_, ?_⟩) | (exact fun _ h => absurd h List.not_mem_nil))); done)))))))
                    all_goals first | rfl | (simp [w]; done)
                · by_cases hkb : ((k : Int) == o) = true
                  · have hko : (k : Int) = o := by simpa using hkb
                    have hkn : ((k : Int) != o) = false := by simp [hko]
                    simp only [true_and, and_false, if_false, hko, hge, and_self, if_true] at hstep
                    clear hko
                    ((conv => whnf); (repeat (with_reducible refine frcRs_i ?_; (conv => whnf))); subst hE)
                    ((conv => whnf); (repeat' ((first | (with_reducible refine qif_n ?_) | (with_reducible refine qif_t (by assumption) ?_) | (with_reducible refine qif_f (by assumption) ?_) | ((with_reducible refine qif_t ?_ ?_); focus decide) | ((with_reducible refine qif_f ?_ ?_); focus decide) | (with_reducible refine And.intro (orderOk_i ?ho) ?_; (case ho => kernel_rfl)) | ((with_reducible refine qif_t ?_ ?_); focus (simp [hlt, hge]; done)) | ((with_reducible refine qif_f ?_ ?_); focus (simp [hlt, hge]; done)) | (with_reducible refine qif_i (fun _ => ?_) (fun _ => ?_)) | (with_reducible refine frcVs_i ?_) | (with_reducible refine frcRs_i ?_) | (refine qCase_i (idxL rfl rfl rfl rfl rfl rfl (by omega) hrow) ?_)) <;> (conv => whnf))))
                    refine ⟨k + 1, by omega, by omega, ?_⟩
                    dsimp only
                    rw [hstep]
                    (refine qConv.of hB [] [(0, 0), (1, 1)] [] (by rfl) ?_; focus ((conv => whnf); (repeat (refine And.intro ?_ ?_; rotate_left; (conv => whnf))); exact trivial; all_goals (try (first | (with_reducible rfl) | (refine RowsRen.pl rfl rfl ?_; first | assumption | (focus (unfold PlRows; (repeat (first | exact .val _ | assumption | exact .any | (refine .agg _ ?_) | (refine .tup _ ?_) | (refine .list _ _ ?_) | (refine PlRows.mapF _ _ fun _ _ => ?_) | (simp only [List.forall_mem_cons]) | (refine ⟨?_, ?_⟩) | (exact fun _ h => absurd h List.not_mem_nil))); done)) | (focus (refine PlRows.mapF _ _ fun _ _ => ?_; (repeat (first | exact .val _ | assumption | exact .any | (refine .agg _ ?_) | (refine .tup _ ?_) | (refine .list _ _ ?_) | (refine PlRows.mapF _ _ fun _ _ => ?_) | (simp only [List.forall_mem_cons]) | (refine ⟨?_, ?_⟩) | (exact fun _ h => absurd h List.not_mem_nil))); done)))))))
                    all_goals first | rfl | (simp [w]; done)
                  · have hko : ¬ (k : Int) = o := by simpa using hkb
                    have hkn : ((k : Int) != o) = true := by simpa using hko
                    simp only [true_and, and_false, if_false, hko, hge, and_self, if_true] at hstep
                    ((conv => whnf); (repeat (with_reducible refine frcRs_i ?_; (conv => whnf))); subst hE)
                    ((conv => whnf); (repeat' ((first | (with_reducible refine qif_n ?_) | (with_reducible refine qif_t (by assumption) ?_) | (with_reducible refine qif_f (by assumption) ?_) | ((with_reducible refine qif_t ?_ ?_); focus decide) | ((with_reducible refine qif_f ?_ ?_); focus decide) | (with_reducible refine And.intro (orderOk_i ?ho) ?_; (case ho => kernel_rfl)) | ((with_reducible refine qif_t ?_ ?_); focus (simp [hlt, hge]; done)) | ((with_reducible refine qif_f ?_ ?_); focus (simp [hlt, hge]; done)) | (with_reducible refine qif_i (fun _ => ?_) (fun _ => ?_)) | (with_reducible refine frcVs_i ?_) | (with_reducible refine frcRs_i ?_) | (refine qCase_i (idxL rfl rfl rfl rfl rfl rfl (by omega) hrow) ?_) | (refine qCase_i (apG' (nb := 24) rfl rfl rfl rfl rfl rfl rfl rfl rfl rfl ⟨Nat.zero_lt_succ _, Nat.zero_lt_succ _, rfl⟩ rfl (Nat.le_trans (Nat.mul_le_mul_right _ (Nat.add_le_add hml (Nat.le_refl 1))) (by decide)) sn2) ?_)) <;> (conv => whnf))))
                    refine ⟨k + 1, by omega, by omega, ?_⟩
                    dsimp only
                    rw [hstep]
                    (refine qConv.of hB [] [(0, 0), (3, 1)] [] (by rfl) ?_; focus ((conv => whnf); (repeat (refine And.intro ?_ ?_; rotate_left; (conv => whnf))); exact trivial; all_goals (try (first | (with_reducible rfl) | (refine RowsRen.pl rfl rfl ?_; first | assumption | (focus (unfold PlRows; (repeat (first | exact .val _ | assumption | exact .any | (refine .agg _ ?_) | (refine .tup _ ?_) | (refine .list _ _ ?_) | (refine PlRows.mapF _ _ fun _ _ => ?_) | (simp only [List.forall_mem_cons]) | (refine ⟨?_, ?_⟩) | (exact fun _ h => absurd h List.not_mem_nil))); done)) | (focus (refine PlRows.mapF _ _ fun _ _ => ?_; (repeat (first | exact .val _ | assumption | exact .any | (refine .agg _ ?_) | (refine .tup _ ?_) | (refine .list _ _ ?_) | (refine PlRows.mapF _ _ fun _ _ => ?_) | (simp only [List.forall_mem_cons]) | (refine ⟨?_, ?_⟩) | (exact fun _ h => absurd h List.not_mem_nil))); done)))))))
                    all_goals first | rfl | (simp [w]; done)
            · have hkl : k = l.length := by omega
              rw [hst] at hlen ⊢
              have hml : (m.map nbR).length ≤ 32 := by simp at hlen ⊢; omega
              have sn1 : m.map nbR ++ [nR ip mac 0] = (m ++ [(ip, mac, 0)]).map nbR := by simp
              rw [← hkl, hst] at hres
              dsimp only at hres
              cases inn with
              | true =>
                rw [if_pos rfl] at hres
                ((conv => whnf); (repeat (with_reducible refine frcRs_i ?_; (conv => whnf))); subst hE)
                ((conv => whnf); (repeat' ((first | (with_reducible refine qif_n ?_) | (with_reducible refine qif_t (by assumption) ?_) | (with_reducible refine qif_f (by assumption) ?_) | ((with_reducible refine qif_t ?_ ?_); focus decide) | ((with_reducible refine qif_f ?_ ?_); focus decide) | (with_reducible refine And.intro (orderOk_i ?ho) ?_; (case ho => kernel_rfl)) | ((with_reducible refine qif_t ?_ ?_); focus (simp [hlt]; done)) | ((with_reducible refine qif_f ?_ ?_); focus (simp [hlt]; done)) | (with_reducible refine qif_i (fun _ => ?_) (fun _ => ?_)) | (with_reducible refine frcVs_i ?_) | (with_reducible refine frcRs_i ?_)) <;> (conv => whnf))))
                rw [← hres]
                (refine qConv.of hB [] [(0, 0), (1, 1)] [] (by rfl) ?_; focus ((conv => whnf); (repeat (refine And.intro ?_ ?_; rotate_left; (conv => whnf))); exact trivial; all_goals (try (first | (with_reducible rfl) | (refine RowsRen.pl rfl rfl ?_; first | assumption | (focus (unfold PlRows; (repeat (first | exact .val _ | assumption | exact .any | (refine .agg _ ?_) | (refine .tup _ ?_) | (refine .list _ _ ?_) | (refine PlRows.mapF _ _ fun _ _ => ?_) | (simp only [List.forall_mem_cons]) | (refine ⟨?_, ?_⟩) | (exact fun _ h => absurd h List.not_mem_nil))); done)) | (focus (refine PlRows.mapF _ _ fun _ _ => ?_; (repeat (first | exact .val _ | assumption | exact .any | (refine .agg _ ?_) | (refine .tup _ ?_) | (refine .list _ _ ?_) | (refine PlRows.mapF _ _ fun _ _ => ?_) | (simp only [List.forall_mem_cons]) | (refine ⟨?_, ?_⟩) | (exact fun _ h => absurd h List.not_mem_nil))); done)))))))
                all_goals rfl
              | false =>
                rw [if_neg (by decide)] at hres
                ((conv => whnf); (repeat (with_reducible refine frcRs_i ?_; (conv => whnf))); subst hE)
                ((conv => whnf); (repeat' ((first | (with_reducible refine qif_n ?_) | (with_reducible refine qif_t (by assumption) ?_) | (with_reducible refine qif_f (by assumption) ?_) | ((with_reducible refine qif_t ?_ ?_); focus decide) | ((with_reducible refine qif_f ?_ ?_); focus decide) | (with_reducible refine And.intro (orderOk_i ?ho) ?_; (case ho => kernel_rfl)) | ((with_reducible refine qif_t ?_ ?_); focus (simp [hlt]; done)) | ((with_reducible refine qif_f ?_ ?_); focus (simp [hlt]; done)) | (with_reducible refine qif_i (fun _ => ?_) (fun _ => ?_)) | (with_reducible refine frcVs_i ?_) | (with_reducible refine frcRs_i ?_) | (refine qCase_i (apG' (nb := 24) rfl rfl rfl rfl rfl rfl rfl rfl rfl rfl ⟨Nat.zero_lt_succ _, Nat.zero_lt_succ _, rfl⟩ rfl (Nat.le_trans (Nat.mul_le_mul_right _ (Nat.add_le_add hml (Nat.le_refl 1))) (by decide)) sn1) ?_)) <;> (conv => whnf))))
                rw [← hres]
                (refine qConv.of hB [] [(0, 0), (3, 1)] [] (by rfl) ?_; focus ((conv => whnf); (repeat (refine And.intro ?_ ?_; rotate_left; (conv => whnf))); exact trivial; all_goals (try (first | (with_reducible rfl) | (refine RowsRen.pl rfl rfl ?_; first | assumption | (focus (unfold PlRows; (repeat (first | exact .val _ | assumption | exact .any | (refine .agg _ ?_) | (refine .tup _ ?_) | (refine .list _ _ ?_) | (refine PlRows.mapF _ _ fun _ _ => ?_) | (simp only [List.forall_mem_cons]) | (refine ⟨?_, ?_⟩) | (exact fun _ h => absurd h List.not_mem_nil))); done)) | (focus (refine PlRows.mapF _ _ fun _ _ => ?_; (repeat (first | exact .val _ | assumption | exact .any | (refine .agg _ ?_) | (refine .tup _ ?_) | (refine .list _ _ ?_) | (refine PlRows.mapF _ _ fun _ _ => ?_) | (simp only [List.forall_mem_cons]) | (refine ⟨?_, ?_⟩) | (exact fun _ h => absurd h List.not_mem_nil))); done)))))))
                all_goals rfl
    · have hn : letN l ip = -1 := by simp [letN, ht, h15]
      rw [hn] at ho
      rw [ho] at cF
      have hge : ¬ (16 : Int) ≤ l.length := by omega
      have ho0 : o < 0 := by omega
      refine ACallL.of_ev mixed Try.func43 rfl (fun a w => Try.call43 a w) (congrArg Array.toList Try.results43) Try.ntmps43 fun B hB => ?_
      ((conv => whnf); (repeat' ((first | (with_reducible refine qif_n ?_) | (with_reducible refine qif_t (by assumption) ?_) | (with_reducible refine qif_f (by assumption) ?_) | ((with_reducible refine qif_t ?_ ?_); focus decide) | ((with_reducible refine qif_f ?_ ?_); focus decide) | (with_reducible refine And.intro (orderOk_i ?ho) ?_; (case ho => kernel_rfl)) | ((with_reducible refine qif_t ?_ ?_); focus (simp [hge, ho0]; done)) | ((with_reducible refine qif_f ?_ ?_); focus (simp [hge, ho0]; done)) | (with_reducible refine qif_i (fun _ => ?_) (fun _ => ?_)) | (with_reducible refine frcVs_i ?_) | (with_reducible refine frcRs_i ?_) | ((with_reducible refine qCall.pure (cF) ?_ ?_ ?_ ?_); rotate_left 3; rotate_left; exact trivial; exact (by repeat (first | exact .val _ | assumption | exact .any | (refine .agg _ ?_) | (refine .tup _ ?_) | (refine .list _ _ ?_) | (refine PlRows.mapF _ _ fun _ _ => ?_) | (simp only [List.forall_mem_cons]) | (refine ⟨?_, ?_⟩) | (exact fun _ h => absurd h List.not_mem_nil))); exact (by repeat (first | exact .val _ | assumption | exact .any | (refine .agg _ ?_) | (refine .tup _ ?_) | (refine .list _ _ ?_) | (refine PlRows.mapF _ _ fun _ _ => ?_) | (simp only [List.forall_mem_cons]) | (refine ⟨?_, ?_⟩) | (exact fun _ h => absurd h List.not_mem_nil))))) <;> (conv => whnf))))
      refine qAW.loopE mixed (X := Nat) (fun k => slotsOf 82 [(0, .list 0 3 (l.map nbR)), (1, .val (.int .i64 ip)), (2, .val (.int .i64 mac)), (7, .val (.int .i64 o)), (9, .glist 1 3 ((st k).1.map nbR)), (10, .val (.bool (st k).2)), (11, .val (.int .i64 k))]) (fun k => [.perm, .uniq])
        (fun k => k ≤ l.length) (fun k => l.length - k) 0 (Nat.zero_le _) ?_ ?_
      · rw [st0]
        (refine qConv.of hB [] [(0, 0)] [] (by rfl) ?_; focus ((conv => whnf); (repeat (refine And.intro ?_ ?_; rotate_left; (conv => whnf))); exact trivial; all_goals (try (first | (with_reducible rfl) | (refine RowsRen.pl rfl rfl ?_; first | assumption | (focus (unfold PlRows; (repeat (first | exact .val _ | assumption | exact .any | (refine .agg _ ?_) | (refine .tup _ ?_) | (refine .list _ _ ?_) | (refine PlRows.mapF _ _ fun _ _ => ?_) | (simp only [List.forall_mem_cons]) | (refine ⟨?_, ?_⟩) | (exact fun _ h => absurd h List.not_mem_nil))); done)) | (focus (refine PlRows.mapF _ _ fun _ _ => ?_; (repeat (first | exact .val _ | assumption | exact .any | (refine .agg _ ?_) | (refine .tup _ ?_) | (refine .list _ _ ?_) | (refine PlRows.mapF _ _ fun _ _ => ?_) | (simp only [List.forall_mem_cons]) | (refine ⟨?_, ?_⟩) | (exact fun _ h => absurd h List.not_mem_nil))); done)))))))
        all_goals rfl
      · intro E k hk hE
        have hlen := stL k
        obtain ⟨⟨m, inn⟩, hst⟩ : ∃ p, st k = p := ⟨_, rfl⟩
        by_cases hlt : (k : Int) < l.length
        · obtain ⟨⟨i1, m1, a1⟩, hp⟩ : ∃ p, l[k]? = some p := ⟨_, List.getElem?_eq_getElem (by omega)⟩
          have hrow : (l.map nbR)[(k : Int).toNat]? = some (nR i1 m1 a1) := by simp [hp]
          have w := IntWalk.i64_in (k + 1) (by omega)
          have hstep := stS k
          rw [hst] at hstep hlen ⊢
          rw [show l.getD k (0, 0, 0) = (i1, m1, a1) by simp [List.getD, hp]] at hstep
          dsimp only at hstep hlen
          have hml : (m.map nbR).length ≤ 32 := by simp; omega
          have hml2 : ((m ++ [(ip, mac, 0)]).map nbR).length ≤ 33 := by simp at hml ⊢; omega
          have sn1 : m.map nbR ++ [nR ip mac 0] = (m ++ [(ip, mac, 0)]).map nbR := by simp
          have sn2 : m.map nbR ++ [nR i1 m1 a1] = (m ++ [(i1, m1, a1)]).map nbR := by simp
          have sn3 : (m ++ [(ip, mac, 0)]).map nbR ++ [nR i1 m1 a1] = (m ++ [(ip, mac, 0)] ++ [(i1, m1, a1)]).map nbR := by simp
          cases inn with
          | true =>
            by_cases hkb : ((k : Int) == o) = true
            · have hko : (k : Int) = o := by simpa using hkb
              have hkn : ((k : Int) != o) = false := by simp [hko]
              simp only [Bool.true_eq_false, false_and, if_false, hko, if_true] at hstep
              clear hko
              ((conv => whnf); (repeat (with_reducible refine frcRs_i ?_; (conv => whnf))); subst hE)
              ((conv => whnf); (repeat' ((first | (with_reducible refine qif_n ?_) | (with_reducible refine qif_t (by assumption) ?_) | (with_reducible refine qif_f (by assumption) ?_) | ((with_reducible refine qif_t ?_ ?_); focus decide) | ((with_reducible refine qif_f ?_ ?_); focus decide) | (with_reducible refine And.intro (orderOk_i ?ho) ?_; (case ho => kernel_rfl)) | ((with_reducible refine qif_t ?_ ?_); focus (simp [hlt]; done)) | ((with_reducible refine qif_f ?_ ?_); focus (simp [hlt]; done)) | (with_reducible refine qif_i (fun _ => ?_) (fun _ => ?_)) | (with_reducible refine frcVs_i ?_) | (with_reducible refine frcRs_i ?_) | (refine qCase_i (idxL rfl rfl rfl rfl rfl rfl (by omega) hrow) ?_)) <;> (conv => whnf))))
              refine ⟨k + 1, by omega, by omega, ?_⟩
              dsimp only
              rw [hstep]
              (refine qConv.of hB [] [(0, 0), (1, 1)] [] (by rfl) ?_; focus ((conv => whnf); (repeat (refine And.intro ?_ ?_; rotate_left; (conv => whnf))); exact trivial; all_goals (try (first | (with_reducible rfl) | (refine RowsRen.pl rfl rfl ?_; first | assumption | (focus (unfold PlRows; (repeat (first | exact .val _ | assumption | exact .any | (refine .agg _ ?_) | (refine .tup _ ?_) | (refine .list _ _ ?_) | (refine PlRows.mapF _ _ fun _ _ => ?_) | (simp only [List.forall_mem_cons]) | (refine ⟨?_, ?_⟩) | (exact fun _ h => absurd h List.not_mem_nil))); done)) | (focus (refine PlRows.mapF _ _ fun _ _ => ?_; (repeat (first | exact .val _ | assumption | exact .any | (refine .agg _ ?_) | (refine .tup _ ?_) | (refine .list _ _ ?_) | (refine PlRows.mapF _ _ fun _ _ => ?_) | (simp only [List.forall_mem_cons]) | (refine ⟨?_, ?_⟩) | (exact fun _ h => absurd h List.not_mem_nil))); done)))))))
              all_goals first | rfl | (simp [w]; done)
            · have hko : ¬ (k : Int) = o := by simpa using hkb
              have hkn : ((k : Int) != o) = true := by simpa using hko
              simp only [Bool.true_eq_false, false_and, if_false, hko] at hstep
              ((conv => whnf); (repeat (with_reducible refine frcRs_i ?_; (conv => whnf))); subst hE)
              ((conv => whnf); (repeat' ((first | (with_reducible refine qif_n ?_) | (with_reducible refine qif_t (by assumption) ?_) | (with_reducible refine qif_f (by assumption) ?_) | ((with_reducible refine qif_t ?_ ?_); focus decide) | ((with_reducible refine qif_f ?_ ?_); focus decide) | (with_reducible refine And.intro (orderOk_i ?ho) ?_; (case ho => kernel_rfl)) | ((with_reducible refine qif_t ?_ ?_); focus (simp [hlt]; done)) | ((with_reducible refine qif_f ?_ ?_); focus (simp [hlt]; done)) | (with_reducible refine qif_i (fun _ => ?_) (fun _ => ?_)) | (with_reducible refine frcVs_i ?_) | (with_reducible refine frcRs_i ?_) | (refine qCase_i (idxL rfl rfl rfl rfl rfl rfl (by omega) hrow) ?_) | (refine qCase_i (apG' (nb := 24) rfl rfl rfl rfl rfl rfl rfl rfl rfl rfl ⟨Nat.zero_lt_succ _, Nat.zero_lt_succ _, rfl⟩ rfl (Nat.le_trans (Nat.mul_le_mul_right _ (Nat.add_le_add hml (Nat.le_refl 1))) (by decide)) sn2) ?_)) <;> (conv => whnf))))
              refine ⟨k + 1, by omega, by omega, ?_⟩
              dsimp only
              rw [hstep]
              (refine qConv.of hB [] [(0, 0), (3, 1)] [] (by rfl) ?_; focus ((conv => whnf); (repeat (refine And.intro ?_ ?_; rotate_left; (conv => whnf))); exact trivial; all_goals (try (first | (with_reducible rfl) | (refine RowsRen.pl rfl rfl ?_; first | assumption | (focus (unfold PlRows; (repeat (first | exact .val _ | assumption | exact .any | (refine .agg _ ?_) | (refine .tup _ ?_) | (refine .list _ _ ?_) | (refine PlRows.mapF _ _ fun _ _ => ?_) | (simp only [List.forall_mem_cons]) | (refine ⟨?_, ?_⟩) | (exact fun _ h => absurd h List.not_mem_nil))); done)) | (focus (refine PlRows.mapF _ _ fun _ _ => ?_; (repeat (first | exact .val _ | assumption | exact .any | (refine .agg _ ?_) | (refine .tup _ ?_) | (refine .list _ _ ?_) | (refine PlRows.mapF _ _ fun _ _ => ?_) | (simp only [List.forall_mem_cons]) | (refine ⟨?_, ?_⟩) | (exact fun _ h => absurd h List.not_mem_nil))); done)))))))
              all_goals first | rfl | (simp [w]; done)
          | false =>
            by_cases hge : ip ≤ i1
            · by_cases hkb : ((k : Int) == o) = true
              · have hko : (k : Int) = o := by simpa using hkb
                have hkn : ((k : Int) != o) = false := by simp [hko]
                simp only [true_and, and_false, if_false, hko, hge, and_self, if_true] at hstep
                clear hko
                ((conv => whnf); (repeat (with_reducible refine frcRs_i ?_; (conv => whnf))); subst hE)
                ((conv => whnf); (repeat' ((first | (with_reducible refine qif_n ?_) | (with_reducible refine qif_t (by assumption) ?_) | (with_reducible refine qif_f (by assumption) ?_) | ((with_reducible refine qif_t ?_ ?_); focus decide) | ((with_reducible refine qif_f ?_ ?_); focus decide) | (with_reducible refine And.intro (orderOk_i ?ho) ?_; (case ho => kernel_rfl)) | ((with_reducible refine qif_t ?_ ?_); focus (simp [hlt, hge]; done)) | ((with_reducible refine qif_f ?_ ?_); focus (simp [hlt, hge]; done)) | (with_reducible refine qif_i (fun _ => ?_) (fun _ => ?_)) | (with_reducible refine frcVs_i ?_) | (with_reducible refine frcRs_i ?_) | (refine qCase_i (idxL rfl rfl rfl rfl rfl rfl (by omega) hrow) ?_) | (refine qCase_i (apG' (nb := 24) rfl rfl rfl rfl rfl rfl rfl rfl rfl rfl ⟨Nat.zero_lt_succ _, Nat.zero_lt_succ _, rfl⟩ rfl (Nat.le_trans (Nat.mul_le_mul_right _ (Nat.add_le_add hml (Nat.le_refl 1))) (by decide)) sn1) ?_)) <;> (conv => whnf))))
                refine ⟨k + 1, by omega, by omega, ?_⟩
                dsimp only
                rw [hstep]
                (refine qConv.of hB [] [(0, 0), (3, 1)] [] (by rfl) ?_; focus ((conv => whnf); (repeat (refine And.intro ?_ ?_; rotate_left; (conv => whnf))); exact trivial; all_goals (try (first | (with_reducible rfl) | (refine RowsRen.pl rfl rfl ?_; first | assumption | (focus (unfold PlRows; (repeat (first | exact .val _ | assumption | exact .any | (refine .agg _ ?_) | (refine .tup _ ?_) | (refine .list _ _ ?_) | (refine PlRows.mapF _ _ fun _ _ => ?_) | (simp only [List.forall_mem_cons]) | (refine ⟨?_, ?_⟩) | (exact fun _ h => absurd h List.not_mem_nil))); done)) | (focus (refine PlRows.mapF _ _ fun _ _ => ?_; (repeat (first | exact .val _ | assumption | exact .any | (refine .agg _ ?_) | (refine .tup _ ?_) | (refine .list _ _ ?_) | (refine PlRows.mapF _ _ fun _ _ => ?_) | (simp only [List.forall_mem_cons]) | (refine ⟨?_, ?_⟩) | (exact fun _ h => absurd h List.not_mem_nil))); done)))))))
                all_goals first | rfl | (simp [w]; done)
              · have hko : ¬ (k : Int) = o := by simpa using hkb
                have hkn : ((k : Int) != o) = true := by simpa using hko
                simp only [true_and, and_false, if_false, hko, hge, and_self, if_true] at hstep
                ((conv => whnf); (repeat (with_reducible refine frcRs_i ?_; (conv => whnf))); subst hE)
                ((conv => whnf); (repeat' ((first | (with_reducible refine qif_n ?_) | (with_reducible refine qif_t (by assumption) ?_) | (with_reducible refine qif_f (by assumption) ?_) | ((with_reducible refine qif_t ?_ ?_); focus decide) | ((with_reducible refine qif_f ?_ ?_); focus decide) | (with_reducible refine And.intro (orderOk_i ?ho) ?_; (case ho => kernel_rfl)) | ((with_reducible refine qif_t ?_ ?_); focus (simp [hlt, hge]; done)) | ((with_reducible refine qif_f ?_ ?_); focus (simp [hlt, hge]; done)) | (with_reducible refine qif_i (fun _ => ?_) (fun _ => ?_)) | (with_reducible refine frcVs_i ?_) | (with_reducible refine frcRs_i ?_) | (refine qCase_i (idxL rfl rfl rfl rfl rfl rfl (by omega) hrow) ?_) | (refine qCase_i (apG' (nb := 24) rfl rfl rfl rfl rfl rfl rfl rfl rfl rfl ⟨Nat.zero_lt_succ _, Nat.zero_lt_succ _, rfl⟩ rfl (Nat.le_trans (Nat.mul_le_mul_right _ (Nat.add_le_add hml (Nat.le_refl 1))) (by decide)) sn1) ?_) | (refine qCase_i (apG' (nb := 24) rfl rfl rfl rfl rfl rfl rfl rfl rfl rfl ⟨Nat.zero_lt_succ _, Nat.zero_lt_succ _, rfl⟩ rfl (Nat.le_trans (Nat.mul_le_mul_right _ (Nat.add_le_add hml2 (Nat.le_refl 1))) (by decide)) sn3) ?_)) <;> (conv => whnf))))
                refine ⟨k + 1, by omega, by omega, ?_⟩
                dsimp only
                rw [hstep]
                (refine qConv.of hB [] [(0, 0), (5, 1)] [] (by rfl) ?_; focus ((conv => whnf); (repeat (refine And.intro ?_ ?_; rotate_left; (conv => whnf))); exact trivial; all_goals (try (first | (with_reducible rfl) | (refine RowsRen.pl rfl rfl ?_; first | assumption | (focus (unfold PlRows; (repeat (first | exact .val _ | assumption | exact .any | (refine .agg _ ?_) | (refine .tup _ ?_) | (refine .list _ _ ?_) | (refine PlRows.mapF _ _ fun _ _ => ?_) | (simp only [List.forall_mem_cons]) | (refine ⟨?_, ?_⟩) | (exact fun _ h => absurd h List.not_mem_nil))); done)) | (focus (refine PlRows.mapF _ _ fun _ _ => ?_; (repeat (first | exact .val _ | assumption | exact .any | (refine .agg _ ?_) | (refine .tup _ ?_) | (refine .list _ _ ?_) | (refine PlRows.mapF _ _ fun _ _ => ?_) | (simp only [List.forall_mem_cons]) | (refine ⟨?_, ?_⟩) | (exact fun _ h => absurd h List.not_mem_nil))); done)))))))
                all_goals first | rfl | (simp [w]; done)
            · by_cases hkb : ((k : Int) == o) = true
              · have hko : (k : Int) = o := by simpa using hkb
                have hkn : ((k : Int) != o) = false := by simp [hko]
                simp only [true_and, and_false, if_false, hko, hge, and_self, if_true] at hstep
                clear hko
                ((conv => whnf); (repeat (with_reducible refine frcRs_i ?_; (conv => whnf))); subst hE)
                ((conv => whnf); (repeat' ((first | (with_reducible refine qif_n ?_) | (with_reducible refine qif_t (by assumption) ?_) | (with_reducible refine qif_f (by assumption) ?_) | ((with_reducible refine qif_t ?_ ?_); focus decide) | ((with_reducible refine qif_f ?_ ?_); focus decide) | (with_reducible refine And.intro (orderOk_i ?ho) ?_; (case ho => kernel_rfl)) | ((with_reducible refine qif_t ?_ ?_); focus (simp [hlt, hge]; done)) | ((with_reducible refine qif_f ?_ ?_); focus (simp [hlt, hge]; done)) | (with_reducible refine qif_i (fun _ => ?_) (fun _ => ?_)) | (with_reducible refine frcVs_i ?_) | (with_reducible refine frcRs_i ?_) | (refine qCase_i (idxL rfl rfl rfl rfl rfl rfl (by omega) hrow) ?_)) <;> (conv => whnf))))
                refine ⟨k + 1, by omega, by omega, ?_⟩
                dsimp only
                rw [hstep]
                (refine qConv.of hB [] [(0, 0), (1, 1)] [] (by rfl) ?_; focus ((conv => whnf); (repeat (refine And.intro ?_ ?_; rotate_left; (conv => whnf))); exact trivial; all_goals (try (first | (with_reducible rfl) | (refine RowsRen.pl rfl rfl ?_; first | assumption | (focus (unfold PlRows; (repeat (first | exact .val _ | assumption | exact .any | (refine .agg _ ?_) | (refine .tup _ ?_) | (refine .list _ _ ?_) | (refine PlRows.mapF _ _ fun _ _ => ?_) | (simp only [List.forall_mem_cons]) | (refine ⟨?_, ?_⟩) | (exact fun _ h => absurd h List.not_mem_nil))); done)) | (focus (refine PlRows.mapF _ _ fun _ _ => ?_; (repeat (first | exact .val _ | assumption | exact .any | (refine .agg _ ?_) | (refine .tup _ ?_) | (refine .list _ _ ?_) | (refine PlRows.mapF _ _ fun _ _ => ?_) | (simp only [List.forall_mem_cons]) | (refine ⟨?_, ?_⟩) | (exact fun _ h => absurd h List.not_mem_nil))); done)))))))
                all_goals first | rfl | (simp [w]; done)
              · have hko : ¬ (k : Int) = o := by simpa using hkb
                have hkn : ((k : Int) != o) = true := by simpa using hko
                simp only [true_and, and_false, if_false, hko, hge, and_self, if_true] at hstep
                ((conv => whnf); (repeat (with_reducible refine frcRs_i ?_; (conv => whnf))); subst hE)
                ((conv => whnf); (repeat' ((first | (with_reducible refine qif_n ?_) | (with_reducible refine qif_t (by assumption) ?_) | (with_reducible refine qif_f (by assumption) ?_) | ((with_reducible refine qif_t ?_ ?_); focus decide) | ((with_reducible refine qif_f ?_ ?_); focus decide) | (with_reducible refine And.intro (orderOk_i ?ho) ?_; (case ho => kernel_rfl)) | ((with_reducible refine qif_t ?_ ?_); focus (simp [hlt, hge]; done)) | ((with_reducible refine qif_f ?_ ?_); focus (simp [hlt, hge]; done)) | (with_reducible refine qif_i (fun _ => ?_) (fun _ => ?_)) | (with_reducible refine frcVs_i ?_) | (with_reducible refine frcRs_i ?_) | (refine qCase_i (idxL rfl rfl rfl rfl rfl rfl (by omega) hrow) ?_) | (refine qCase_i (apG' (nb := 24) rfl rfl rfl rfl rfl rfl rfl rfl rfl rfl ⟨Nat.zero_lt_succ _, Nat.zero_lt_succ _, rfl⟩ rfl (Nat.le_trans (Nat.mul_le_mul_right _ (Nat.add_le_add hml (Nat.le_refl 1))) (by decide)) sn2) ?_)) <;> (conv => whnf))))
                refine ⟨k + 1, by omega, by omega, ?_⟩
                dsimp only
                rw [hstep]
                (refine qConv.of hB [] [(0, 0), (3, 1)] [] (by rfl) ?_; focus ((conv => whnf); (repeat (refine And.intro ?_ ?_; rotate_left; (conv => whnf))); exact trivial; all_goals (try (first | (with_reducible rfl) | (refine RowsRen.pl rfl rfl ?_; first | assumption | (focus (unfold PlRows; (repeat (first | exact .val _ | assumption | exact .any | (refine .agg _ ?_) | (refine .tup _ ?_) | (refine .list _ _ ?_) | (refine PlRows.mapF _ _ fun _ _ => ?_) | (simp only [List.forall_mem_cons]) | (refine ⟨?_, ?_⟩) | (exact fun _ h => absurd h List.not_mem_nil))); done)) | (focus (refine PlRows.mapF _ _ fun _ _ => ?_; (repeat (first | exact .val _ | assumption | exact .any | (refine .agg _ ?_) | (refine .tup _ ?_) | (refine .list _ _ ?_) | (refine PlRows.mapF _ _ fun _ _ => ?_) | (simp only [List.forall_mem_cons]) | (refine ⟨?_, ?_⟩) | (exact fun _ h => absurd h List.not_mem_nil))); done)))))))
                all_goals first | rfl | (simp [w]; done)
        · have hkl : k = l.length := by omega
          rw [hst] at hlen ⊢
          have hml : (m.map nbR).length ≤ 32 := by simp at hlen ⊢; omega
          have sn1 : m.map nbR ++ [nR ip mac 0] = (m ++ [(ip, mac, 0)]).map nbR := by simp
          rw [← hkl, hst] at hres
          dsimp only at hres
          cases inn with
          | true =>
            rw [if_pos rfl] at hres
            ((conv => whnf); (repeat (with_reducible refine frcRs_i ?_; (conv => whnf))); subst hE)
            ((conv => whnf); (repeat' ((first | (with_reducible refine qif_n ?_) | (with_reducible refine qif_t (by assumption) ?_) | (with_reducible refine qif_f (by assumption) ?_) | ((with_reducible refine qif_t ?_ ?_); focus decide) | ((with_reducible refine qif_f ?_ ?_); focus decide) | (with_reducible refine And.intro (orderOk_i ?ho) ?_; (case ho => kernel_rfl)) | ((with_reducible refine qif_t ?_ ?_); focus (simp [hlt]; done)) | ((with_reducible refine qif_f ?_ ?_); focus (simp [hlt]; done)) | (with_reducible refine qif_i (fun _ => ?_) (fun _ => ?_)) | (with_reducible refine frcVs_i ?_) | (with_reducible refine frcRs_i ?_)) <;> (conv => whnf))))
            rw [← hres]
            (refine qConv.of hB [] [(0, 0), (1, 1)] [] (by rfl) ?_; focus ((conv => whnf); (repeat (refine And.intro ?_ ?_; rotate_left; (conv => whnf))); exact trivial; all_goals (try (first | (with_reducible rfl) | (refine RowsRen.pl rfl rfl ?_; first | assumption | (focus (unfold PlRows; (repeat (first | exact .val _ | assumption | exact .any | (refine .agg _ ?_) | (refine .tup _ ?_) | (refine .list _ _ ?_) | (refine PlRows.mapF _ _ fun _ _ => ?_) | (simp only [List.forall_mem_cons]) | (refine ⟨?_, ?_⟩) | (exact fun _ h => absurd h List.not_mem_nil))); done)) | (focus (refine PlRows.mapF _ _ fun _ _ => ?_; (repeat (first | exact .val _ | assumption | exact .any | (refine .agg _ ?_) | (refine .tup _ ?_) | (refine .list _ _ ?_) | (refine PlRows.mapF _ _ fun _ _ => ?_) | (simp only [List.forall_mem_cons]) | (refine ⟨?_, ?_⟩) | (exact fun _ h => absurd h List.not_mem_nil))); done)))))))
            all_goals rfl
          | false =>
            rw [if_neg (by decide)] at hres
            ((conv => whnf); (repeat (with_reducible refine frcRs_i ?_; (conv => whnf))); subst hE)
            ((conv => whnf); (repeat' ((first | (with_reducible refine qif_n ?_) | (with_reducible refine qif_t (by assumption) ?_) | (with_reducible refine qif_f (by assumption) ?_) | ((with_reducible refine qif_t ?_ ?_); focus decide) | ((with_reducible refine qif_f ?_ ?_); focus decide) | (with_reducible refine And.intro (orderOk_i ?ho) ?_; (case ho => kernel_rfl)) | ((with_reducible refine qif_t ?_ ?_); focus (simp [hlt]; done)) | ((with_reducible refine qif_f ?_ ?_); focus (simp [hlt]; done)) | (with_reducible refine qif_i (fun _ => ?_) (fun _ => ?_)) | (with_reducible refine frcVs_i ?_) | (with_reducible refine frcRs_i ?_) | (refine qCase_i (apG' (nb := 24) rfl rfl rfl rfl rfl rfl rfl rfl rfl rfl ⟨Nat.zero_lt_succ _, Nat.zero_lt_succ _, rfl⟩ rfl (Nat.le_trans (Nat.mul_le_mul_right _ (Nat.add_le_add hml (Nat.le_refl 1))) (by decide)) sn1) ?_)) <;> (conv => whnf))))
            rw [← hres]
            (refine qConv.of hB [] [(0, 0), (3, 1)] [] (by rfl) ?_; focus ((conv => whnf); (repeat (refine And.intro ?_ ?_; rotate_left; (conv => whnf))); exact trivial; all_goals (try (first | (with_reducible rfl) | (refine RowsRen.pl rfl rfl ?_; first | assumption | (focus (unfold PlRows; (repeat (first | exact .val _ | assumption | exact .any | (refine .agg _ ?_) | (refine .tup _ ?_) | (refine .list _ _ ?_) | (refine PlRows.mapF _ _ fun _ _ => ?_) | (simp only [List.forall_mem_cons]) | (refine ⟨?_, ?_⟩) | (exact fun _ h => absurd h List.not_mem_nil))); done)) | (focus (refine PlRows.mapF _ _ fun _ _ => ?_; (repeat (first | exact .val _ | assumption | exact .any | (refine .agg _ ?_) | (refine .tup _ ?_) | (refine .list _ _ ?_) | (refine PlRows.mapF _ _ fun _ _ => ?_) | (simp only [List.forall_mem_cons]) | (refine ⟨?_, ?_⟩) | (exact fun _ h => absurd h List.not_mem_nil))); done)))))))
            all_goals rfl
end Go.Proofs.Ytjmjnndmpeeppaa

/- Neighbours: one is found, a tick goes by; on data. Condition: lengths. -/
import Derived.Test.YtjmjnndmpeeppaaAhNb
-- light
namespace Go.Proofs.Ytjmjnndmpeeppaa
open Go.RowKit
set_option linter.unusedVariables false
set_option linter.unusedSimpArgs false
set_option maxRecDepth 100000
set_option maxHeartbeats 4000000

theorem mayN_all {l : List Nb} (h : mayN l = true) : (∀ j, j < l.length → okAt l j = true) ∧ l.length ≤ 16 := by
  simp only [mayN, Bool.and_eq_true, decide_eq_true_eq, List.all_eq_true, List.mem_range] at h
  exact h
theorem mayN_srt {l : List Nb} (h : mayN l = true) : srt l := by
  obtain ⟨ha, _⟩ := mayN_all h
  have step : ∀ (k : Nat) (p q : Nb), l[k]? = some p → l[k + 1]? = some q → p.1 < q.1 := fun k p q hp hq => by
    have := ha (k + 1) (List.getElem?_eq_some_iff.1 hq).1
    rw [okAt_s hq hp] at this
    simp only [Bool.and_eq_true, decide_eq_true_eq] at this
    exact this.2
  clear ha h
  unfold srt
  rw [List.pairwise_iff_getElem]
  intro i j hi hj hij
  obtain ⟨d, rfl⟩ : ∃ d, j = i + 1 + d := ⟨j - i - 1, by omega⟩
  induction d with
  | zero => exact step i _ _ (List.getElem?_eq_getElem hi) (List.getElem?_eq_getElem hj)
  | succ d ih =>
    have h1 := ih (by omega) (by omega)
    have h2 := step (i + 1 + d) l[i + 1 + d] l[i + 1 + (d + 1)] (List.getElem?_eq_getElem _) (List.getElem?_eq_getElem hj)
    omega
theorem find_l (l : List Nb) (t : Int) (hs : srt l) (hl : l.length ≤ 100000000) : ACallL Try.prog 62 [.list 0 3 (l.map nbR), .val (.int .i64 t)] [.perm] (.tup [.val (.int .i64 (posN l t)), .val (.bool (thereN l t))]) [.perm] := by
  have px := pl_nbs l
  refine ACallL.of_ev mixed Try.func62 rfl (fun a w => Try.call62 a w) (congrArg Array.toList Try.results62) Try.ntmps62 fun B hB => ?_
  ((conv => whnf); (repeat' ((first | (with_reducible refine qif_n ?_) | (with_reducible refine qif_t (by assumption) ?_) | (with_reducible refine qif_f (by assumption) ?_) | ((with_reducible refine qif_t ?_ ?_); focus decide) | ((with_reducible refine qif_f ?_ ?_); focus decide) | (with_reducible refine And.intro (orderOk_i ?ho) ?_; (case ho => kernel_rfl)) | (with_reducible refine qif_i (fun _ => ?_) (fun _ => ?_)) | (with_reducible refine frcVs_i ?_) | (with_reducible refine frcRs_i ?_)) <;> (conv => whnf))))
  ((with_reducible refine qCall.reads (bsearch_l l t hs hl) [(0, 0)] [] ?hk ?_); (case hk => rfl); (conv => whnf); (repeat (refine And.intro ?_ ?_; (focus (first | (with_reducible refine orderOk_i ?_; kernel_rfl) | (with_reducible rfl) | rfl | assumption | (refine RowsRen.vals ?_ ?_; (focus (first | rfl | assumption | (simp [List.take_of_length_le]; done))); (focus (simp [AV.isVal]; done))))); (conv => whnf))); (fail_if_success (with_reducible refine And.intro (eqv_i ?_) ?_)); (fail_if_success (with_reducible refine And.intro (ren_i ?_) ?_)))
  ((conv => whnf); (repeat' ((first | (with_reducible refine qif_n ?_) | (with_reducible refine qif_t (by assumption) ?_) | (with_reducible refine qif_f (by assumption) ?_) | ((with_reducible refine qif_t ?_ ?_); focus decide) | ((with_reducible refine qif_f ?_ ?_); focus decide) | (with_reducible refine And.intro (orderOk_i ?ho) ?_; (case ho => kernel_rfl)) | (with_reducible refine qif_i (fun _ => ?_) (fun _ => ?_)) | (with_reducible refine frcVs_i ?_) | (with_reducible refine frcRs_i ?_)) <;> (conv => whnf))))
  (refine qConv.of hB [] [(0, 0)] [] (by rfl) ?_; focus ((conv => whnf); (repeat (refine And.intro ?_ ?_; rotate_left; (conv => whnf))); exact trivial; all_goals (try (first | (with_reducible rfl) | (refine RowsRen.pl rfl rfl ?_; first | assumption | (focus (unfold PlRows; (repeat (first | exact .val _ | assumption | exact .any | (refine .agg _ ?_) | (refine .tup _ ?_) | (refine .list _ _ ?_) | (refine PlRows.mapF _ _ fun _ _ => ?_) | (simp only [List.forall_mem_cons]) | (refine ⟨?_, ?_⟩) | (exact fun _ h => absurd h List.not_mem_nil))); done)) | (focus (refine PlRows.mapF _ _ fun _ _ => ?_; (repeat (first | exact .val _ | assumption | exact .any | (refine .agg _ ?_) | (refine .tup _ ?_) | (refine .list _ _ ?_) | (refine PlRows.mapF _ _ fun _ _ => ?_) | (simp only [List.forall_mem_cons]) | (refine ⟨?_, ?_⟩) | (exact fun _ h => absurd h List.not_mem_nil))); done)))))))
/-- the error of a search, and what is found -/
def fdE (l : List Nb) (t : Int) : Int := if mayN l then if thereN l t then 0 else 3 else 1
def fdM (l : List Nb) (t : Int) : Int := if mayN l && thereN l t then (l.getD (posN l t) (0, 0, 0)).2.1 else 0
theorem Find_l (l : List Nb) (t : Int) (hl : l.length ≤ 100000000) : ACallL Try.prog 34 [.list 0 3 (l.map nbR), .val (.int .i64 t)] [.perm] (.tup [.val (.int .i64 (fdM l t)), .val (.int .i64 (fdE l t))]) [.perm] := by
  have px := pl_nbs l
  have cM := mayN_l l hl
  by_cases hm : mayN l = true
  · have cF := find_l l t (mayN_srt hm) hl
    rw [hm] at cM
    by_cases ht : thereN l t = true
    · have h1 := ht
      unfold thereN at h1
      obtain ⟨⟨ip, mac, age⟩, hp⟩ : ∃ p, l[posN l t]? = some p := by
        cases h : l[posN l t]? with
        | none => rw [h] at h1; cases h1
        | some p => exact ⟨p, rfl⟩
      have hrow : (l.map nbR)[((posN l t : Nat) : Int).toNat]? = some (nR ip mac age) := by simp [hp]
      have e1 : fdM l t = mac := by simp [fdM, hm, ht, List.getD, hp]
      have e2 : fdE l t = 0 := by simp [fdE, hm, ht]
      rw [ht] at cF
      rw [e1, e2]
      refine ACallL.of_ev mixed Try.func34 rfl (fun a w => Try.call34 a w) (congrArg Array.toList Try.results34) Try.ntmps34 fun B hB => ?_
      ((conv => whnf); (repeat' ((first | (with_reducible refine qif_n ?_) | (with_reducible refine qif_t (by assumption) ?_) | (with_reducible refine qif_f (by assumption) ?_) | ((with_reducible refine qif_t ?_ ?_); focus decide) | ((with_reducible refine qif_f ?_ ?_); focus decide) | (with_reducible refine And.intro (orderOk_i ?ho) ?_; (case ho => kernel_rfl)) | (with_reducible refine qif_i (fun _ => ?_) (fun _ => ?_)) | (with_reducible refine frcVs_i ?_) | (with_reducible refine frcRs_i ?_) | ((with_reducible refine qCall.pure (cM) ?_ ?_ ?_ ?_); rotate_left 3; rotate_left; exact trivial; exact (by repeat (first | exact .val _ | assumption | exact .any | (refine .agg _ ?_) | (refine .tup _ ?_) | (refine .list _ _ ?_) | (refine PlRows.mapF _ _ fun _ _ => ?_) | (simp only [List.forall_mem_cons]) | (refine ⟨?_, ?_⟩) | (exact fun _ h => absurd h List.not_mem_nil))); exact (by repeat (first | exact .val _ | assumption | exact .any | (refine .agg _ ?_) | (refine .tup _ ?_) | (refine .list _ _ ?_) | (refine PlRows.mapF _ _ fun _ _ => ?_) | (simp only [List.forall_mem_cons]) | (refine ⟨?_, ?_⟩) | (exact fun _ h => absurd h List.not_mem_nil)))) | ((with_reducible refine qCall.pure (cF) ?_ ?_ ?_ ?_); rotate_left 3; rotate_left; exact trivial; exact (by repeat (first | exact .val _ | assumption | exact .any | (refine .agg _ ?_) | (refine .tup _ ?_) | (refine .list _ _ ?_) | (refine PlRows.mapF _ _ fun _ _ => ?_) | (simp only [List.forall_mem_cons]) | (refine ⟨?_, ?_⟩) | (exact fun _ h => absurd h List.not_mem_nil))); exact (by repeat (first | exact .val _ | assumption | exact .any | (refine .agg _ ?_) | (refine .tup _ ?_) | (refine .list _ _ ?_) | (refine PlRows.mapF _ _ fun _ _ => ?_) | (simp only [List.forall_mem_cons]) | (refine ⟨?_, ?_⟩) | (exact fun _ h => absurd h List.not_mem_nil)))) | (refine qCase_i (idxL rfl rfl rfl rfl rfl rfl (by omega) hrow) ?_)) <;> (conv => whnf))))
      all_goals (refine qConv.of hB [] [(0, 0)] [] (by rfl) ?_; focus ((conv => whnf); (repeat (refine And.intro ?_ ?_; rotate_left; (conv => whnf))); exact trivial; all_goals (try (first | (with_reducible rfl) | (refine RowsRen.pl rfl rfl ?_; first | assumption | (focus (unfold PlRows; (repeat (first | exact .val _ | assumption | exact .any | (refine .agg _ ?_) | (refine .tup _ ?_) | (refine .list _ _ ?_) | (refine PlRows.mapF _ _ fun _ _ => ?_) | (simp only [List.forall_mem_cons]) | (refine ⟨?_, ?_⟩) | (exact fun _ h => absurd h List.not_mem_nil))); done)) | (focus (refine PlRows.mapF _ _ fun _ _ => ?_; (repeat (first | exact .val _ | assumption | exact .any | (refine .agg _ ?_) | (refine .tup _ ?_) | (refine .list _ _ ?_) | (refine PlRows.mapF _ _ fun _ _ => ?_) | (simp only [List.forall_mem_cons]) | (refine ⟨?_, ?_⟩) | (exact fun _ h => absurd h List.not_mem_nil))); done)))))))
    · have ht : thereN l t = false := by simpa using ht
      rw [ht] at cF
      have e1 : fdM l t = 0 := by simp [fdM, hm, ht]
      have e2 : fdE l t = 3 := by simp [fdE, hm, ht]
      rw [e1, e2]
      refine ACallL.of_ev mixed Try.func34 rfl (fun a w => Try.call34 a w) (congrArg Array.toList Try.results34) Try.ntmps34 fun B hB => ?_
      ((conv => whnf); (repeat' ((first | (with_reducible refine qif_n ?_) | (with_reducible refine qif_t (by assumption) ?_) | (with_reducible refine qif_f (by assumption) ?_) | ((with_reducible refine qif_t ?_ ?_); focus decide) | ((with_reducible refine qif_f ?_ ?_); focus decide) | (with_reducible refine And.intro (orderOk_i ?ho) ?_; (case ho => kernel_rfl)) | (with_reducible refine qif_i (fun _ => ?_) (fun _ => ?_)) | (with_reducible refine frcVs_i ?_) | (with_reducible refine frcRs_i ?_) | ((with_reducible refine qCall.pure (cM) ?_ ?_ ?_ ?_); rotate_left 3; rotate_left; exact trivial; exact (by repeat (first | exact .val _ | assumption | exact .any | (refine .agg _ ?_) | (refine .tup _ ?_) | (refine .list _ _ ?_) | (refine PlRows.mapF _ _ fun _ _ => ?_) | (simp only [List.forall_mem_cons]) | (refine ⟨?_, ?_⟩) | (exact fun _ h => absurd h List.not_mem_nil))); exact (by repeat (first | exact .val _ | assumption | exact .any | (refine .agg _ ?_) | (refine .tup _ ?_) | (refine .list _ _ ?_) | (refine PlRows.mapF _ _ fun _ _ => ?_) | (simp only [List.forall_mem_cons]) | (refine ⟨?_, ?_⟩) | (exact fun _ h => absurd h List.not_mem_nil)))) | ((with_reducible refine qCall.pure (cF) ?_ ?_ ?_ ?_); rotate_left 3; rotate_left; exact trivial; exact (by repeat (first | exact .val _ | assumption | exact .any | (refine .agg _ ?_) | (refine .tup _ ?_) | (refine .list _ _ ?_) | (refine PlRows.mapF _ _ fun _ _ => ?_) | (simp only [List.forall_mem_cons]) | (refine ⟨?_, ?_⟩) | (exact fun _ h => absurd h List.not_mem_nil))); exact (by repeat (first | exact .val _ | assumption | exact .any | (refine .agg _ ?_) | (refine .tup _ ?_) | (refine .list _ _ ?_) | (refine PlRows.mapF _ _ fun _ _ => ?_) | (simp only [List.forall_mem_cons]) | (refine ⟨?_, ?_⟩) | (exact fun _ h => absurd h List.not_mem_nil))))) <;> (conv => whnf))))
      all_goals (refine qConv.of hB [] [(0, 0)] [] (by rfl) ?_; focus ((conv => whnf); (repeat (refine And.intro ?_ ?_; rotate_left; (conv => whnf))); exact trivial; all_goals (try (first | (with_reducible rfl) | (refine RowsRen.pl rfl rfl ?_; first | assumption | (focus (unfold PlRows; (repeat (first | exact .val _ | assumption | exact .any | (refine .agg _ ?_) | (refine .tup _ ?_) | (refine .list _ _ ?_) | (refine PlRows.mapF _ _ fun _ _ => ?_) | (simp only [List.forall_mem_cons]) | (refine ⟨?_, ?_⟩) | (exact fun _ h => absurd h List.not_mem_nil))); done)) | (focus (refine PlRows.mapF _ _ fun _ _ => ?_; (repeat (first | exact .val _ | assumption | exact .any | (refine .agg _ ?_) | (refine .tup _ ?_) | (refine .list _ _ ?_) | (refine PlRows.mapF _ _ fun _ _ => ?_) | (simp only [List.forall_mem_cons]) | (refine ⟨?_, ?_⟩) | (exact fun _ h => absurd h List.not_mem_nil))); done)))))))
  · have hm : mayN l = false := by simpa using hm
    rw [hm] at cM
    have e1 : fdM l t = 0 := by simp [fdM, hm]
    have e2 : fdE l t = 1 := by simp [fdE, hm]
    rw [e1, e2]
    refine ACallL.of_ev mixed Try.func34 rfl (fun a w => Try.call34 a w) (congrArg Array.toList Try.results34) Try.ntmps34 fun B hB => ?_
    ((conv => whnf); (repeat' ((first | (with_reducible refine qif_n ?_) | (with_reducible refine qif_t (by assumption) ?_) | (with_reducible refine qif_f (by assumption) ?_) | ((with_reducible refine qif_t ?_ ?_); focus decide) | ((with_reducible refine qif_f ?_ ?_); focus decide) | (with_reducible refine And.intro (orderOk_i ?ho) ?_; (case ho => kernel_rfl)) | (with_reducible refine qif_i (fun _ => ?_) (fun _ => ?_)) | (with_reducible refine frcVs_i ?_) | (with_reducible refine frcRs_i ?_) | ((with_reducible refine qCall.pure (cM) ?_ ?_ ?_ ?_); rotate_left 3; rotate_left; exact trivial; exact (by repeat (first | exact .val _ | assumption | exact .any | (refine .agg _ ?_) | (refine .tup _ ?_) | (refine .list _ _ ?_) | (refine PlRows.mapF _ _ fun _ _ => ?_) | (simp only [List.forall_mem_cons]) | (refine ⟨?_, ?_⟩) | (exact fun _ h => absurd h List.not_mem_nil))); exact (by repeat (first | exact .val _ | assumption | exact .any | (refine .agg _ ?_) | (refine .tup _ ?_) | (refine .list _ _ ?_) | (refine PlRows.mapF _ _ fun _ _ => ?_) | (simp only [List.forall_mem_cons]) | (refine ⟨?_, ?_⟩) | (exact fun _ h => absurd h List.not_mem_nil))))) <;> (conv => whnf))))
    all_goals (refine qConv.of hB [] [(0, 0)] [] (by rfl) ?_; focus ((conv => whnf); (repeat (refine And.intro ?_ ?_; rotate_left; (conv => whnf))); exact trivial; all_goals (try (first | (with_reducible rfl) | (refine RowsRen.pl rfl rfl ?_; first | assumption | (focus (unfold PlRows; (repeat (first | exact .val _ | assumption | exact .any | (refine .agg _ ?_) | (refine .tup _ ?_) | (refine .list _ _ ?_) | (refine PlRows.mapF _ _ fun _ _ => ?_) | (simp only [List.forall_mem_cons]) | (refine ⟨?_, ?_⟩) | (exact fun _ h => absurd h List.not_mem_nil))); done)) | (focus (refine PlRows.mapF _ _ fun _ _ => ?_; (repeat (first | exact .val _ | assumption | exact .any | (refine .agg _ ?_) | (refine .tup _ ?_) | (refine .list _ _ ?_) | (refine PlRows.mapF _ _ fun _ _ => ?_) | (simp only [List.forall_mem_cons]) | (refine ⟨?_, ?_⟩) | (exact fun _ h => absurd h List.not_mem_nil))); done)))))))
/-- a tick later -/
def tickS (l : List Nb) : List Nb := (l.filter fun p => decide (p.2.2 + 1 ≤ 600)).map fun p => (p.1, p.2.1, p.2.2 + 1)
theorem tickS_snoc {l : List Nb} {k : Nat} {p : Nb} (h : l[k]? = some p) : tickS (l.take (k + 1)) = if p.2.2 + 1 ≤ 600 then tickS (l.take k) ++ [(p.1, p.2.1, p.2.2 + 1)] else tickS (l.take k) := by
  rw [take_snoc h, tickS, List.filter_append, List.map_append]
  by_cases hp : p.2.2 + 1 ≤ 600
  · rw [if_pos hp]; simp [hp, tickS]
  · rw [if_neg hp]; simp [hp, tickS]
/-- a list, or nothing -/
def nbA (id : Nat) : List Nb → AV
  | [] => .val (.slice none 0 0)
  | p :: l => .sl id 0 (l.length + 1)
def nbO : List Nb → Own
  | [] => .unused
  | p :: l => .live ⟨3, 74, nbR p :: l.map nbR⟩
theorem Tick_no (l : List Nb) (hl : l.length ≤ 100000000) (hm : mayN l = false) : ACallL Try.prog 41 [.list 0 3 (l.map nbR)] [.perm] (.tup [.val (.slice none 0 0), .val (.int .i64 1)]) [.perm] := by
  have px := pl_nbs l
  have cM := mayN_l l hl
  rw [hm] at cM
  refine ACallL.of_ev mixed Try.func41 rfl (fun a w => Try.call41 a w) (congrArg Array.toList Try.results41) Try.ntmps41 fun B hB => ?_
  ((conv => whnf); (repeat' ((first | (with_reducible refine qif_n ?_) | (with_reducible refine qif_t (by assumption) ?_) | (with_reducible refine qif_f (by assumption) ?_) | ((with_reducible refine qif_t ?_ ?_); focus decide) | ((with_reducible refine qif_f ?_ ?_); focus decide) | (with_reducible refine And.intro (orderOk_i ?ho) ?_; (case ho => kernel_rfl)) | (with_reducible refine qif_i (fun _ => ?_) (fun _ => ?_)) | (with_reducible refine frcVs_i ?_) | (with_reducible refine frcRs_i ?_) | ((with_reducible refine qCall.pure (cM) ?_ ?_ ?_ ?_); rotate_left 3; rotate_left; exact trivial; exact (by repeat (first | exact .val _ | assumption | exact .any | (refine .agg _ ?_) | (refine .tup _ ?_) | (refine .list _ _ ?_) | (refine PlRows.mapF _ _ fun _ _ => ?_) | (simp only [List.forall_mem_cons]) | (refine ⟨?_, ?_⟩) | (exact fun _ h => absurd h List.not_mem_nil))); exact (by repeat (first | exact .val _ | assumption | exact .any | (refine .agg _ ?_) | (refine .tup _ ?_) | (refine .list _ _ ?_) | (refine PlRows.mapF _ _ fun _ _ => ?_) | (simp only [List.forall_mem_cons]) | (refine ⟨?_, ?_⟩) | (exact fun _ h => absurd h List.not_mem_nil))))) <;> (conv => whnf))))
  all_goals (refine qConv.of hB [] [(0, 0)] [] (by rfl) ?_; focus ((conv => whnf); (repeat (refine And.intro ?_ ?_; rotate_left; (conv => whnf))); exact trivial; all_goals (try (first | (with_reducible rfl) | (refine RowsRen.pl rfl rfl ?_; first | assumption | (focus (unfold PlRows; (repeat (first | exact .val _ | assumption | exact .any | (refine .agg _ ?_) | (refine .tup _ ?_) | (refine .list _ _ ?_) | (refine PlRows.mapF _ _ fun _ _ => ?_) | (simp only [List.forall_mem_cons]) | (refine ⟨?_, ?_⟩) | (exact fun _ h => absurd h List.not_mem_nil))); done)) | (focus (refine PlRows.mapF _ _ fun _ _ => ?_; (repeat (first | exact .val _ | assumption | exact .any | (refine .agg _ ?_) | (refine .tup _ ?_) | (refine .list _ _ ?_) | (refine PlRows.mapF _ _ fun _ _ => ?_) | (simp only [List.forall_mem_cons]) | (refine ⟨?_, ?_⟩) | (exact fun _ h => absurd h List.not_mem_nil))); done)))))))
theorem ones_nbs (l : List Nb) : (l.map nbR).all (fun r => r.all AV.one) = true := by simp [AV.one, Value.oneCell']
theorem ones_vals (l : List Nb) : (l.map nbR).all (fun r => r.all AV.isVal) = true := by simp [AV.isVal]
theorem Tick_l (l : List Nb) (hm : mayN l = true) : ACallL Try.prog 41 [.list 0 3 (l.map nbR)] [.perm] (.tup [nbA 1 (tickS l), .val (.int .i64 0)]) [.perm, nbO (tickS l)] := by
  have px := pl_nbs l
  obtain ⟨hall, h16⟩ := mayN_all hm
  have cM := mayN_l l (by omega)
  rw [hm] at cM
  have lb : (l.map nbR).length = l.length := by simp
  refine ACallL.of_ev mixed Try.func41 rfl (fun a w => Try.call41 a w) (congrArg Array.toList Try.results41) Try.ntmps41 fun B hB => ?_
  ((conv => whnf); (repeat' ((first | (with_reducible refine qif_n ?_) | (with_reducible refine qif_t (by assumption) ?_) | (with_reducible refine qif_f (by assumption) ?_) | ((with_reducible refine qif_t ?_ ?_); focus decide) | ((with_reducible refine qif_f ?_ ?_); focus decide) | (with_reducible refine And.intro (orderOk_i ?ho) ?_; (case ho => kernel_rfl)) | (with_reducible refine qif_i (fun _ => ?_) (fun _ => ?_)) | (with_reducible refine frcVs_i ?_) | (with_reducible refine frcRs_i ?_) | ((with_reducible refine qCall.pure (cM) ?_ ?_ ?_ ?_); rotate_left 3; rotate_left; exact trivial; exact (by repeat (first | exact .val _ | assumption | exact .any | (refine .agg _ ?_) | (refine .tup _ ?_) | (refine .list _ _ ?_) | (refine PlRows.mapF _ _ fun _ _ => ?_) | (simp only [List.forall_mem_cons]) | (refine ⟨?_, ?_⟩) | (exact fun _ h => absurd h List.not_mem_nil))); exact (by repeat (first | exact .val _ | assumption | exact .any | (refine .agg _ ?_) | (refine .tup _ ?_) | (refine .list _ _ ?_) | (refine PlRows.mapF _ _ fun _ _ => ?_) | (simp only [List.forall_mem_cons]) | (refine ⟨?_, ?_⟩) | (exact fun _ h => absurd h List.not_mem_nil))))) <;> (conv => whnf))))
  refine qAW.loopE mixed (X := Nat) (fun k => slotsOf 28 [(2, nbA 1 (tickS (l.take k))), (3, .val (.int .i64 0)), (9, .list 0 3 (l.map nbR)), (10, .val (.int .i64 (l.map nbR).length)), (11, .val (.int .i64 k))]) (fun k => [.perm, nbO (tickS (l.take k))])
    (fun k => k ≤ l.length) (fun k => l.length - k) 0 (Nat.zero_le _) ?_ ?_
  · (refine qConv.of hB [] [(0, 0)] [] (by rfl) ?_; focus ((conv => whnf); (repeat (refine And.intro ?_ ?_; rotate_left; (conv => whnf))); exact trivial; all_goals (try (first | (with_reducible rfl) | (refine RowsRen.pl rfl rfl ?_; first | assumption | (focus (unfold PlRows; (repeat (first | exact .val _ | assumption | exact .any | (refine .agg _ ?_) | (refine .tup _ ?_) | (refine .list _ _ ?_) | (refine PlRows.mapF _ _ fun _ _ => ?_) | (simp only [List.forall_mem_cons]) | (refine ⟨?_, ?_⟩) | (exact fun _ h => absurd h List.not_mem_nil))); done)) | (focus (refine PlRows.mapF _ _ fun _ _ => ?_; (repeat (first | exact .val _ | assumption | exact .any | (refine .agg _ ?_) | (refine .tup _ ?_) | (refine .list _ _ ?_) | (refine PlRows.mapF _ _ fun _ _ => ?_) | (simp only [List.forall_mem_cons]) | (refine ⟨?_, ?_⟩) | (exact fun _ h => absurd h List.not_mem_nil))); done)))))))
    all_goals first | rfl | (simp; done)
  · rintro E k hk hE
    by_cases hlt : k < l.length
    · obtain ⟨⟨ip, mac, age⟩, hp⟩ : ∃ p, l[k]? = some p := ⟨_, List.getElem?_eq_getElem hlt⟩
      have hrow : (l.map nbR)[(k : Int).toNat]? = some (nR ip mac age) := by simp [hp]
      have hage : 0 ≤ age ∧ age ≤ 600 := by
        have := hall k hlt
        simp only [okAt, List.getD, hp, Option.getD_some, okN, Bool.and_eq_true, decide_eq_true_eq] at this
        exact this.1.2
      have w := IntWalk.i64_in (k + 1) (by omega)
      have w2 := IntWalk.i64_in (age + 1) (by omega)
      have hs := tickS_snoc hp
      dsimp only at hs
      obtain ⟨T, hT⟩ : ∃ T, tickS (l.take k) = T := ⟨_, rfl⟩
      have hTl : T.length ≤ 16 := by rw [← hT]; simp only [tickS, List.length_map]; exact Nat.le_trans (List.length_filter_le _ _) (by simp; omega)
      rw [hT] at hs ⊢
      by_cases ha : age + 1 ≤ 600
      · rw [if_pos ha] at hs
        cases T with
        | nil =>
          subst hE
          dsimp only [nbA, nbO]
          ((conv => whnf); (repeat' ((first | (with_reducible refine qif_n ?_) | (with_reducible refine qif_t (by assumption) ?_) | (with_reducible refine qif_f (by assumption) ?_) | ((with_reducible refine qif_t ?_ ?_); focus decide) | ((with_reducible refine qif_f ?_ ?_); focus decide) | (with_reducible refine And.intro (orderOk_i ?ho) ?_; (case ho => kernel_rfl)) | ((with_reducible refine qif_t ?_ ?_); focus (simp [hlt, w2, ha]; done)) | ((with_reducible refine qif_f ?_ ?_); focus (simp [hlt, w2, ha]; done)) | (with_reducible refine qif_i (fun _ => ?_) (fun _ => ?_)) | (with_reducible refine frcVs_i ?_) | (with_reducible refine frcRs_i ?_) | (refine qCase_i (idxL rfl rfl rfl rfl rfl rfl (by omega) hrow) ?_)) <;> (conv => whnf))))
          refine ⟨k + 1, by omega, by omega, ?_⟩
          dsimp only
          rw [hs]
          dsimp only [List.nil_append, nbA, nbO, List.map_nil]
          (refine qConv.of hB [(4, 1)] [(0, 0)] [] (by rfl) ?_; focus ((conv => whnf); (repeat (refine And.intro ?_ ?_; rotate_left; (conv => whnf))); exact trivial; all_goals (try (first | (with_reducible rfl) | (refine RowsRen.pl rfl rfl ?_; first | assumption | (focus (unfold PlRows; (repeat (first | exact .val _ | assumption | exact .any | (refine .agg _ ?_) | (refine .tup _ ?_) | (refine .list _ _ ?_) | (refine PlRows.mapF _ _ fun _ _ => ?_) | (simp only [List.forall_mem_cons]) | (refine ⟨?_, ?_⟩) | (exact fun _ h => absurd h List.not_mem_nil))); done)) | (focus (refine PlRows.mapF _ _ fun _ _ => ?_; (repeat (first | exact .val _ | assumption | exact .any | (refine .agg _ ?_) | (refine .tup _ ?_) | (refine .list _ _ ?_) | (refine PlRows.mapF _ _ fun _ _ => ?_) | (simp only [List.forall_mem_cons]) | (refine ⟨?_, ?_⟩) | (exact fun _ h => absurd h List.not_mem_nil))); done)))))))
          all_goals first | rfl | (simp [w]; done) | (refine RowsRen.vals ?_ rfl; rw [w2]; rfl) | skip
        | cons t0 T =>
          have hT16 : T.length + 1 ≤ 16 := by simpa using hTl
          subst hE
          dsimp only [nbA, nbO]
          ((conv => whnf); (repeat' ((first | (with_reducible refine qif_n ?_) | (with_reducible refine qif_t (by assumption) ?_) | (with_reducible refine qif_f (by assumption) ?_) | ((with_reducible refine qif_t ?_ ?_); focus decide) | ((with_reducible refine qif_f ?_ ?_); focus decide) | (with_reducible refine And.intro (orderOk_i ?ho) ?_; (case ho => kernel_rfl)) | ((with_reducible refine qif_t ?_ ?_); focus (simp [hlt, w2, ha]; done)) | ((with_reducible refine qif_f ?_ ?_); focus (simp [hlt, w2, ha]; done)) | (with_reducible refine qif_i (fun _ => ?_) (fun _ => ?_)) | (with_reducible refine frcVs_i ?_) | (with_reducible refine frcRs_i ?_) | (refine qCase_i (idxL rfl rfl rfl rfl rfl rfl (by omega) hrow) ?_) | (refine qCase_i (apS1 (nb := 24) rfl rfl rfl rfl rfl rfl rfl rfl rfl rfl ⟨Nat.zero_lt_succ _, Nat.zero_lt_succ _, rfl⟩ rfl ⟨rfl, rfl, by simp⟩ (ones_nbs (t0 :: T)) (by omega)) ?_)) <;> (conv => whnf))))
          refine ⟨k + 1, by omega, by omega, ?_⟩
          dsimp only
          rw [hs]
          dsimp only [List.cons_append, nbA, nbO]
          (refine qConv.of hB [(4, 1)] [(0, 0)] [] (by rfl) ?_; focus ((conv => whnf); (repeat (refine And.intro ?_ ?_; rotate_left; (conv => whnf))); exact trivial; all_goals (try (first | (with_reducible rfl) | (refine RowsRen.pl rfl rfl ?_; first | assumption | (focus (unfold PlRows; (repeat (first | exact .val _ | assumption | exact .any | (refine .agg _ ?_) | (refine .tup _ ?_) | (refine .list _ _ ?_) | (refine PlRows.mapF _ _ fun _ _ => ?_) | (simp only [List.forall_mem_cons]) | (refine ⟨?_, ?_⟩) | (exact fun _ h => absurd h List.not_mem_nil))); done)) | (focus (refine PlRows.mapF _ _ fun _ _ => ?_; (repeat (first | exact .val _ | assumption | exact .any | (refine .agg _ ?_) | (refine .tup _ ?_) | (refine .list _ _ ?_) | (refine PlRows.mapF _ _ fun _ _ => ?_) | (simp only [List.forall_mem_cons]) | (refine ⟨?_, ?_⟩) | (exact fun _ h => absurd h List.not_mem_nil))); done)))))))
          all_goals first | rfl | (simp [w]; done) | (refine RowsRen.vals ?_ (ones_vals _); rw [w2]; simp) | skip
      · rw [if_neg ha] at hs
        subst hE
        cases T with
        | nil =>
          dsimp only [nbA, nbO]
          ((conv => whnf); (repeat' ((first | (with_reducible refine qif_n ?_) | (with_reducible refine qif_t (by assumption) ?_) | (with_reducible refine qif_f (by assumption) ?_) | ((with_reducible refine qif_t ?_ ?_); focus decide) | ((with_reducible refine qif_f ?_ ?_); focus decide) | (with_reducible refine And.intro (orderOk_i ?ho) ?_; (case ho => kernel_rfl)) | ((with_reducible refine qif_t ?_ ?_); focus (simp [hlt, w2, ha]; done)) | ((with_reducible refine qif_f ?_ ?_); focus (simp [hlt, w2, ha]; done)) | (with_reducible refine qif_i (fun _ => ?_) (fun _ => ?_)) | (with_reducible refine frcVs_i ?_) | (with_reducible refine frcRs_i ?_) | (refine qCase_i (idxL rfl rfl rfl rfl rfl rfl (by omega) hrow) ?_)) <;> (conv => whnf))))
          refine ⟨k + 1, by omega, by omega, ?_⟩
          dsimp only
          rw [hs]
          dsimp only [nbA, nbO]
          (refine qConv.of hB [] [(0, 0)] [] (by rfl) ?_; focus ((conv => whnf); (repeat (refine And.intro ?_ ?_; rotate_left; (conv => whnf))); exact trivial; all_goals (try (first | (with_reducible rfl) | (refine RowsRen.pl rfl rfl ?_; first | assumption | (focus (unfold PlRows; (repeat (first | exact .val _ | assumption | exact .any | (refine .agg _ ?_) | (refine .tup _ ?_) | (refine .list _ _ ?_) | (refine PlRows.mapF _ _ fun _ _ => ?_) | (simp only [List.forall_mem_cons]) | (refine ⟨?_, ?_⟩) | (exact fun _ h => absurd h List.not_mem_nil))); done)) | (focus (refine PlRows.mapF _ _ fun _ _ => ?_; (repeat (first | exact .val _ | assumption | exact .any | (refine .agg _ ?_) | (refine .tup _ ?_) | (refine .list _ _ ?_) | (refine PlRows.mapF _ _ fun _ _ => ?_) | (simp only [List.forall_mem_cons]) | (refine ⟨?_, ?_⟩) | (exact fun _ h => absurd h List.not_mem_nil))); done)))))))
          all_goals first | rfl | (simp [w]; done)
        | cons t0 T =>
          dsimp only [nbA, nbO]
          ((conv => whnf); (repeat' ((first | (with_reducible refine qif_n ?_) | (with_reducible refine qif_t (by assumption) ?_) | (with_reducible refine qif_f (by assumption) ?_) | ((with_reducible refine qif_t ?_ ?_); focus decide) | ((with_reducible refine qif_f ?_ ?_); focus decide) | (with_reducible refine And.intro (orderOk_i ?ho) ?_; (case ho => kernel_rfl)) | ((with_reducible refine qif_t ?_ ?_); focus (simp [hlt, w2, ha]; done)) | ((with_reducible refine qif_f ?_ ?_); focus (simp [hlt, w2, ha]; done)) | (with_reducible refine qif_i (fun _ => ?_) (fun _ => ?_)) | (with_reducible refine frcVs_i ?_) | (with_reducible refine frcRs_i ?_) | (refine qCase_i (idxL rfl rfl rfl rfl rfl rfl (by omega) hrow) ?_)) <;> (conv => whnf))))
          refine ⟨k + 1, by omega, by omega, ?_⟩
          dsimp only
          rw [hs]
          dsimp only [nbA, nbO]
          (refine qConv.of hB [(1, 1)] [(0, 0)] [] (by rfl) ?_; focus ((conv => whnf); (repeat (refine And.intro ?_ ?_; rotate_left; (conv => whnf))); exact trivial; all_goals (try (first | (with_reducible rfl) | (refine RowsRen.pl rfl rfl ?_; first | assumption | (focus (unfold PlRows; (repeat (first | exact .val _ | assumption | exact .any | (refine .agg _ ?_) | (refine .tup _ ?_) | (refine .list _ _ ?_) | (refine PlRows.mapF _ _ fun _ _ => ?_) | (simp only [List.forall_mem_cons]) | (refine ⟨?_, ?_⟩) | (exact fun _ h => absurd h List.not_mem_nil))); done)) | (focus (refine PlRows.mapF _ _ fun _ _ => ?_; (repeat (first | exact .val _ | assumption | exact .any | (refine .agg _ ?_) | (refine .tup _ ?_) | (refine .list _ _ ?_) | (refine PlRows.mapF _ _ fun _ _ => ?_) | (simp only [List.forall_mem_cons]) | (refine ⟨?_, ?_⟩) | (exact fun _ h => absurd h List.not_mem_nil))); done)))))))
          all_goals first | rfl | (simp [w]; done) | exact RowsRen.vals rfl (ones_vals (t0 :: T)) | skip
    · have e : l.take k = l := List.take_of_length_le (by omega)
      rw [e]
      obtain ⟨T, hT⟩ : ∃ T, tickS l = T := ⟨_, rfl⟩
      rw [hT]
      subst hE
      rw [hT]
      cases T with
      | nil =>
        dsimp only [nbA, nbO]
        ((conv => whnf); (repeat' ((first | (with_reducible refine qif_n ?_) | (with_reducible refine qif_t (by assumption) ?_) | (with_reducible refine qif_f (by assumption) ?_) | ((with_reducible refine qif_t ?_ ?_); focus decide) | ((with_reducible refine qif_f ?_ ?_); focus decide) | (with_reducible refine And.intro (orderOk_i ?ho) ?_; (case ho => kernel_rfl)) | ((with_reducible refine qif_t ?_ ?_); focus (simp [hlt]; done)) | ((with_reducible refine qif_f ?_ ?_); focus (simp [hlt]; done)) | (with_reducible refine qif_i (fun _ => ?_) (fun _ => ?_)) | (with_reducible refine frcVs_i ?_) | (with_reducible refine frcRs_i ?_)) <;> (conv => whnf))))
        (refine qConv.of hB [] [(0, 0)] [] (by rfl) ?_; focus ((conv => whnf); (repeat (refine And.intro ?_ ?_; rotate_left; (conv => whnf))); exact trivial; all_goals (try (first | (with_reducible rfl) | (refine RowsRen.pl rfl rfl ?_; first | assumption | (focus (unfold PlRows; (repeat (first | exact .val _ | assumption | exact .any | (refine .agg _ ?_) | (refine .tup _ ?_) | (refine .list _ _ ?_) | (refine PlRows.mapF _ _ fun _ _ => ?_) | (simp only [List.forall_mem_cons]) | (refine ⟨?_, ?_⟩) | (exact fun _ h => absurd h List.not_mem_nil))); done)) | (focus (refine PlRows.mapF _ _ fun _ _ => ?_; (repeat (first | exact .val _ | assumption | exact .any | (refine .agg _ ?_) | (refine .tup _ ?_) | (refine .list _ _ ?_) | (refine PlRows.mapF _ _ fun _ _ => ?_) | (simp only [List.forall_mem_cons]) | (refine ⟨?_, ?_⟩) | (exact fun _ h => absurd h List.not_mem_nil))); done)))))))
      | cons t0 T =>
        dsimp only [nbA, nbO]
        ((conv => whnf); (repeat' ((first | (with_reducible refine qif_n ?_) | (with_reducible refine qif_t (by assumption) ?_) | (with_reducible refine qif_f (by assumption) ?_) | ((with_reducible refine qif_t ?_ ?_); focus decide) | ((with_reducible refine qif_f ?_ ?_); focus decide) | (with_reducible refine And.intro (orderOk_i ?ho) ?_; (case ho => kernel_rfl)) | ((with_reducible refine qif_t ?_ ?_); focus (simp [hlt]; done)) | ((with_reducible refine qif_f ?_ ?_); focus (simp [hlt]; done)) | (with_reducible refine qif_i (fun _ => ?_) (fun _ => ?_)) | (with_reducible refine frcVs_i ?_) | (with_reducible refine frcRs_i ?_)) <;> (conv => whnf))))
        (refine qConv.of hB [(1, 1)] [(0, 0)] [] (by rfl) ?_; focus ((conv => whnf); (repeat (refine And.intro ?_ ?_; rotate_left; (conv => whnf))); exact trivial; all_goals (try (first | (with_reducible rfl) | (refine RowsRen.pl rfl rfl ?_; first | assumption | (focus (unfold PlRows; (repeat (first | exact .val _ | assumption | exact .any | (refine .agg _ ?_) | (refine .tup _ ?_) | (refine .list _ _ ?_) | (refine PlRows.mapF _ _ fun _ _ => ?_) | (simp only [List.forall_mem_cons]) | (refine ⟨?_, ?_⟩) | (exact fun _ h => absurd h List.not_mem_nil))); done)) | (focus (refine PlRows.mapF _ _ fun _ _ => ?_; (repeat (first | exact .val _ | assumption | exact .any | (refine .agg _ ?_) | (refine .tup _ ?_) | (refine .list _ _ ?_) | (refine PlRows.mapF _ _ fun _ _ => ?_) | (simp only [List.forall_mem_cons]) | (refine ⟨?_, ?_⟩) | (exact fun _ h => absurd h List.not_mem_nil))); done)))))))
        all_goals first | rfl | exact RowsRen.vals rfl (ones_vals (t0 :: T)) | skip
end Go.Proofs.Ytjmjnndmpeeppaa

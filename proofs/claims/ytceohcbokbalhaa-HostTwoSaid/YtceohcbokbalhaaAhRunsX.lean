/- The pieces of a window on data. No condition but lengths. -/
import Derived.Test.YtceohcbokbalhaaPkAB
namespace Go.Proofs.Ytceohcbokbalhaa
open Go.RowKit
set_option linter.unusedVariables false
set_option linter.unusedSimpArgs false
set_option maxRecDepth 100000
set_option maxHeartbeats 4000000
def rowsF (r r' : Nat) : List Pt → List (List AV)
  | [] => []
  | p :: l => prg r p :: l.map (prg r')
theorem rowsF_len (r r' : Nat) (l : List Pt) : (rowsF r r' l).length = l.length := by cases l <;> simp [rowsF]
theorem RowsRen.cons {q : Rn} {h : Hp} {a b : List AV} {x y : List (List AV)} (H : Cells q h a b) (h2 : RowsRen q h x y) : RowsRen q h (a :: x) (b :: y) := by
  simpa using RowsRen.app (RowsRen.one H) h2
theorem rowsF_ren {L I F : Prs} {h : Hp} {r r' s s' : Nat} (h1 : I.has r s = true) (h2 : I.has r' s' = true) : ∀ l : List Pt, RowsRen (qOf L I F) h (rowsF r r' l) (rowsF s s' l)
  | [] => RowsRen.nil
  | p :: l => RowsRen.cons (.cons (.val _) (.cons (Ren.gg h1 p.2) .nil)) (parts_gg h2 l)
theorem rowsF_app {L I F : Prs} {h : Hp} {r r' s s' t : Nat} (h1 : I.has r s = true) (h2 : I.has r' s' = true) (h3 : I.has t s' = true) (p : Pt) : ∀ l : List Pt, l ≠ [] → RowsRen (qOf L I F) h (rowsF r r' l ++ [prg t p]) (rowsF s s' (l ++ [p]))
  | [], hl => absurd rfl hl
  | a :: l, _ => by
    show RowsRen _ _ (prg r a :: (l.map (prg r') ++ [prg t p])) (prg s a :: (l ++ [p]).map (prg s'))
    refine RowsRen.cons (.cons (.val _) (.cons (Ren.gg h1 a.2) .nil)) ?_
    rw [List.map_append]
    exact (parts_gg h2 l).app (parts_gg h3 [p])
theorem rowsF_one {L I F : Prs} {h : Hp} {s s' t : Nat} (h3 : I.has t s = true) (p : Pt) : RowsRen (qOf L I F) h ([] ++ [prg t p]) (rowsF s s' ([] ++ [p])) := by
  show RowsRen _ _ [prg t p] [prg s p]
  exact parts_gg h3 [p]
theorem all_seg {w : Win} {j m : Nat} : ((w.map allR).drop j).take (m - j) = (seg w j m).map bR := by
  have e : w.map allR = (vals w).map bR := by simp [vals]
  rw [e, seg, List.map_take, List.map_drop]
theorem isS_iff {w : Win} {i : Nat} (h : i < w.length) : (w.map hasR)[(i : Int).toNat]? = some [.val (.bool (isS w i))] := by
  simp [isS, List.getD, h]
theorem parts_l (nx : Int) (w : Win) (hw : w.length = 2048) : ACallL Try.prog 102 [.val (.int .i64 nx), .list 0 1 (w.map hasR), .list 0 1 (w.map allR)] [.perm] (.glist 1 2 (rowsF 2 3 (runsT nx w 0 2048))) [.perm, .uniq, .uniq, .uniq] := by
  have ph : PlRows (w.map hasR) := PlRows.mapF _ _ fun x _ => plT
  have pa : PlRows (w.map allR) := PlRows.mapF _ _ fun x _ => plT
  have lh : (w.map hasR).length = 2048 := by simp [hw]
  have la : (w.map allR).length = 2048 := by simp [hw]
  refine ACallL.of_ev mixed Try.func102 rfl (fun a w => Try.call102 a w) (congrArg Array.toList Try.results102) Try.ntmps102 fun B hB => ?_
  ((conv => whnf); (repeat' ((first | (with_reducible first | refine qif_n ?_ | refine qif_t ‹_› ?_ | refine qif_f ‹_› ?_) | ((with_reducible refine qif_t ?_ ?_); focus decide) | ((with_reducible refine qif_f ?_ ?_); focus decide) | (with_reducible refine And.intro (orderOk_i ?ho) ?_; (case ho => kernel_rfl)) | (with_reducible first | refine qif_i (fun _ => ?_) (fun _ => ?_) | refine frcVs_i ?_ | refine frcRs_i ?_)) <;> (conv => whnf))))
  refine qAW.scope mixed (X := { i : Nat // i ≤ 2048 ∧ (i = 2048 ∨ isS w i = false) }) (fun x => 0) (fun x => slotsOf 52 [(0, .val (.int .i64 nx)), (1, .list 0 1 (w.map hasR)), (2, .list 0 1 (w.map allR)), (6, .glist 1 2 (rowsF 2 3 (runsT nx w 0 x.1))), (7, .val (.int .i64 x.1))]) (fun x => [.perm, .uniq, .uniq, .uniq]) (fun x => 2048 - x.1) (fun x => rfl) ?_ ?_
  · obtain ⟨i0, hi⟩ : ∃ i0 : Nat, i0 = 0 := ⟨_, rfl⟩
    have hi0 : i0 ≤ 2048 := by omega
    have hbd0 : i0 = 0 ∨ i0 = 2048 ∨ isS w i0 = false := .inl hi
    ((conv => whnf); (repeat' ((first | (with_reducible first | refine qif_n ?_ | refine qif_t ‹_› ?_ | refine qif_f ‹_› ?_) | ((with_reducible refine qif_t ?_ ?_); focus decide) | ((with_reducible refine qif_f ?_ ?_); focus decide) | (with_reducible refine And.intro (orderOk_i ?ho) ?_; (case ho => kernel_rfl)) | (with_reducible first | refine qif_i (fun _ => ?_) (fun _ => ?_) | refine frcVs_i ?_ | refine frcRs_i ?_)) <;> (conv => whnf))))
    refine qAW.loop mixed (X := Nat) (fun j => slotsOf 52 [(0, .val (.int .i64 nx)), (1, .list 0 1 (w.map hasR)), (2, .list 0 1 (w.map allR)), (6, .glist 1 2 (rowsF 2 3 (runsT nx w 0 i0))), (7, .val (.int .i64 j))]) (fun j => [.perm, .uniq, .uniq, .uniq]) (fun j => i0 ≤ j ∧ j ≤ 2048 ∧ ∀ i, i0 ≤ i → i < j → isS w i = false) (fun j => 2048 - j) i0 ⟨Nat.le_refl _, hi0, fun i h1 h2 => by omega⟩ ?_ ?_
    · first
      | ((refine qConv.of hB [] [(0, 0), (1, 1), (2, 2), (3, 3)] [] (by rfl) ?_; focus ((conv => whnf); (repeat (refine And.intro ?_ ?_; rotate_left; (conv => whnf))); exact trivial; all_goals (try exact andT))); done)
      | (subst hi
         (refine qConv.of hB [] [(0, 0)] [] (by rfl) ?_; focus ((conv => whnf); (repeat (refine And.intro ?_ ?_; rotate_left; (conv => whnf))); exact trivial; all_goals (try exact andT)))
         all_goals first | rfl | exact vals_ren _ (fun o : Option Int => .bool o.isSome) rfl | exact vals_ren _ (fun o : Option Int => .int .u8 (o.getD 0)) rfl | exact rowsF_ren rfl rfl _)
      | ((refine qConv.of hB [] [(0, 0), (1, 1), (2, 2), (3, 3)] [] (by rfl) ?_; focus ((conv => whnf); (repeat (refine And.intro ?_ ?_; rotate_left; (conv => whnf))); exact trivial; all_goals (try exact andT)))
         all_goals first | rfl | exact vals_ren _ (fun o : Option Int => .bool o.isSome) rfl | exact vals_ren _ (fun o : Option Int => .int .u8 (o.getD 0)) rfl | exact rowsF_ren rfl rfl _)
    · rintro j ⟨hj1, hj2, hjs⟩
      have w1 := IntWalk.i64_in (j + 1) (by omega)
      by_cases hlt : (j : Int) < 2048
      · have hrow := isS_iff (w := w) (i := j) (by omega)
        obtain ⟨b, hb⟩ : ∃ b, isS w j = b := ⟨_, rfl⟩
        rw [hb] at hrow
        cases b with
        | false =>
          ((conv => whnf); (repeat' ((first | (with_reducible first | refine qif_n ?_ | refine qif_t ‹_› ?_ | refine qif_f ‹_› ?_) | ((with_reducible refine qif_t ?_ ?_); focus decide) | ((with_reducible refine qif_f ?_ ?_); focus decide) | (with_reducible refine And.intro (orderOk_i ?ho) ?_; (case ho => kernel_rfl)) | ((with_reducible refine qif_t ?_ ?_); focus (simp [hw, hlt]; done)) | ((with_reducible refine qif_f ?_ ?_); focus (simp [hw, hlt]; done)) | (with_reducible first | refine qif_i (fun _ => ?_) (fun _ => ?_) | refine frcVs_i ?_ | refine frcRs_i ?_) | (refine qCase_i (idxL rfl rfl rfl rfl rfl rfl (by omega) hrow) ?_)) <;> (conv => whnf))))
          refine ⟨j + 1, ⟨by omega, by omega, fun i h1 h2 => ?_⟩, by omega, ?_⟩
          · by_cases e : i = j
            · rw [e, hb]
            · exact hjs i h1 (by omega)
          · (refine qConv.of hB [] [(0, 0), (1, 1), (2, 2), (3, 3)] [] (by rfl) ?_; focus ((conv => whnf); (repeat (refine And.intro ?_ ?_; rotate_left; (conv => whnf))); exact trivial; all_goals (try exact andT)))
            all_goals first | rfl | exact vals_ren _ (fun o : Option Int => .bool o.isSome) rfl | exact vals_ren _ (fun o : Option Int => .int .u8 (o.getD 0)) rfl | exact rowsF_ren rfl rfl _ | (simp [w1]; done)
        | true =>
          have hne : ¬ j = 2048 := by omega
          have hne' : ¬ (j : Int) = 2048 := by omega
          ((conv => whnf); (repeat' ((first | (with_reducible first | refine qif_n ?_ | refine qif_t ‹_› ?_ | refine qif_f ‹_› ?_) | ((with_reducible refine qif_t ?_ ?_); focus decide) | ((with_reducible refine qif_f ?_ ?_); focus decide) | (with_reducible refine And.intro (orderOk_i ?ho) ?_; (case ho => kernel_rfl)) | ((with_reducible refine qif_t ?_ ?_); focus (simp [hw, hlt, hne']; done)) | ((with_reducible refine qif_f ?_ ?_); focus (simp [hw, hlt, hne']; done)) | (with_reducible first | refine qif_i (fun _ => ?_) (fun _ => ?_) | refine frcVs_i ?_ | refine frcRs_i ?_) | (refine qCase_i (idxL rfl rfl rfl rfl rfl rfl (by omega) hrow) ?_)) <;> (conv => whnf))))
          have hbd : j = 0 ∨ isS w (j - 1) = false := by
            by_cases e : j = i0
            · subst e
              rcases hbd0 with h | h | h
              · exact .inl h
              · omega
              · rw [h] at hb; cases hb
            · exact .inr (hjs (j - 1) (by omega) (by omega))
          have hr := runsT_skip (nx := nx) (w := w) (t := 0) j hj1 hjs
          refine qAW.loop mixed (X := Nat) (fun m => slotsOf 52 [(0, .val (.int .i64 nx)), (1, .list 0 1 (w.map hasR)), (2, .list 0 1 (w.map allR)), (6, .glist 1 2 (rowsF 2 3 (runsT nx w 0 i0))), (7, .val (.int .i64 m)), (8, .val (.int .i64 j))]) (fun m => [.perm, .uniq, .uniq, .uniq]) (fun m => j ≤ m ∧ m ≤ 2048 ∧ ∀ i, j ≤ i → i < m → isS w i = true) (fun m => 2048 - m) j ⟨Nat.le_refl _, hj2, fun i h1 h2 => by omega⟩ ?_ ?_
          · (refine qConv.of hB [] [(0, 0), (1, 1), (2, 2), (3, 3)] [] (by rfl) ?_; focus ((conv => whnf); (repeat (refine And.intro ?_ ?_; rotate_left; (conv => whnf))); exact trivial; all_goals (try exact andT)))
            all_goals first | rfl | exact vals_ren _ (fun o : Option Int => .bool o.isSome) rfl | exact vals_ren _ (fun o : Option Int => .int .u8 (o.getD 0)) rfl | exact rowsF_ren rfl rfl _
          · rintro m ⟨hm1, hm2, hms⟩
            have w2 := IntWalk.i64_in (m + 1) (by omega)
            by_cases hlt2 : (m : Int) < 2048
            · have hrow2 := isS_iff (w := w) (i := m) (by omega)
              obtain ⟨b2, hb2⟩ : ∃ b, isS w m = b := ⟨_, rfl⟩
              rw [hb2] at hrow2
              cases b2 with
              | true =>
                ((conv => whnf); (repeat' ((first | (with_reducible first | refine qif_n ?_ | refine qif_t ‹_› ?_ | refine qif_f ‹_› ?_) | ((with_reducible refine qif_t ?_ ?_); focus decide) | ((with_reducible refine qif_f ?_ ?_); focus decide) | (with_reducible refine And.intro (orderOk_i ?ho) ?_; (case ho => kernel_rfl)) | ((with_reducible refine qif_t ?_ ?_); focus (simp [hw, hlt2]; done)) | ((with_reducible refine qif_f ?_ ?_); focus (simp [hw, hlt2]; done)) | (with_reducible first | refine qif_i (fun _ => ?_) (fun _ => ?_) | refine frcVs_i ?_ | refine frcRs_i ?_) | (refine qCase_i (idxL rfl rfl rfl rfl rfl rfl (by omega) hrow2) ?_)) <;> (conv => whnf))))
                refine ⟨m + 1, ⟨by omega, by omega, fun i h1 h2 => ?_⟩, by omega, ?_⟩
                · by_cases e : i = m
                  · rw [e, hb2]
                  · exact hms i h1 (by omega)
                · (refine qConv.of hB [] [(0, 0), (1, 1), (2, 2), (3, 3)] [] (by rfl) ?_; focus ((conv => whnf); (repeat (refine And.intro ?_ ?_; rotate_left; (conv => whnf))); exact trivial; all_goals (try exact andT)))
                  all_goals first | rfl | exact vals_ren _ (fun o : Option Int => .bool o.isSome) rfl | exact vals_ren _ (fun o : Option Int => .int .u8 (o.getD 0)) rfl | exact rowsF_ren rfl rfl _ | (simp [w2]; done)
              | false =>
                have hjm : j < m := by
                  rcases Nat.lt_or_ge j m with h | h
                  · exact h
                  · have : j = m := by omega
                    rw [this, hb2] at hb; cases hb
                have hmb : m = 2048 ∨ isS w m = false := .inr hb2
                have hr2 := runsT_run (nx := nx) (w := w) (t := 0) (Nat.zero_le _) hbd m hjm (by omega) hms
                rw [hr] at hr2
                have hsl : (seg w j m).length ≤ 100000000 := by simp [seg, vals_len]; omega
                have hseg : List.take ((some (m : Int)).getD (List.length (w.map allR)) - (some (j : Int)).getD 0).toNat (List.drop ((some (j : Int)).getD 0).toNat (List.map allR w)) = (seg w j m).map bR := by
                  rw [← all_seg, Option.getD_some, Option.getD_some, Int.toNat_natCast, show ((m : Int) - j).toNat = m - j by omega]
                have hcb : 0 ≤ (some (j : Int)).getD 0 ∧ (some (j : Int)).getD 0 ≤ (some (m : Int)).getD ((w.map allR).length : Int) ∧ (some (m : Int)).getD ((w.map allR).length : Int) ≤ (none : Option Int).getD ((w.map allR).length : Int) ∧ (none : Option Int).getD ((w.map allR).length : Int) ≤ ((w.map allR).length : Int) ∧ ((none : Option Int) = none ∨ (some (m : Int)) ≠ none) := by
                  rw [la, Option.getD_some, Option.getD_some, Option.getD_none]; exact ⟨by omega, by omega, by omega, by omega, .inl rfl⟩
                have pseg : PlRows (List.take ((some (m : Int)).getD (List.length (w.map allR)) - (some (j : Int)).getD 0).toNat (List.drop ((some (j : Int)).getD 0).toNat (List.map allR w))) := by rw [hseg]; exact pl_bytes _
                have hcl : ACallL Try.prog 69 [.list 0 1 ((seg w j m).map bR)] [.perm] (gL 1 (seg w j m)) [.perm, .uniq] := clone_l (seg w j m) hsl
                rw [← hseg] at hcl
                ((conv => whnf); (repeat' ((first | (with_reducible first | refine qif_n ?_ | refine qif_t ‹_› ?_ | refine qif_f ‹_› ?_) | ((with_reducible refine qif_t ?_ ?_); focus decide) | ((with_reducible refine qif_f ?_ ?_); focus decide) | (with_reducible refine And.intro (orderOk_i ?ho) ?_; (case ho => kernel_rfl)) | ((with_reducible refine qif_t ?_ ?_); focus (simp [hw, hlt2]; done)) | ((with_reducible refine qif_f ?_ ?_); focus (simp [hw, hlt2]; done)) | (with_reducible first | refine qif_i (fun _ => ?_) (fun _ => ?_) | refine frcVs_i ?_ | refine frcRs_i ?_) | (refine qCase_i (slL rfl rfl rfl rfl rfl rfl rfl rfl hcb) ?_) | ((with_reducible refine qCall.pure (spanAdd_l _ _) ?_ ?_ ?_ ?_); rotate_left 4; exact trivial; exact plT; exact plT) | (refine qCase_i (idxL rfl rfl rfl rfl rfl rfl (by omega) hrow2) ?_)) <;> (conv => whnf))))
                ((with_reducible refine qCall.fresh (fun r => gL r (seg w j m)) (hcl) [(0, 0)] [] ?hk ?_); (case hk => rfl); (conv => whnf); (repeat (refine And.intro ?_ ?_; exact sideT; (conv => whnf))); (fail_if_success (with_reducible first | refine And.intro (eqv_i ?_) ?_ | refine And.intro (ren_i ?_) ?_)))
                obtain ⟨l0, hl0⟩ : ∃ l0, runsT nx w 0 i0 = l0 := ⟨_, rfl⟩
                have hll := runsT_len nx w 0 i0
                rw [hl0] at hr2 hll
                rw [hl0]
                have hlr := rowsF_len 2 3 l0
                ((conv => whnf); (repeat' ((first | (with_reducible first | refine qif_n ?_ | refine qif_t ‹_› ?_ | refine qif_f ‹_› ?_) | ((with_reducible refine qif_t ?_ ?_); focus decide) | ((with_reducible refine qif_f ?_ ?_); focus decide) | (with_reducible refine And.intro (orderOk_i ?ho) ?_; (case ho => kernel_rfl)) | (with_reducible first | refine qif_i (fun _ => ?_) (fun _ => ?_) | refine frcVs_i ?_ | refine frcRs_i ?_) | (refine qCase_i (apG (nb := 32) rfl rfl rfl rfl rfl rfl rfl rfl rfl rfl (by decide) rfl (by rw [hlr]; simp; omega)) ?_)) <;> (conv => whnf))))
                cases l0 with
                | nil =>
                  first | (refine ⟨⟨m, by omega, hmb⟩, rfl, ?_, by dsimp only; omega⟩) | refine ⟨⟨m, by omega, hmb⟩, rfl, ?_⟩
                  (refine qConv.of hB [] [(0, 0), (6, 1), (2, 2), (3, 3), (4, 2)] [] (by rfl) ?_; focus ((conv => whnf); (repeat (refine And.intro ?_ ?_; rotate_left; (conv => whnf))); exact trivial; all_goals (try exact andT)))
                  all_goals first | rfl | exact vals_ren _ (fun o : Option Int => .bool o.isSome) rfl | exact vals_ren _ (fun o : Option Int => .int .u8 (o.getD 0)) rfl | (rw [hr2]; exact rowsF_one rfl _)
                | cons a l =>
                  first | (refine ⟨⟨m, by omega, hmb⟩, rfl, ?_, by dsimp only; omega⟩) | refine ⟨⟨m, by omega, hmb⟩, rfl, ?_⟩
                  (refine qConv.of hB [] [(0, 0), (6, 1), (2, 2), (3, 3), (4, 3)] [] (by rfl) ?_; focus ((conv => whnf); (repeat (refine And.intro ?_ ?_; rotate_left; (conv => whnf))); exact trivial; all_goals (try exact andT)))
                  all_goals first | rfl | exact vals_ren _ (fun o : Option Int => .bool o.isSome) rfl | exact vals_ren _ (fun o : Option Int => .int .u8 (o.getD 0)) rfl | (rw [hr2]; refine rowsF_app (r := 2) (r' := 3) (s := 2) (s' := 3) (t := 4) ?_ ?_ ?_ (wadd nx j, seg w j m) (a :: l) (List.cons_ne_nil _ _) <;> rfl)
            · have hm : m = 2048 := by omega
              have hjm : j < m := by omega
              have hmb : m = 2048 ∨ isS w m = false := .inl hm
              have hrow2 := hrow
              have hr2 := runsT_run (nx := nx) (w := w) (t := 0) (Nat.zero_le _) hbd m hjm (by omega) hms
              rw [hr] at hr2
              have hsl : (seg w j m).length ≤ 100000000 := by simp [seg, vals_len]; omega
              have hseg : List.take ((some (m : Int)).getD (List.length (w.map allR)) - (some (j : Int)).getD 0).toNat (List.drop ((some (j : Int)).getD 0).toNat (List.map allR w)) = (seg w j m).map bR := by
                rw [← all_seg, Option.getD_some, Option.getD_some, Int.toNat_natCast, show ((m : Int) - j).toNat = m - j by omega]
              have hcb : 0 ≤ (some (j : Int)).getD 0 ∧ (some (j : Int)).getD 0 ≤ (some (m : Int)).getD ((w.map allR).length : Int) ∧ (some (m : Int)).getD ((w.map allR).length : Int) ≤ (none : Option Int).getD ((w.map allR).length : Int) ∧ (none : Option Int).getD ((w.map allR).length : Int) ≤ ((w.map allR).length : Int) ∧ ((none : Option Int) = none ∨ (some (m : Int)) ≠ none) := by
                rw [la, Option.getD_some, Option.getD_some, Option.getD_none]; exact ⟨by omega, by omega, by omega, by omega, .inl rfl⟩
              have pseg : PlRows (List.take ((some (m : Int)).getD (List.length (w.map allR)) - (some (j : Int)).getD 0).toNat (List.drop ((some (j : Int)).getD 0).toNat (List.map allR w))) := by rw [hseg]; exact pl_bytes _
              have hcl : ACallL Try.prog 69 [.list 0 1 ((seg w j m).map bR)] [.perm] (gL 1 (seg w j m)) [.perm, .uniq] := clone_l (seg w j m) hsl
              rw [← hseg] at hcl
              ((conv => whnf); (repeat' ((first | (with_reducible first | refine qif_n ?_ | refine qif_t ‹_› ?_ | refine qif_f ‹_› ?_) | ((with_reducible refine qif_t ?_ ?_); focus decide) | ((with_reducible refine qif_f ?_ ?_); focus decide) | (with_reducible refine And.intro (orderOk_i ?ho) ?_; (case ho => kernel_rfl)) | ((with_reducible refine qif_t ?_ ?_); focus (simp [hw, hlt2]; done)) | ((with_reducible refine qif_f ?_ ?_); focus (simp [hw, hlt2]; done)) | (with_reducible first | refine qif_i (fun _ => ?_) (fun _ => ?_) | refine frcVs_i ?_ | refine frcRs_i ?_) | (refine qCase_i (slL rfl rfl rfl rfl rfl rfl rfl rfl hcb) ?_) | ((with_reducible refine qCall.pure (spanAdd_l _ _) ?_ ?_ ?_ ?_); rotate_left 4; exact trivial; exact plT; exact plT) | (refine qCase_i (idxL rfl rfl rfl rfl rfl rfl (by omega) hrow2) ?_)) <;> (conv => whnf))))
              ((with_reducible refine qCall.fresh (fun r => gL r (seg w j m)) (hcl) [(0, 0)] [] ?hk ?_); (case hk => rfl); (conv => whnf); (repeat (refine And.intro ?_ ?_; exact sideT; (conv => whnf))); (fail_if_success (with_reducible first | refine And.intro (eqv_i ?_) ?_ | refine And.intro (ren_i ?_) ?_)))
              obtain ⟨l0, hl0⟩ : ∃ l0, runsT nx w 0 i0 = l0 := ⟨_, rfl⟩
              have hll := runsT_len nx w 0 i0
              rw [hl0] at hr2 hll
              rw [hl0]
              have hlr := rowsF_len 2 3 l0
              ((conv => whnf); (repeat' ((first | (with_reducible first | refine qif_n ?_ | refine qif_t ‹_› ?_ | refine qif_f ‹_› ?_) | ((with_reducible refine qif_t ?_ ?_); focus decide) | ((with_reducible refine qif_f ?_ ?_); focus decide) | (with_reducible refine And.intro (orderOk_i ?ho) ?_; (case ho => kernel_rfl)) | (with_reducible first | refine qif_i (fun _ => ?_) (fun _ => ?_) | refine frcVs_i ?_ | refine frcRs_i ?_) | (refine qCase_i (apG (nb := 32) rfl rfl rfl rfl rfl rfl rfl rfl rfl rfl (by decide) rfl (by rw [hlr]; simp; omega)) ?_)) <;> (conv => whnf))))
              cases l0 with
              | nil =>
                first | (refine ⟨⟨m, by omega, hmb⟩, rfl, ?_, by dsimp only; omega⟩) | refine ⟨⟨m, by omega, hmb⟩, rfl, ?_⟩
                (refine qConv.of hB [] [(0, 0), (6, 1), (2, 2), (3, 3), (4, 2)] [] (by rfl) ?_; focus ((conv => whnf); (repeat (refine And.intro ?_ ?_; rotate_left; (conv => whnf))); exact trivial; all_goals (try exact andT)))
                all_goals first | rfl | exact vals_ren _ (fun o : Option Int => .bool o.isSome) rfl | exact vals_ren _ (fun o : Option Int => .int .u8 (o.getD 0)) rfl | (rw [hr2]; exact rowsF_one rfl _)
              | cons a l =>
                first | (refine ⟨⟨m, by omega, hmb⟩, rfl, ?_, by dsimp only; omega⟩) | refine ⟨⟨m, by omega, hmb⟩, rfl, ?_⟩
                (refine qConv.of hB [] [(0, 0), (6, 1), (2, 2), (3, 3), (4, 3)] [] (by rfl) ?_; focus ((conv => whnf); (repeat (refine And.intro ?_ ?_; rotate_left; (conv => whnf))); exact trivial; all_goals (try exact andT)))
                all_goals first | rfl | exact vals_ren _ (fun o : Option Int => .bool o.isSome) rfl | exact vals_ren _ (fun o : Option Int => .int .u8 (o.getD 0)) rfl | (rw [hr2]; refine rowsF_app (r := 2) (r' := 3) (s := 2) (s' := 3) (t := 4) ?_ ?_ ?_ (wadd nx j, seg w j m) (a :: l) (List.cons_ne_nil _ _) <;> rfl)
      · have hj : j = 2048 := by omega
        have hj2 : (j : Int) = 2048 := by omega
        ((conv => whnf); (repeat' ((first | (with_reducible first | refine qif_n ?_ | refine qif_t ‹_› ?_ | refine qif_f ‹_› ?_) | ((with_reducible refine qif_t ?_ ?_); focus decide) | ((with_reducible refine qif_f ?_ ?_); focus decide) | (with_reducible refine And.intro (orderOk_i ?ho) ?_; (case ho => kernel_rfl)) | ((with_reducible refine qif_t ?_ ?_); focus (simp [hw, hlt, hj2]; done)) | ((with_reducible refine qif_f ?_ ?_); focus (simp [hw, hlt, hj2]; done)) | (with_reducible first | refine qif_i (fun _ => ?_) (fun _ => ?_) | refine frcVs_i ?_ | refine frcRs_i ?_)) <;> (conv => whnf))))
        have hr := runsT_skip (nx := nx) (w := w) (t := 0) j hj1 hjs
        rw [← hr, hj]
        (refine qConv.of hB [] [(0, 0), (1, 1), (2, 2), (3, 3)] [] (by rfl) ?_; focus ((conv => whnf); (repeat (refine And.intro ?_ ?_; rotate_left; (conv => whnf))); exact trivial; all_goals (try exact andT)))
        all_goals first | rfl | exact rowsF_ren rfl rfl _
  · rintro ⟨i0, hi0, hbd⟩
    have hbd0 : i0 = 0 ∨ i0 = 2048 ∨ isS w i0 = false := .inr hbd
    ((conv => whnf); (repeat' ((first | (with_reducible first | refine qif_n ?_ | refine qif_t ‹_› ?_ | refine qif_f ‹_› ?_) | ((with_reducible refine qif_t ?_ ?_); focus decide) | ((with_reducible refine qif_f ?_ ?_); focus decide) | (with_reducible refine And.intro (orderOk_i ?ho) ?_; (case ho => kernel_rfl)) | (with_reducible first | refine qif_i (fun _ => ?_) (fun _ => ?_) | refine frcVs_i ?_ | refine frcRs_i ?_)) <;> (conv => whnf))))
    refine qAW.loop mixed (X := Nat) (fun j => slotsOf 52 [(0, .val (.int .i64 nx)), (1, .list 0 1 (w.map hasR)), (2, .list 0 1 (w.map allR)), (6, .glist 1 2 (rowsF 2 3 (runsT nx w 0 i0))), (7, .val (.int .i64 j))]) (fun j => [.perm, .uniq, .uniq, .uniq]) (fun j => i0 ≤ j ∧ j ≤ 2048 ∧ ∀ i, i0 ≤ i → i < j → isS w i = false) (fun j => 2048 - j) i0 ⟨Nat.le_refl _, hi0, fun i h1 h2 => by omega⟩ ?_ ?_
    · first
      | ((refine qConv.of hB [] [(0, 0), (1, 1), (2, 2), (3, 3)] [] (by rfl) ?_; focus ((conv => whnf); (repeat (refine And.intro ?_ ?_; rotate_left; (conv => whnf))); exact trivial; all_goals (try exact andT))); done)
      | (subst hi
         (refine qConv.of hB [] [(0, 0)] [] (by rfl) ?_; focus ((conv => whnf); (repeat (refine And.intro ?_ ?_; rotate_left; (conv => whnf))); exact trivial; all_goals (try exact andT)))
         all_goals first | rfl | exact vals_ren _ (fun o : Option Int => .bool o.isSome) rfl | exact vals_ren _ (fun o : Option Int => .int .u8 (o.getD 0)) rfl | exact rowsF_ren rfl rfl _)
      | ((refine qConv.of hB [] [(0, 0), (1, 1), (2, 2), (3, 3)] [] (by rfl) ?_; focus ((conv => whnf); (repeat (refine And.intro ?_ ?_; rotate_left; (conv => whnf))); exact trivial; all_goals (try exact andT)))
         all_goals first | rfl | exact vals_ren _ (fun o : Option Int => .bool o.isSome) rfl | exact vals_ren _ (fun o : Option Int => .int .u8 (o.getD 0)) rfl | exact rowsF_ren rfl rfl _)
    · rintro j ⟨hj1, hj2, hjs⟩
      have w1 := IntWalk.i64_in (j + 1) (by omega)
      by_cases hlt : (j : Int) < 2048
      · have hrow := isS_iff (w := w) (i := j) (by omega)
        obtain ⟨b, hb⟩ : ∃ b, isS w j = b := ⟨_, rfl⟩
        rw [hb] at hrow
        cases b with
        | false =>
          ((conv => whnf); (repeat' ((first | (with_reducible first | refine qif_n ?_ | refine qif_t ‹_› ?_ | refine qif_f ‹_› ?_) | ((with_reducible refine qif_t ?_ ?_); focus decide) | ((with_reducible refine qif_f ?_ ?_); focus decide) | (with_reducible refine And.intro (orderOk_i ?ho) ?_; (case ho => kernel_rfl)) | ((with_reducible refine qif_t ?_ ?_); focus (simp [hw, hlt]; done)) | ((with_reducible refine qif_f ?_ ?_); focus (simp [hw, hlt]; done)) | (with_reducible first | refine qif_i (fun _ => ?_) (fun _ => ?_) | refine frcVs_i ?_ | refine frcRs_i ?_) | (refine qCase_i (idxL rfl rfl rfl rfl rfl rfl (by omega) hrow) ?_)) <;> (conv => whnf))))
          refine ⟨j + 1, ⟨by omega, by omega, fun i h1 h2 => ?_⟩, by omega, ?_⟩
          · by_cases e : i = j
            · rw [e, hb]
            · exact hjs i h1 (by omega)
          · (refine qConv.of hB [] [(0, 0), (1, 1), (2, 2), (3, 3)] [] (by rfl) ?_; focus ((conv => whnf); (repeat (refine And.intro ?_ ?_; rotate_left; (conv => whnf))); exact trivial; all_goals (try exact andT)))
            all_goals first | rfl | exact vals_ren _ (fun o : Option Int => .bool o.isSome) rfl | exact vals_ren _ (fun o : Option Int => .int .u8 (o.getD 0)) rfl | exact rowsF_ren rfl rfl _ | (simp [w1]; done)
        | true =>
          have hne : ¬ j = 2048 := by omega
          have hne' : ¬ (j : Int) = 2048 := by omega
          ((conv => whnf); (repeat' ((first | (with_reducible first | refine qif_n ?_ | refine qif_t ‹_› ?_ | refine qif_f ‹_› ?_) | ((with_reducible refine qif_t ?_ ?_); focus decide) | ((with_reducible refine qif_f ?_ ?_); focus decide) | (with_reducible refine And.intro (orderOk_i ?ho) ?_; (case ho => kernel_rfl)) | ((with_reducible refine qif_t ?_ ?_); focus (simp [hw, hlt, hne']; done)) | ((with_reducible refine qif_f ?_ ?_); focus (simp [hw, hlt, hne']; done)) | (with_reducible first | refine qif_i (fun _ => ?_) (fun _ => ?_) | refine frcVs_i ?_ | refine frcRs_i ?_) | (refine qCase_i (idxL rfl rfl rfl rfl rfl rfl (by omega) hrow) ?_)) <;> (conv => whnf))))
          have hbd : j = 0 ∨ isS w (j - 1) = false := by
            by_cases e : j = i0
            · subst e
              rcases hbd0 with h | h | h
              · exact .inl h
              · omega
              · rw [h] at hb; cases hb
            · exact .inr (hjs (j - 1) (by omega) (by omega))
          have hr := runsT_skip (nx := nx) (w := w) (t := 0) j hj1 hjs
          refine qAW.loop mixed (X := Nat) (fun m => slotsOf 52 [(0, .val (.int .i64 nx)), (1, .list 0 1 (w.map hasR)), (2, .list 0 1 (w.map allR)), (6, .glist 1 2 (rowsF 2 3 (runsT nx w 0 i0))), (7, .val (.int .i64 m)), (8, .val (.int .i64 j))]) (fun m => [.perm, .uniq, .uniq, .uniq]) (fun m => j ≤ m ∧ m ≤ 2048 ∧ ∀ i, j ≤ i → i < m → isS w i = true) (fun m => 2048 - m) j ⟨Nat.le_refl _, hj2, fun i h1 h2 => by omega⟩ ?_ ?_
          · (refine qConv.of hB [] [(0, 0), (1, 1), (2, 2), (3, 3)] [] (by rfl) ?_; focus ((conv => whnf); (repeat (refine And.intro ?_ ?_; rotate_left; (conv => whnf))); exact trivial; all_goals (try exact andT)))
            all_goals first | rfl | exact vals_ren _ (fun o : Option Int => .bool o.isSome) rfl | exact vals_ren _ (fun o : Option Int => .int .u8 (o.getD 0)) rfl | exact rowsF_ren rfl rfl _
          · rintro m ⟨hm1, hm2, hms⟩
            have w2 := IntWalk.i64_in (m + 1) (by omega)
            by_cases hlt2 : (m : Int) < 2048
            · have hrow2 := isS_iff (w := w) (i := m) (by omega)
              obtain ⟨b2, hb2⟩ : ∃ b, isS w m = b := ⟨_, rfl⟩
              rw [hb2] at hrow2
              cases b2 with
              | true =>
                ((conv => whnf); (repeat' ((first | (with_reducible first | refine qif_n ?_ | refine qif_t ‹_› ?_ | refine qif_f ‹_› ?_) | ((with_reducible refine qif_t ?_ ?_); focus decide) | ((with_reducible refine qif_f ?_ ?_); focus decide) | (with_reducible refine And.intro (orderOk_i ?ho) ?_; (case ho => kernel_rfl)) | ((with_reducible refine qif_t ?_ ?_); focus (simp [hw, hlt2]; done)) | ((with_reducible refine qif_f ?_ ?_); focus (simp [hw, hlt2]; done)) | (with_reducible first | refine qif_i (fun _ => ?_) (fun _ => ?_) | refine frcVs_i ?_ | refine frcRs_i ?_) | (refine qCase_i (idxL rfl rfl rfl rfl rfl rfl (by omega) hrow2) ?_)) <;> (conv => whnf))))
                refine ⟨m + 1, ⟨by omega, by omega, fun i h1 h2 => ?_⟩, by omega, ?_⟩
                · by_cases e : i = m
                  · rw [e, hb2]
                  · exact hms i h1 (by omega)
                · (refine qConv.of hB [] [(0, 0), (1, 1), (2, 2), (3, 3)] [] (by rfl) ?_; focus ((conv => whnf); (repeat (refine And.intro ?_ ?_; rotate_left; (conv => whnf))); exact trivial; all_goals (try exact andT)))
                  all_goals first | rfl | exact vals_ren _ (fun o : Option Int => .bool o.isSome) rfl | exact vals_ren _ (fun o : Option Int => .int .u8 (o.getD 0)) rfl | exact rowsF_ren rfl rfl _ | (simp [w2]; done)
              | false =>
                have hjm : j < m := by
                  rcases Nat.lt_or_ge j m with h | h
                  · exact h
                  · have : j = m := by omega
                    rw [this, hb2] at hb; cases hb
                have hmb : m = 2048 ∨ isS w m = false := .inr hb2
                have hr2 := runsT_run (nx := nx) (w := w) (t := 0) (Nat.zero_le _) hbd m hjm (by omega) hms
                rw [hr] at hr2
                have hsl : (seg w j m).length ≤ 100000000 := by simp [seg, vals_len]; omega
                have hseg : List.take ((some (m : Int)).getD (List.length (w.map allR)) - (some (j : Int)).getD 0).toNat (List.drop ((some (j : Int)).getD 0).toNat (List.map allR w)) = (seg w j m).map bR := by
                  rw [← all_seg, Option.getD_some, Option.getD_some, Int.toNat_natCast, show ((m : Int) - j).toNat = m - j by omega]
                have hcb : 0 ≤ (some (j : Int)).getD 0 ∧ (some (j : Int)).getD 0 ≤ (some (m : Int)).getD ((w.map allR).length : Int) ∧ (some (m : Int)).getD ((w.map allR).length : Int) ≤ (none : Option Int).getD ((w.map allR).length : Int) ∧ (none : Option Int).getD ((w.map allR).length : Int) ≤ ((w.map allR).length : Int) ∧ ((none : Option Int) = none ∨ (some (m : Int)) ≠ none) := by
                  rw [la, Option.getD_some, Option.getD_some, Option.getD_none]; exact ⟨by omega, by omega, by omega, by omega, .inl rfl⟩
                have pseg : PlRows (List.take ((some (m : Int)).getD (List.length (w.map allR)) - (some (j : Int)).getD 0).toNat (List.drop ((some (j : Int)).getD 0).toNat (List.map allR w))) := by rw [hseg]; exact pl_bytes _
                have hcl : ACallL Try.prog 69 [.list 0 1 ((seg w j m).map bR)] [.perm] (gL 1 (seg w j m)) [.perm, .uniq] := clone_l (seg w j m) hsl
                rw [← hseg] at hcl
                ((conv => whnf); (repeat' ((first | (with_reducible first | refine qif_n ?_ | refine qif_t ‹_› ?_ | refine qif_f ‹_› ?_) | ((with_reducible refine qif_t ?_ ?_); focus decide) | ((with_reducible refine qif_f ?_ ?_); focus decide) | (with_reducible refine And.intro (orderOk_i ?ho) ?_; (case ho => kernel_rfl)) | ((with_reducible refine qif_t ?_ ?_); focus (simp [hw, hlt2]; done)) | ((with_reducible refine qif_f ?_ ?_); focus (simp [hw, hlt2]; done)) | (with_reducible first | refine qif_i (fun _ => ?_) (fun _ => ?_) | refine frcVs_i ?_ | refine frcRs_i ?_) | (refine qCase_i (slL rfl rfl rfl rfl rfl rfl rfl rfl hcb) ?_) | ((with_reducible refine qCall.pure (spanAdd_l _ _) ?_ ?_ ?_ ?_); rotate_left 4; exact trivial; exact plT; exact plT) | (refine qCase_i (idxL rfl rfl rfl rfl rfl rfl (by omega) hrow2) ?_)) <;> (conv => whnf))))
                ((with_reducible refine qCall.fresh (fun r => gL r (seg w j m)) (hcl) [(0, 0)] [] ?hk ?_); (case hk => rfl); (conv => whnf); (repeat (refine And.intro ?_ ?_; exact sideT; (conv => whnf))); (fail_if_success (with_reducible first | refine And.intro (eqv_i ?_) ?_ | refine And.intro (ren_i ?_) ?_)))
                obtain ⟨l0, hl0⟩ : ∃ l0, runsT nx w 0 i0 = l0 := ⟨_, rfl⟩
                have hll := runsT_len nx w 0 i0
                rw [hl0] at hr2 hll
                rw [hl0]
                have hlr := rowsF_len 2 3 l0
                ((conv => whnf); (repeat' ((first | (with_reducible first | refine qif_n ?_ | refine qif_t ‹_› ?_ | refine qif_f ‹_› ?_) | ((with_reducible refine qif_t ?_ ?_); focus decide) | ((with_reducible refine qif_f ?_ ?_); focus decide) | (with_reducible refine And.intro (orderOk_i ?ho) ?_; (case ho => kernel_rfl)) | (with_reducible first | refine qif_i (fun _ => ?_) (fun _ => ?_) | refine frcVs_i ?_ | refine frcRs_i ?_) | (refine qCase_i (apG (nb := 32) rfl rfl rfl rfl rfl rfl rfl rfl rfl rfl (by decide) rfl (by rw [hlr]; simp; omega)) ?_)) <;> (conv => whnf))))
                cases l0 with
                | nil =>
                  first | (refine ⟨⟨m, by omega, hmb⟩, rfl, ?_, by dsimp only; omega⟩) | refine ⟨⟨m, by omega, hmb⟩, rfl, ?_⟩
                  (refine qConv.of hB [] [(0, 0), (6, 1), (2, 2), (3, 3), (4, 2)] [] (by rfl) ?_; focus ((conv => whnf); (repeat (refine And.intro ?_ ?_; rotate_left; (conv => whnf))); exact trivial; all_goals (try exact andT)))
                  all_goals first | rfl | exact vals_ren _ (fun o : Option Int => .bool o.isSome) rfl | exact vals_ren _ (fun o : Option Int => .int .u8 (o.getD 0)) rfl | (rw [hr2]; exact rowsF_one rfl _)
                | cons a l =>
                  first | (refine ⟨⟨m, by omega, hmb⟩, rfl, ?_, by dsimp only; omega⟩) | refine ⟨⟨m, by omega, hmb⟩, rfl, ?_⟩
                  (refine qConv.of hB [] [(0, 0), (6, 1), (2, 2), (3, 3), (4, 3)] [] (by rfl) ?_; focus ((conv => whnf); (repeat (refine And.intro ?_ ?_; rotate_left; (conv => whnf))); exact trivial; all_goals (try exact andT)))
                  all_goals first | rfl | exact vals_ren _ (fun o : Option Int => .bool o.isSome) rfl | exact vals_ren _ (fun o : Option Int => .int .u8 (o.getD 0)) rfl | (rw [hr2]; refine rowsF_app (r := 2) (r' := 3) (s := 2) (s' := 3) (t := 4) ?_ ?_ ?_ (wadd nx j, seg w j m) (a :: l) (List.cons_ne_nil _ _) <;> rfl)
            · have hm : m = 2048 := by omega
              have hjm : j < m := by omega
              have hmb : m = 2048 ∨ isS w m = false := .inl hm
              have hrow2 := hrow
              have hr2 := runsT_run (nx := nx) (w := w) (t := 0) (Nat.zero_le _) hbd m hjm (by omega) hms
              rw [hr] at hr2
              have hsl : (seg w j m).length ≤ 100000000 := by simp [seg, vals_len]; omega
              have hseg : List.take ((some (m : Int)).getD (List.length (w.map allR)) - (some (j : Int)).getD 0).toNat (List.drop ((some (j : Int)).getD 0).toNat (List.map allR w)) = (seg w j m).map bR := by
                rw [← all_seg, Option.getD_some, Option.getD_some, Int.toNat_natCast, show ((m : Int) - j).toNat = m - j by omega]
              have hcb : 0 ≤ (some (j : Int)).getD 0 ∧ (some (j : Int)).getD 0 ≤ (some (m : Int)).getD ((w.map allR).length : Int) ∧ (some (m : Int)).getD ((w.map allR).length : Int) ≤ (none : Option Int).getD ((w.map allR).length : Int) ∧ (none : Option Int).getD ((w.map allR).length : Int) ≤ ((w.map allR).length : Int) ∧ ((none : Option Int) = none ∨ (some (m : Int)) ≠ none) := by
                rw [la, Option.getD_some, Option.getD_some, Option.getD_none]; exact ⟨by omega, by omega, by omega, by omega, .inl rfl⟩
              have pseg : PlRows (List.take ((some (m : Int)).getD (List.length (w.map allR)) - (some (j : Int)).getD 0).toNat (List.drop ((some (j : Int)).getD 0).toNat (List.map allR w))) := by rw [hseg]; exact pl_bytes _
              have hcl : ACallL Try.prog 69 [.list 0 1 ((seg w j m).map bR)] [.perm] (gL 1 (seg w j m)) [.perm, .uniq] := clone_l (seg w j m) hsl
              rw [← hseg] at hcl
              ((conv => whnf); (repeat' ((first | (with_reducible first | refine qif_n ?_ | refine qif_t ‹_› ?_ | refine qif_f ‹_› ?_) | ((with_reducible refine qif_t ?_ ?_); focus decide) | ((with_reducible refine qif_f ?_ ?_); focus decide) | (with_reducible refine And.intro (orderOk_i ?ho) ?_; (case ho => kernel_rfl)) | ((with_reducible refine qif_t ?_ ?_); focus (simp [hw, hlt2]; done)) | ((with_reducible refine qif_f ?_ ?_); focus (simp [hw, hlt2]; done)) | (with_reducible first | refine qif_i (fun _ => ?_) (fun _ => ?_) | refine frcVs_i ?_ | refine frcRs_i ?_) | (refine qCase_i (slL rfl rfl rfl rfl rfl rfl rfl rfl hcb) ?_) | ((with_reducible refine qCall.pure (spanAdd_l _ _) ?_ ?_ ?_ ?_); rotate_left 4; exact trivial; exact plT; exact plT) | (refine qCase_i (idxL rfl rfl rfl rfl rfl rfl (by omega) hrow2) ?_)) <;> (conv => whnf))))
              ((with_reducible refine qCall.fresh (fun r => gL r (seg w j m)) (hcl) [(0, 0)] [] ?hk ?_); (case hk => rfl); (conv => whnf); (repeat (refine And.intro ?_ ?_; exact sideT; (conv => whnf))); (fail_if_success (with_reducible first | refine And.intro (eqv_i ?_) ?_ | refine And.intro (ren_i ?_) ?_)))
              obtain ⟨l0, hl0⟩ : ∃ l0, runsT nx w 0 i0 = l0 := ⟨_, rfl⟩
              have hll := runsT_len nx w 0 i0
              rw [hl0] at hr2 hll
              rw [hl0]
              have hlr := rowsF_len 2 3 l0
              ((conv => whnf); (repeat' ((first | (with_reducible first | refine qif_n ?_ | refine qif_t ‹_› ?_ | refine qif_f ‹_› ?_) | ((with_reducible refine qif_t ?_ ?_); focus decide) | ((with_reducible refine qif_f ?_ ?_); focus decide) | (with_reducible refine And.intro (orderOk_i ?ho) ?_; (case ho => kernel_rfl)) | (with_reducible first | refine qif_i (fun _ => ?_) (fun _ => ?_) | refine frcVs_i ?_ | refine frcRs_i ?_) | (refine qCase_i (apG (nb := 32) rfl rfl rfl rfl rfl rfl rfl rfl rfl rfl (by decide) rfl (by rw [hlr]; simp; omega)) ?_)) <;> (conv => whnf))))
              cases l0 with
              | nil =>
                first | (refine ⟨⟨m, by omega, hmb⟩, rfl, ?_, by dsimp only; omega⟩) | refine ⟨⟨m, by omega, hmb⟩, rfl, ?_⟩
                (refine qConv.of hB [] [(0, 0), (6, 1), (2, 2), (3, 3), (4, 2)] [] (by rfl) ?_; focus ((conv => whnf); (repeat (refine And.intro ?_ ?_; rotate_left; (conv => whnf))); exact trivial; all_goals (try exact andT)))
                all_goals first | rfl | exact vals_ren _ (fun o : Option Int => .bool o.isSome) rfl | exact vals_ren _ (fun o : Option Int => .int .u8 (o.getD 0)) rfl | (rw [hr2]; exact rowsF_one rfl _)
              | cons a l =>
                first | (refine ⟨⟨m, by omega, hmb⟩, rfl, ?_, by dsimp only; omega⟩) | refine ⟨⟨m, by omega, hmb⟩, rfl, ?_⟩
                (refine qConv.of hB [] [(0, 0), (6, 1), (2, 2), (3, 3), (4, 3)] [] (by rfl) ?_; focus ((conv => whnf); (repeat (refine And.intro ?_ ?_; rotate_left; (conv => whnf))); exact trivial; all_goals (try exact andT)))
                all_goals first | rfl | exact vals_ren _ (fun o : Option Int => .bool o.isSome) rfl | exact vals_ren _ (fun o : Option Int => .int .u8 (o.getD 0)) rfl | (rw [hr2]; refine rowsF_app (r := 2) (r' := 3) (s := 2) (s' := 3) (t := 4) ?_ ?_ ?_ (wadd nx j, seg w j m) (a :: l) (List.cons_ne_nil _ _) <;> rfl)
      · have hj : j = 2048 := by omega
        have hj2 : (j : Int) = 2048 := by omega
        ((conv => whnf); (repeat' ((first | (with_reducible first | refine qif_n ?_ | refine qif_t ‹_› ?_ | refine qif_f ‹_› ?_) | ((with_reducible refine qif_t ?_ ?_); focus decide) | ((with_reducible refine qif_f ?_ ?_); focus decide) | (with_reducible refine And.intro (orderOk_i ?ho) ?_; (case ho => kernel_rfl)) | ((with_reducible refine qif_t ?_ ?_); focus (simp [hw, hlt, hj2]; done)) | ((with_reducible refine qif_f ?_ ?_); focus (simp [hw, hlt, hj2]; done)) | (with_reducible first | refine qif_i (fun _ => ?_) (fun _ => ?_) | refine frcVs_i ?_ | refine frcRs_i ?_)) <;> (conv => whnf))))
        have hr := runsT_skip (nx := nx) (w := w) (t := 0) j hj1 hjs
        rw [← hr, hj]
        (refine qConv.of hB [] [(0, 0), (1, 1), (2, 2), (3, 3)] [] (by rfl) ?_; focus ((conv => whnf); (repeat (refine And.intro ?_ ?_; rotate_left; (conv => whnf))); exact trivial; all_goals (try exact andT)))
        all_goals first | rfl | exact rowsF_ren rfl rfl _
end Go.Proofs.Ytceohcbokbalhaa

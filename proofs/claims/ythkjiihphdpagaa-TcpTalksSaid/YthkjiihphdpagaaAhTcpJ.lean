/- A connection is aborted, sends again: on data. Conditions: lengths. -/
import Derived.Test.YthkjiihphdpagaaPkAE
import Derived.Test.YthkjiihphdpagaaPkAG
namespace Go.Proofs.Ythkjiihphdpagaa
open Go.RowKit
set_option linter.unusedVariables false
set_option linter.unusedSimpArgs false
set_option maxRecDepth 100000
set_option maxHeartbeats 4000000
theorem dt_AhTcpJ_ROW {p : Prop} (h : p := by first | ((first | rfl | (refine RowsRen.one ?_; (repeat (refine Cells.cons ?_ ?_; focus (first | exact .val _ | exact Ren.gg rfl _ | exact Ren.ll rfl _ | exact Ren.g2 rfl _ | exact Ren.oo rfl _ _ | exact Ren.vnil _ _ | exact Ren.vgnil _ _ | exact Ren.sgs rfl rfl _ | exact Ren.sgs1 rfl rfl rfl rfl | exact Ren.pgl rfl rfl _ | fail))); exact Cells.nil) | exact segs_gg rfl _ | exact parts_gg rfl _ | exact bytes_cells _); done) | fail) : p := h
theorem abort_l (x : Stp) (hs : x.out.length ≤ 1000000) :
    ACallL Try.prog 43 [.ptr 1 0 0] [.perm, spO (spR true 6 7 x), .perm, .perm, .perm, .perm, .uniq, .uniq]
      (.tup []) [.perm, spO (spR true 8 9 x.abort), .perm, .perm, .perm, .perm, .dead, .dead, .uniq, .uniq] := by
  have cS := send_l true x x.c.nx 20 [] (by simp) (by omega)
  have cC := closed_l true x
  obtain ⟨y, hy⟩ : ∃ r, x.seg x.c.nx 20 [] = r := ⟨_, rfl⟩
  rw [hy] at cS
  have cC2 := closed_l true y
  unfold Stp.abort
  rw [hy]
  cases h0 : (x.c.st == 0) with
  | true =>
    have h0' : (x.c.st != 0) = false := by simpa using h0
    rw [cond_true]
    dsimp only [spR, spL, oL] at cC ⊢
    refine ACallL.of_ev mixed Try.func43 rfl (fun a w => Try.call43 a w) (congrArg Array.toList Try.results43) Try.ntmps43 fun B hB => ?_
    ((conv => whnf); (repeat' ((first | (with_reducible first | refine qif_n ?_ | refine qif_t ‹_› ?_ | refine qif_f ‹_› ?_) | ((with_reducible refine qif_t ?_ ?_); focus decide) | ((with_reducible refine qif_f ?_ ?_); focus decide) | (with_reducible refine And.intro (orderOk_i ?ho) ?_; (case ho => kernel_rfl)) | (with_reducible first | refine qif_i (fun _ => ?_) (fun _ => ?_) | refine frcVs_i ?_ | refine frcRs_i ?_) | (((with_reducible refine qCall.of (cC) [(1, 1)] [(0, 0), (2, 2), (3, 3), (4, 4), (5, 5), (6, 6), (7, 7)] [] [] [(1, spO (spR true 6 7 x.shut))] (.tup []) ?hk ?_); (case hk => rfl); (conv => whnf); (repeat (refine And.intro ?_ ?_; exact sideT; (conv => whnf))); (fail_if_success (with_reducible first | refine And.intro (eqv_i ?_) ?_ | refine And.intro (ren_i ?_) ?_))))) <;> (conv => whnf))))
    (refine qConv.of hB [(1, 1)] [(0, 0), (2, 2), (3, 3), (4, 4), (5, 5), (6, 8), (7, 9)] [] (by rfl) ?_; focus ((conv => whnf); (repeat (refine And.intro ?_ ?_; rotate_left; (conv => whnf))); exact trivial; all_goals (try exact andT)))
    all_goals (try exact dt_AhTcpJ_ROW)
  | false =>
    have h0' : (x.c.st != 0) = true := by simpa using h0
    rw [cond_false]
    dsimp only [spR, spL, oL] at cS cC2 ⊢
    refine ACallL.of_ev mixed Try.func43 rfl (fun a w => Try.call43 a w) (congrArg Array.toList Try.results43) Try.ntmps43 fun B hB => ?_
    ((conv => whnf); (repeat' ((first | (with_reducible first | refine qif_n ?_ | refine qif_t ‹_› ?_ | refine qif_f ‹_› ?_) | ((with_reducible refine qif_t ?_ ?_); focus decide) | ((with_reducible refine qif_f ?_ ?_); focus decide) | (with_reducible refine And.intro (orderOk_i ?ho) ?_; (case ho => kernel_rfl)) | (with_reducible first | refine qif_i (fun _ => ?_) (fun _ => ?_) | refine frcVs_i ?_ | refine frcRs_i ?_)) <;> (conv => whnf))))
    ((with_reducible refine qCall.of (cS) [(1, 1)] [(0, 0), (2, 2), (3, 3), (4, 4), (5, 5), (6, 6), (7, 7)] [] [(8, 8), (9, 9)] [(1, spO (spR true 8 9 y)), (6, .dead), (7, .dead), (8, .uniq), (9, .uniq)] (.tup []) ?hk ?_); (case hk => rfl); (conv => whnf); (repeat (refine And.intro ?_ ?_; exact sideT; (conv => whnf))); (fail_if_success (with_reducible first | refine And.intro (eqv_i ?_) ?_ | refine And.intro (ren_i ?_) ?_)))
    ((conv => whnf); (repeat' ((first | (with_reducible first | refine qif_n ?_ | refine qif_t ‹_› ?_ | refine qif_f ‹_› ?_) | ((with_reducible refine qif_t ?_ ?_); focus decide) | ((with_reducible refine qif_f ?_ ?_); focus decide) | (with_reducible refine And.intro (orderOk_i ?ho) ?_; (case ho => kernel_rfl)) | (with_reducible first | refine qif_i (fun _ => ?_) (fun _ => ?_) | refine frcVs_i ?_ | refine frcRs_i ?_)) <;> (conv => whnf))))
    ((with_reducible refine qCall.of (cC2) [(1, 1)] [(0, 0), (2, 2), (3, 3), (4, 4), (5, 5), (6, 8), (7, 9)] [] [] [(1, spO (spR true 8 9 y.shut))] (.tup []) ?hk ?_); (case hk => rfl); (conv => whnf); (repeat (refine And.intro ?_ ?_; exact sideT; (conv => whnf))); (fail_if_success (with_reducible first | refine And.intro (eqv_i ?_) ?_ | refine And.intro (ren_i ?_) ?_)))
    ((conv => whnf); (repeat' ((first | (with_reducible first | refine qif_n ?_ | refine qif_t ‹_› ?_ | refine qif_f ‹_› ?_) | ((with_reducible refine qif_t ?_ ?_); focus decide) | ((with_reducible refine qif_f ?_ ?_); focus decide) | (with_reducible refine And.intro (orderOk_i ?ho) ?_; (case ho => kernel_rfl)) | (with_reducible first | refine qif_i (fun _ => ?_) (fun _ => ?_) | refine frcVs_i ?_ | refine frcRs_i ?_)) <;> (conv => whnf))))
    (refine qConv.of hB [(1, 1)] [(0, 0), (2, 2), (3, 3), (4, 4), (5, 5), (8, 8), (9, 9)] [] (by rfl) ?_; focus ((conv => whnf); (repeat (refine And.intro ?_ ?_; rotate_left; (conv => whnf))); exact trivial; all_goals (try exact andT)))
    all_goals (try exact dt_AhTcpJ_ROW)
theorem again_l (x : Stp) (hs : x.out.length ≤ 1000000) (hl : x.c.out.length ≤ 8192) :
    ACallL Try.prog 44 [.ptr 1 0 0] [.perm, spO (spR true 6 7 x), .perm, .perm, .perm, .perm, .uniq, .uniq]
      (.tup []) [.perm, spO (spR true 8 9 x.again), .perm, .perm, .perm, .perm, .dead, .dead, .uniq, .uniq] := by
  have lo : (x.c.out.map bR).length = x.c.out.length := by simp
  obtain ⟨data, hda⟩ : ∃ d, x.c.out.take (min (min (max (wdiff x.c.nx x.c.una) 0) ((x.c.out.map bR).length : Int)) 536).toNat = d := ⟨_, rfl⟩
  have hld : ((data.map bR).length : Int) = min (min (max (wdiff x.c.nx x.c.una) 0) ((x.c.out.map bR).length : Int)) 536 := by rw [← hda]; simp; omega
  have hcb : 0 ≤ (none : Option Int).getD 0 ∧ (none : Option Int).getD 0 ≤ (some (min (min (max (wdiff x.c.nx x.c.una) 0) ((x.c.out.map bR).length : Int)) 536)).getD ((x.c.out.map bR).length : Int) ∧ (some (min (min (max (wdiff x.c.nx x.c.una) 0) ((x.c.out.map bR).length : Int)) 536)).getD ((x.c.out.map bR).length : Int) ≤ (none : Option Int).getD ((x.c.out.map bR).length : Int) ∧ (none : Option Int).getD ((x.c.out.map bR).length : Int) ≤ ((x.c.out.map bR).length : Int) ∧ ((none : Option Int) = none ∨ (some (min (min (max (wdiff x.c.nx x.c.una) 0) ((x.c.out.map bR).length : Int)) 536)) ≠ none) := by
    simp only [Option.getD_some, Option.getD_none]
    exact ⟨by omega, by omega, by omega, by omega, .inl trivial⟩
  have hsl : ((x.c.out.map bR).drop ((none : Option Int).getD 0).toNat).take ((some (min (min (max (wdiff x.c.nx x.c.una) 0) ((x.c.out.map bR).length : Int)) 536)).getD ((x.c.out.map bR).length : Int) - (none : Option Int).getD 0).toNat = data.map bR := by
    simp only [Option.getD_some, Option.getD_none]
    rw [← hda, List.map_take]; simp
  unfold Stp.again Cn.sent Cn.len
  by_cases h1 : (x.c.st == 1) = true
  · have cS := send_l true x x.c.una 18 [] (by simp) (by omega)
    rw [h1, cond_true]
    dsimp only [spR, spL, oL] at cS ⊢
    refine ACallL.of_ev mixed Try.func44 rfl (fun a w => Try.call44 a w) (congrArg Array.toList Try.results44) Try.ntmps44 fun B hB => ?_
    ((conv => whnf); (repeat' ((first | (with_reducible first | refine qif_n ?_ | refine qif_t ‹_› ?_ | refine qif_f ‹_› ?_) | ((with_reducible refine qif_t ?_ ?_); focus decide) | ((with_reducible refine qif_f ?_ ?_); focus decide) | (with_reducible refine And.intro (orderOk_i ?ho) ?_; (case ho => kernel_rfl)) | (with_reducible first | refine qif_i (fun _ => ?_) (fun _ => ?_) | refine frcVs_i ?_ | refine frcRs_i ?_) | (refine qAW.jump mixed 2 ?_) | (refine qCall.sent rfl ?_) | (((with_reducible refine qCall.of (cS) [(1, 1)] [(0, 0), (2, 2), (3, 3), (4, 4), (5, 5), (6, 6), (7, 7)] [] [(8, 8), (9, 9)] [(1, spO (spR true 8 9 (x.seg x.c.una 18 []))), (6, .dead), (7, .dead), (8, .uniq), (9, .uniq)] (.tup []) ?hk ?_); (case hk => rfl); (conv => whnf); (repeat (refine And.intro ?_ ?_; exact sideT; (conv => whnf))); (fail_if_success (with_reducible first | refine And.intro (eqv_i ?_) ?_ | refine And.intro (ren_i ?_) ?_))))) <;> (conv => whnf))))
    (refine qConv.of hB [(1, 1)] [(0, 0), (2, 2), (3, 3), (4, 4), (5, 5), (8, 8), (9, 9)] [] (by rfl) ?_; focus ((conv => whnf); (repeat (refine And.intro ?_ ?_; rotate_left; (conv => whnf))); exact trivial; all_goals (try exact andT)))
    all_goals (try exact dt_AhTcpJ_ROW)
  have h1 : (x.c.st == 1) = false := by simpa using h1
  rw [h1, cond_false]
  by_cases hn : 0 < wdiff x.c.nx x.c.una
  · have hn' : decide (0 < wdiff x.c.nx x.c.una) = true := by simpa using hn
    by_cases hlen : 0 < x.c.out.length
    · have hc : decide (0 < ((data.map bR).length : Int)) = true := by rw [hld, decide_eq_true_eq]; omega
      have hle' : decide (0 < (x.c.out.length : Int)) = true := by rw [decide_eq_true_eq]; omega
      have hd2 : x.c.out.take (min (min (wdiff x.c.nx x.c.una) x.c.out.length) 536).toNat = data := by rw [← hda, lo]; congr 2; omega
      have cS := send_l true x x.c.una 24 data (by rw [← hda]; simp; omega) (by omega)
      rw [hn', hle', hd2, Bool.and_true, cond_true]
      dsimp only [spR, spL, oL] at cS ⊢
      refine ACallL.of_ev mixed Try.func44 rfl (fun a w => Try.call44 a w) (congrArg Array.toList Try.results44) Try.ntmps44 fun B hB => ?_
      ((conv => whnf); (repeat' ((first | (with_reducible first | refine qif_n ?_ | refine qif_t ‹_› ?_ | refine qif_f ‹_› ?_) | ((with_reducible refine qif_t ?_ ?_); focus decide) | ((with_reducible refine qif_f ?_ ?_); focus decide) | (with_reducible refine And.intro (orderOk_i ?ho) ?_; (case ho => kernel_rfl)) | (with_reducible first | refine qif_i (fun _ => ?_) (fun _ => ?_) | refine frcVs_i ?_ | refine frcRs_i ?_) | (refine qAW.jump mixed 2 ?_) | (refine qCall.sent rfl ?_) | (refine qCase_i (slG' rfl rfl rfl rfl rfl rfl rfl rfl hcb hsl) ?_) | (((with_reducible refine qCall.of (cS) [(1, 1)] [(0, 0), (2, 2), (3, 3), (4, 4), (5, 5), (6, 6), (7, 7)] [] [(8, 8), (9, 9)] [(1, spO (spR true 8 9 (x.seg x.c.una 24 data))), (6, .dead), (7, .dead), (8, .uniq), (9, .uniq)] (.tup []) ?hk ?_); (case hk => rfl); (conv => whnf); (repeat (refine And.intro ?_ ?_; exact sideT; (conv => whnf))); (fail_if_success (with_reducible first | refine And.intro (eqv_i ?_) ?_ | refine And.intro (ren_i ?_) ?_))))) <;> (conv => whnf))))
      (refine qConv.of hB [(1, 1)] [(0, 0), (2, 2), (3, 3), (4, 4), (5, 5), (8, 8), (9, 9)] [] (by rfl) ?_; focus ((conv => whnf); (repeat (refine And.intro ?_ ?_; rotate_left; (conv => whnf))); exact trivial; all_goals (try exact andT)))
      all_goals (try exact dt_AhTcpJ_ROW)
    · have hc : decide (0 < ((data.map bR).length : Int)) = false := by rw [hld, decide_eq_false_iff_not]; omega
      have hle' : decide (0 < (x.c.out.length : Int)) = false := by rw [decide_eq_false_iff_not]; omega
      have cS := send_l true x x.c.una 17 [] (by simp) (by omega)
      rw [hn', hle', Bool.and_false, cond_false, cond_true]
      dsimp only [spR, spL, oL] at cS ⊢
      refine ACallL.of_ev mixed Try.func44 rfl (fun a w => Try.call44 a w) (congrArg Array.toList Try.results44) Try.ntmps44 fun B hB => ?_
      ((conv => whnf); (repeat' ((first | (with_reducible first | refine qif_n ?_ | refine qif_t ‹_› ?_ | refine qif_f ‹_› ?_) | ((with_reducible refine qif_t ?_ ?_); focus decide) | ((with_reducible refine qif_f ?_ ?_); focus decide) | (with_reducible refine And.intro (orderOk_i ?ho) ?_; (case ho => kernel_rfl)) | (with_reducible first | refine qif_i (fun _ => ?_) (fun _ => ?_) | refine frcVs_i ?_ | refine frcRs_i ?_) | (refine qAW.jump mixed 2 ?_) | (refine qCall.sent rfl ?_) | (refine qCase_i (slG' rfl rfl rfl rfl rfl rfl rfl rfl hcb hsl) ?_) | (((with_reducible refine qCall.of (cS) [(1, 1)] [(0, 0), (2, 2), (3, 3), (4, 4), (5, 5), (6, 6), (7, 7)] [] [(8, 8), (9, 9)] [(1, spO (spR true 8 9 (x.seg x.c.una 17 []))), (6, .dead), (7, .dead), (8, .uniq), (9, .uniq)] (.tup []) ?hk ?_); (case hk => rfl); (conv => whnf); (repeat (refine And.intro ?_ ?_; exact sideT; (conv => whnf))); (fail_if_success (with_reducible first | refine And.intro (eqv_i ?_) ?_ | refine And.intro (ren_i ?_) ?_))))) <;> (conv => whnf))))
      (refine qConv.of hB [(1, 1)] [(0, 0), (2, 2), (3, 3), (4, 4), (5, 5), (8, 8), (9, 9)] [] (by rfl) ?_; focus ((conv => whnf); (repeat (refine And.intro ?_ ?_; rotate_left; (conv => whnf))); exact trivial; all_goals (try exact andT)))
      all_goals (try exact dt_AhTcpJ_ROW)
  · have hn' : decide (0 < wdiff x.c.nx x.c.una) = false := by simpa using hn
    have hc : decide (0 < ((data.map bR).length : Int)) = false := by rw [hld, decide_eq_false_iff_not]; omega
    by_cases hlen : 0 < x.c.out.length
    · have hle' : decide (0 < (x.c.out.length : Int)) = true := by rw [decide_eq_true_eq]; omega
      have hle2 : decide (0 < ((x.c.out.map bR).length : Int)) = true := by rw [lo]; exact hle'
      have cS := send_l true x x.c.nx 24 (x.c.out.take 1) (by simp; omega) (by omega)
      obtain ⟨d1, hd1⟩ : ∃ d, x.c.out.take 1 = d := ⟨_, rfl⟩
      rw [hd1] at cS
      have hcb1 : 0 ≤ (none : Option Int).getD 0 ∧ (none : Option Int).getD 0 ≤ (some (1 : Int)).getD ((x.c.out.map bR).length : Int) ∧ (some (1 : Int)).getD ((x.c.out.map bR).length : Int) ≤ (none : Option Int).getD ((x.c.out.map bR).length : Int) ∧ (none : Option Int).getD ((x.c.out.map bR).length : Int) ≤ ((x.c.out.map bR).length : Int) ∧ ((none : Option Int) = none ∨ (some (1 : Int)) ≠ none) := by
        simp only [Option.getD_some, Option.getD_none]
        exact ⟨by omega, by omega, by omega, by omega, .inl trivial⟩
      have hsl1 : ((x.c.out.map bR).drop ((none : Option Int).getD 0).toNat).take ((some (1 : Int)).getD ((x.c.out.map bR).length : Int) - (none : Option Int).getD 0).toNat = d1.map bR := by
        simp only [Option.getD_some, Option.getD_none]
        rw [← hd1, List.map_take]; simp
      rw [hn', hle', Bool.false_and, cond_false, cond_false, cond_true, hd1]
      dsimp only [spR, spL, oL] at cS ⊢
      refine ACallL.of_ev mixed Try.func44 rfl (fun a w => Try.call44 a w) (congrArg Array.toList Try.results44) Try.ntmps44 fun B hB => ?_
      ((conv => whnf); (repeat' ((first | (with_reducible first | refine qif_n ?_ | refine qif_t ‹_› ?_ | refine qif_f ‹_› ?_) | ((with_reducible refine qif_t ?_ ?_); focus decide) | ((with_reducible refine qif_f ?_ ?_); focus decide) | (with_reducible refine And.intro (orderOk_i ?ho) ?_; (case ho => kernel_rfl)) | (with_reducible first | refine qif_i (fun _ => ?_) (fun _ => ?_) | refine frcVs_i ?_ | refine frcRs_i ?_) | (refine qAW.jump mixed 2 ?_) | (refine qCall.sent rfl ?_) | ((with_reducible refine qCall.pure (spanAdd_l _ _) ?_ ?_ ?_ ?_); rotate_left 4; exact trivial; exact plT; exact plT) | (refine qCase_i (slG' rfl rfl rfl rfl rfl rfl rfl rfl hcb hsl) ?_) | (refine qCase_i (slG' rfl rfl rfl rfl rfl rfl rfl rfl hcb1 hsl1) ?_) | (((with_reducible refine qCall.of (cS) [(1, 1)] [(0, 0), (2, 2), (3, 3), (4, 4), (5, 5), (6, 6), (7, 7)] [] [(8, 8), (9, 9)] [(1, spO (spR true 8 9 (x.seg x.c.nx 24 d1))), (6, .dead), (7, .dead), (8, .uniq), (9, .uniq)] (.tup []) ?hk ?_); (case hk => rfl); (conv => whnf); (repeat (refine And.intro ?_ ?_; exact sideT; (conv => whnf))); (fail_if_success (with_reducible first | refine And.intro (eqv_i ?_) ?_ | refine And.intro (ren_i ?_) ?_))))) <;> (conv => whnf))))
      (refine qConv.of hB [(1, 1)] [(0, 0), (2, 2), (3, 3), (4, 4), (5, 5), (8, 8), (9, 9)] [] (by rfl) ?_; focus ((conv => whnf); (repeat (refine And.intro ?_ ?_; rotate_left; (conv => whnf))); exact trivial; all_goals (try exact andT)))
      all_goals (try exact dt_AhTcpJ_ROW)
    · have hle' : decide (0 < (x.c.out.length : Int)) = false := by rw [decide_eq_false_iff_not]; omega
      have hle2 : decide (0 < ((x.c.out.map bR).length : Int)) = false := by rw [lo]; exact hle'
      rw [hn', hle', Bool.false_and, cond_false, cond_false, cond_false]
      dsimp only [spR, spL, oL] at ⊢
      refine ACallL.of_ev mixed Try.func44 rfl (fun a w => Try.call44 a w) (congrArg Array.toList Try.results44) Try.ntmps44 fun B hB => ?_
      ((conv => whnf); (repeat' ((first | (with_reducible first | refine qif_n ?_ | refine qif_t ‹_› ?_ | refine qif_f ‹_› ?_) | ((with_reducible refine qif_t ?_ ?_); focus decide) | ((with_reducible refine qif_f ?_ ?_); focus decide) | (with_reducible refine And.intro (orderOk_i ?ho) ?_; (case ho => kernel_rfl)) | (with_reducible first | refine qif_i (fun _ => ?_) (fun _ => ?_) | refine frcVs_i ?_ | refine frcRs_i ?_) | (refine qAW.jump mixed 2 ?_) | (refine qCall.sent rfl ?_) | (refine qCase_i (slG' rfl rfl rfl rfl rfl rfl rfl rfl hcb hsl) ?_)) <;> (conv => whnf))))
      (refine qConv.of hB [(1, 1)] [(0, 0), (2, 2), (3, 3), (4, 4), (5, 5), (6, 8), (7, 9)] [] (by rfl) ?_; focus ((conv => whnf); (repeat (refine And.intro ?_ ?_; rotate_left; (conv => whnf))); exact trivial; all_goals (try exact andT)))
      all_goals (try exact dt_AhTcpJ_ROW)
end Go.Proofs.Ythkjiihphdpagaa

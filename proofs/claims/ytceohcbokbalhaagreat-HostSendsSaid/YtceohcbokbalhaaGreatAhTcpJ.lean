/- A connection is aborted, sends again: on data. Conditions: lengths. -/
import Derived.Test.YtceohcbokbalhaaGreatPkAG
import Derived.Test.YtceohcbokbalhaaGreatPkAI
namespace Go.Proofs.YtceohcbokbalhaaGreat
open Go.RowKit
set_option linter.unusedVariables false
set_option linter.unusedSimpArgs false
set_option maxRecDepth 100000
set_option maxHeartbeats 4000000
theorem dt_AhTcpJ_ROW {p : Prop} (h : p := by first | ((first | rfl | (refine RowsRen.one ?_; (repeat (refine Cells.cons ?_ ?_; focus (first | exact .val _ | exact Ren.gg rfl _ | exact Ren.ll rfl _ | exact Ren.g2 rfl _ | exact Ren.oo rfl _ _ | exact Ren.vnil _ _ | exact Ren.vgnil _ _ | exact Ren.sgs rfl rfl _ | exact Ren.sgs1 rfl rfl rfl rfl | exact Ren.pgl rfl rfl _ | fail))); exact Cells.nil) | exact segs_gg rfl _ | exact parts_gg rfl _ | exact bytes_cells _); done) | fail) : p := h
theorem abort_l (x : Stp) (hs : x.out.length ≤ 1000000) :
    ACallL Tryz.prog 98 [.ptr 1 0 0] [.perm, spO (spR true 6 7 x), .perm, .perm, .perm, .perm, .uniq, .uniq]
      (.tup []) [.perm, spO (spR true 8 9 x.abort), .perm, .perm, .perm, .perm, .dead, .dead, .uniq, .uniq] := by
  have cS := send_l true x x.c.nx 20 [] (by simp) (by omega)
  have cC := closed_l true x
  obtain ⟨y, hy⟩ : ∃ r, x.seg x.c.nx 20 [] = r := ⟨_, rfl⟩
  rw [hy] at cS
  have cC2 := closed_l true y
  unfold Stp.abort
  rw [hy]
  cases h0 : (x.c.st == 0) with
  | true =>
    have h0' : (x.c.st != 0) = false := by simpa using h0
    rw [cond_true]
    dsimp only [spR, spL, oL] at cC ⊢
    refine ACallL.of_ev mixed Tryz.func98 rfl (fun a w => Tryz.call98 a w) (congrArg Array.toList Tryz.results98) Tryz.ntmps98 fun B hB => ?_
    ((conv => whnf); (repeat' ((first | (with_reducible first | refine qif_n ?_ | refine qif_t ‹_› ?_ | refine qif_f ‹_› ?_) | ((with_reducible refine qif_t ?_ ?_); focus decide) | ((with_reducible refine qif_f ?_ ?_); focus decide) | (with_reducible refine And.intro (orderOk_i ?ho) ?_; (case ho => kernel_rfl)) | (with_reducible first | refine qif_i (fun _ => ?_) (fun _ => ?_) | refine frcVs_i ?_ | refine frcRs_i ?_) | (((with_reducible refine qCall.of (cC) [(1, 1)] [(0, 0), (2, 2), (3, 3), (4, 4), (5, 5), (6, 6), (7, 7)] [] [] [(1, spO (spR true 6 7 x.shut))] (.tup []) ?hk ?_); (case hk => rfl); (conv => whnf); (repeat (refine And.intro ?_ ?_; exact sideT; (conv => whnf))); (fail_if_success (with_reducible first | refine And.intro (eqv_i ?_) ?_ | refine And.intro (ren_i ?_) ?_))))) <;> (conv => whnf))))
    (refine qConv.of hB [(1, 1)] [(0, 0), (2, 2), (3, 3), (4, 4), (5, 5), (6, 8), (7, 9)] [] (by rfl) ?_; focus ((conv => whnf); (repeat (refine And.intro ?_ ?_; rotate_left; (conv => whnf))); exact trivial; all_goals (try exact andT)))
    all_goals (try exact dt_AhTcpJ_ROW)
  | false =>
    have h0' : (x.c.st != 0) = true := by simpa using h0
    rw [cond_false]
    dsimp only [spR, spL, oL] at cS cC2 ⊢
    refine ACallL.of_ev mixed Tryz.func98 rfl (fun a w => Tryz.call98 a w) (congrArg Array.toList Tryz.results98) Tryz.ntmps98 fun B hB => ?_
    ((conv => whnf); (repeat' ((first | (with_reducible first | refine qif_n ?_ | refine qif_t ‹_› ?_ | refine qif_f ‹_› ?_) | ((with_reducible refine qif_t ?_ ?_); focus decide) | ((with_reducible refine qif_f ?_ ?_); focus decide) | (with_reducible refine And.intro (orderOk_i ?ho) ?_; (case ho => kernel_rfl)) | (with_reducible first | refine qif_i (fun _ => ?_) (fun _ => ?_) | refine frcVs_i ?_ | refine frcRs_i ?_)) <;> (conv => whnf))))
    ((with_reducible refine qCall.of (cS) [(1, 1)] [(0, 0), (2, 2), (3, 3), (4, 4), (5, 5), (6, 6), (7, 7)] [] [(8, 8), (9, 9)] [(1, spO (spR true 8 9 y)), (6, .dead), (7, .dead), (8, .uniq), (9, .uniq)] (.tup []) ?hk ?_); (case hk => rfl); (conv => whnf); (repeat (refine And.intro ?_ ?_; exact sideT; (conv => whnf))); (fail_if_success (with_reducible first | refine And.intro (eqv_i ?_) ?_ | refine And.intro (ren_i ?_) ?_)))
    ((conv => whnf); (repeat' ((first | (with_reducible first | refine qif_n ?_ | refine qif_t ‹_› ?_ | refine qif_f ‹_› ?_) | ((with_reducible refine qif_t ?_ ?_); focus decide) | ((with_reducible refine qif_f ?_ ?_); focus decide) | (with_reducible refine And.intro (orderOk_i ?ho) ?_; (case ho => kernel_rfl)) | (with_reducible first | refine qif_i (fun _ => ?_) (fun _ => ?_) | refine frcVs_i ?_ | refine frcRs_i ?_)) <;> (conv => whnf))))
    ((with_reducible refine qCall.of (cC2) [(1, 1)] [(0, 0), (2, 2), (3, 3), (4, 4), (5, 5), (6, 8), (7, 9)] [] [] [(1, spO (spR true 8 9 y.shut))] (.tup []) ?hk ?_); (case hk => rfl); (conv => whnf); (repeat (refine And.intro ?_ ?_; exact sideT; (conv => whnf))); (fail_if_success (with_reducible first | refine And.intro (eqv_i ?_) ?_ | refine And.intro (ren_i ?_) ?_)))
    ((conv => whnf); (repeat' ((first | (with_reducible first | refine qif_n ?_ | refine qif_t ‹_› ?_ | refine qif_f ‹_› ?_) | ((with_reducible refine qif_t ?_ ?_); focus decide) | ((with_reducible refine qif_f ?_ ?_); focus decide) | (with_reducible refine And.intro (orderOk_i ?ho) ?_; (case ho => kernel_rfl)) | (with_reducible first | refine qif_i (fun _ => ?_) (fun _ => ?_) | refine frcVs_i ?_ | refine frcRs_i ?_)) <;> (conv => whnf))))
    (refine qConv.of hB [(1, 1)] [(0, 0), (2, 2), (3, 3), (4, 4), (5, 5), (8, 8), (9, 9)] [] (by rfl) ?_; focus ((conv => whnf); (repeat (refine And.intro ?_ ?_; rotate_left; (conv => whnf))); exact trivial; all_goals (try exact andT)))
    all_goals (try exact dt_AhTcpJ_ROW)
end Go.Proofs.YtceohcbokbalhaaGreat
